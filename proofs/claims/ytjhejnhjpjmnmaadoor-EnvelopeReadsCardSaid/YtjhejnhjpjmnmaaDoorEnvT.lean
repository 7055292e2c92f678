/- envelope.Read: the walk. -/
import Derived.Test.YtjhejnhjpjmnmaaDoorEnvTMath
import Derived.Laws.ResultCell
set_option linter.unusedVariables false
namespace Go.Proofs.YtjhejnhjpjmnmaaDoor
open Go.RowKit
namespace Ev
theorem neq_t {a b : Nat} (h : ¬ a = b) : ((a : Int) != (b : Int)) = true := by rw [bne_iff_ne]; omega
theorem neq_f {a b : Nat} (h : a = b) : ((a : Int) != (b : Int)) = false := by rw [h]; simp
theorem one_sz (s : St) : (one s).2.1.size ≤ s.1.size ∧ (one s).1 < 256 := by
  unfold one
  split
  · exact ⟨tk_size _ _, by show 0 < 256; omega⟩
  · exact ⟨tk_size _ _, UInt8.toNat_lt _⟩
theorem tk_sz (n : Nat) (s : St) : (tk n s).1.size ≤ s.1.size := by
  unfold tk
  split
  · exact Nat.zero_le _
  · simp; omega
theorem rtxt_sz (s : St) : (rtxt s).2.1.size ≤ s.1.size ∧ (rtxt s).1.size ≤ s.1.size :=
  ⟨Nat.le_trans (tk_size _ _) (num_facts s).2, Nat.le_trans (tk_sz _ _) (num_facts s).2⟩
theorem tk_eight {s : St} (h : (tk 8 s).2.2 = false) : (tk 8 s).1.size = 8 := by
  unfold tk at h ⊢
  split at h
  · cases h
  · rename_i hn
    rw [if_neg hn]
    simp only [not_or] at hn
    simp
    omega
theorem readP_of {b : ByteArray} {l : Letter} {f : Bool} {P : ByteArray × Nat} (hc : crcOk b = true) (hp : parse (b.extract 0 (b.size - 4)) = (l, f)) (hk : pack l = P) : readP b = if f = false ∧ P.2 = 0 ∧ P.1 = b then (l, 0) else (Letter.zero, 162) := by
  subst hk
  unfold readP
  rw [if_pos hc, hp]
  simp only
  cases hr : right l
  · rw [pack_no hr, if_neg (by simp), if_neg (by simp)]
  · rw [pack_yes hr]
    have e : (ba (bytes l) = b) = ((⟨(bytes l).toArray⟩ : ByteArray) = b) := rfl
    by_cases h : f = false ∧ ba (bytes l) = b
    · rw [if_pos ⟨h.1, rfl, h.2⟩, if_pos ⟨h.1, rfl, h.2⟩]
    · rw [if_neg (fun h' => h ⟨h'.1, h'.2.2⟩), if_neg (fun h' => h ⟨h'.1, h'.2.2⟩)]
end Ev
theorem crc_val {b : ByteArray} (h4 : 4 ≤ b.size) (h : Sm.crc ((b.extract 0 (b.size - 4)).data.toList) = Sm.val4 ((b.extract (b.size - 4) b.size).data.toList)) : Ev.crcOk b = true := by
  unfold Ev.crcOk
  rw [Lib.extract_data, Lib.extract_data, List.drop_zero, Nat.sub_zero] at h
  rw [show b.size - (b.size - 4) = 4 from by omega, List.take_of_length_le (l := b.data.toList.drop (b.size - 4)) (by simp; omega)] at h
  simp [h4, h]
theorem crc_val_no {b : ByteArray} (h4 : 4 ≤ b.size) (h : Sm.crc ((b.extract 0 (b.size - 4)).data.toList) ≠ Sm.val4 ((b.extract (b.size - 4) b.size).data.toList)) : Ev.crcOk b = false := by
  unfold Ev.crcOk
  rw [Lib.extract_data, Lib.extract_data, List.drop_zero, Nat.sub_zero] at h
  rw [show b.size - (b.size - 4) = 4 from by omega, List.take_of_length_le (l := b.data.toList.drop (b.size - 4)) (by simp; omega)] at h
  simp [h4, h]
set_option maxRecDepth 100000 in
set_option maxHeartbeats 8000000 in
theorem read_short (b : ByteArray) (hs : b.size < 4) (w : World) :
    Calls Tryd.prog 13 #[.string b] w fun e w' => e = .returned (.tuple #[(Ev.readP b).1.val, .int .i64 (Ev.readP b).2]) ∧ Below w.heap.size w w' := by
  have HC : Hid (Ev.readP b = (Ev.Letter.zero, 8)) := Lib.hid (Ev.readP_bad (by unfold Ev.crcOk; simp; omega))
  have hi : (b.size : Int) < 4 := by omega
  go_enter Tryd.func13, Tryd.ntmps13
  go_wp2_with fail
  refine bodyPost_ret (v := .tuple #[Ev.Letter.zero.val, .int .i64 8]) ?_ rfl ⟨by rw [HC.out]; rfl, ?_⟩
  · rw [results_cell_tmp rfl]
    go_simp
    try rfl
  · exact (Below.refl _ _).alloc (Nat.le_refl _) _
set_option maxRecDepth 100000 in
set_option maxHeartbeats 16000000 in
theorem read_long (b : ByteArray) (h4 : 4 ≤ b.size) (hs : b.size ≤ 10000) (w : World) (hk : Tk.KW w) :
    Calls Tryd.prog 13 #[.string b] w fun e w' => e = .returned (.tuple #[(Ev.readP b).1.val, .int .i64 (Ev.readP b).2]) ∧ Below w.heap.size w w' := by
  have hi : ¬ (b.size : Int) < 4 := by omega
  have hi2 : (0 : Int) ≤ (b.size : Int) - 4 := by omega
  have hi3 : (b.size : Int) - 4 ≤ (b.size : Int) := by omega
  have HCY := Lib.hid (crc_val h4)
  have HCN := Lib.hid (crc_val_no h4)
  have hhz : (b.extract 0 (b.size - 4)).size = b.size - 4 := by simp
  have htz : (b.extract (b.size - 4) b.size).size = 4 := by simp; omega
  have hnt : ((b.size : Int) - 4).toNat = b.size - 4 := by omega
  have HNT := Lib.hid hnt
  clear hnt
  go_enter Tryd.func13, Tryd.ntmps13
  go_wp2_with fail
  generalize hh : b.extract 0 (b.size - 4) = h at *
  have HP0 := Lib.hid hh
  clear hh
  have hz : h.size + 4 = b.size := by omega
  have hz2 : b.size - 4 = h.size := by omega
  rw [hz2] at HCY HCN htz
  rw [Lib.extract_data b h.size b.size] at HCY HCN
  clear hhz hz2 HNT hi2 hi3
  have b1 : (h.size : Int) ≤ (b.size : Int) := by omega
  have b2 : (0 : Int) ≤ (h.size : Int) := by omega
  have hbz : b.size ≤ maxLen := by unfold maxLen; omega
  have hhm : h.size ≤ maxLen := by unfold maxLen; omega
  have HBZ := Lib.hid hbz
  have HHM := Lib.hid hhm
  have HTZ := Lib.hid htz
  have HZ := Lib.hid hz
  have hle : h.size ≤ 10000 := by omega
  clear hbz hhm htz hz
  have hQ0 : Bk _ w.heap.size 24 _ := Bk.new w 24 #[.int .u8 0, .int .i64 0, .int .i64 0, .int .u64 0, .string ⟨#[]⟩, .int .u64 0, .string ⟨#[]⟩, .string ⟨#[]⟩, .int .i64 0, .string ⟨#[]⟩]
  have hB0 : Below w.heap.size w _ := (Below.refl w.heap.size w).alloc (Nat.le_refl _) (.cells #[.int .u8 0, .int .i64 0, .int .i64 0, .int .u64 0, .string ⟨#[]⟩, .int .u64 0, .string ⟨#[]⟩, .string ⟨#[]⟩, .int .i64 0, .string ⟨#[]⟩] 24)
  have hk0 := hk.any hB0 hk.1
  generalize w.alloc (.cells #[.int .u8 0, .int .i64 0, .int .i64 0, .int .u64 0, .string ⟨#[]⟩, .int .u64 0, .string ⟨#[]⟩, .string ⟨#[]⟩, .int .i64 0, .string ⟨#[]⟩] 24) = w0 at *
  have hcl := Sm.crc_lt h.data.toList
  have hcw := u64_wrap (Sm.crc h.data.toList) (by omega)
  have b3 : h.size ≤ b.size := by omega
  refine wp_region_bl w0 (by kernel_rfl) (by kernel_rfl) (Bl.refl w0) ?_
  repeat (first | go_big_quiet_step ((intro hb; first | (go_at_call 24; exact calls_bl hb (crc_any _ HHM.out _)) | (go_at_call 29; exact calls_bl_draws hb (getLittle_any _ (by rw [HTZ.out]; omega) _)))) | (refine wpQuiet_step (fun K hK => ?_); go_simp; refine ⟨_, fun _ _ => rfl, hK _ ?_⟩; clear hK K))
  refine wpQuiet_nil ?_
  intro w2 hw2
  replace hB0 := hB0.trans (hw2.mono hB0.size)
  replace hQ0 := hQ0.below hw2 hQ0.lt
  replace hk0 := hk0.below hw2
  clear hw2 w0 b1 b2 hcw
  by_cases hsum : Sm.crc h.data.toList = Sm.val4 ((b.data.toList.drop h.size).take (b.size - h.size))
  · have ht := Ev.neq_f hsum
    have hc := HCY.out hsum
    clear hsum HCY HCN
    obtain ⟨x1, s1, f1, e1⟩ : ∃ x s f, Ev.one (h, false) = (x, (s, f)) := ⟨_, _, _, rfl⟩
    have z1 := Ev.one_sz (h, false)
    rw [e1] at z1
    simp only at z1
    obtain ⟨x2, s2, f2, e2⟩ : ∃ x s f, Ev.one (s1, f1) = (x, (s, f)) := ⟨_, _, _, rfl⟩
    have z2 := Ev.one_sz (s1, f1)
    rw [e2] at z2
    simp only at z2
    obtain ⟨x3, s3, f3, e3⟩ : ∃ x s f, Ev.one (s2, f2) = (x, (s, f)) := ⟨_, _, _, rfl⟩
    have z3 := Ev.one_sz (s2, f2)
    rw [e3] at z3
    simp only at z3
    obtain ⟨x4, s4, f4, e4⟩ : ∃ x s f, Ev.num (s3, f3) = (x, (s, f)) := ⟨_, _, _, rfl⟩
    have z4 := Ev.num_facts (s3, f3)
    rw [e4] at z4
    simp only at z4
    obtain ⟨x5, s5, f5, e5⟩ : ∃ x s f, Ev.rtxt (s4, f4) = (x, (s, f)) := ⟨_, _, _, rfl⟩
    have z5 := Ev.rtxt_sz (s4, f4)
    rw [e5] at z5
    simp only at z5
    obtain ⟨x6, s6, f6, e6⟩ : ∃ x s f, Ev.tk 8 (s5, f5) = (x, (s, f)) := ⟨_, _, _, rfl⟩
    have z6 := Ev.tk_size 8 (s5, f5)
    have y6 := Ev.tk_eight (s := (s5, f5))
    rw [e6] at y6
    simp only at y6
    rw [e6] at z6
    simp only at z6
    obtain ⟨x7, s7, f7, e7⟩ : ∃ x s f, Ev.rtxt (s6, f6) = (x, (s, f)) := ⟨_, _, _, rfl⟩
    have z7 := Ev.rtxt_sz (s6, f6)
    rw [e7] at z7
    simp only at z7
    obtain ⟨x8, s8, f8, e8⟩ : ∃ x s f, Ev.rtxt (s7, f7) = (x, (s, f)) := ⟨_, _, _, rfl⟩
    have z8 := Ev.rtxt_sz (s7, f7)
    rw [e8] at z8
    simp only at z8
    obtain ⟨x9, s9, f9, e9⟩ : ∃ x s f, Ev.num (s8, f8) = (x, (s, f)) := ⟨_, _, _, rfl⟩
    have z9 := Ev.num_facts (s8, f8)
    rw [e9] at z9
    simp only at z9
    obtain ⟨x10, s10, f10, e10⟩ : ∃ x s f, Ev.rtxt (s9, f9) = (x, (s, f)) := ⟨_, _, _, rfl⟩
    have z10 := Ev.rtxt_sz (s9, f9)
    rw [e10] at z10
    simp only at z10
    have HPP : Hid (Ev.parse h = (⟨x1, x2, x3, x4, x5, if f6 then 0 else Ev.bigv 0 x6.data.toList, x7, x8, min (x9 : Int) 1000, x10⟩, f10)) := Lib.hid (by simp only [Ev.parse, e1, e2, e3, e4, e5, e6, e7, e8, e9, e10])
    have E1 := Lib.hid e1
    have E2 := Lib.hid e2
    have E3 := Lib.hid e3
    have E4 := Lib.hid e4
    have E5 := Lib.hid e5
    have E6 := Lib.hid e6
    have E7 := Lib.hid e7
    have E8 := Lib.hid e8
    have E9 := Lib.hid e9
    have E10 := Lib.hid e10
    have HC := Lib.hid hc
    have Y6 := Lib.hid y6
    clear hc y6 e1 e2 e3 e4 e5 e6 e7 e8 e9 e10
    have hK := (hk0.below ((Below.refl _ _).alloc (Nat.le_refl _) (.cells #[.string h, .bool false] 52)))
    have hB1 := (hB0.alloc hB0.size (.cells #[.string h, .bool false] 52)).alloc (by rw [World.size_alloc]; have := hB0.size; omega) (.cells #[.int .u8 0, .int .i64 0, .int .i64 0, .int .u64 0, .string ⟨#[]⟩, .int .u64 0, .string ⟨#[]⟩, .string ⟨#[]⟩, .int .i64 0, .string ⟨#[]⟩] 24)
    have hQ1 := (hQ0.alloc (.cells #[.string h, .bool false] 52)).alloc (.cells #[.int .u8 0, .int .i64 0, .int .i64 0, .int .u64 0, .string ⟨#[]⟩, .int .u64 0, .string ⟨#[]⟩, .string ⟨#[]⟩, .int .i64 0, .string ⟨#[]⟩] 24)
    have hR1 : Ev.Rb _ w2.heap.size (h, false) := (Bk.new w2 52 #[.string h, .bool false]).alloc (.cells #[.int .u8 0, .int .i64 0, .int .i64 0, .int .u64 0, .string ⟨#[]⟩, .int .u64 0, .string ⟨#[]⟩, .string ⟨#[]⟩, .int .i64 0, .string ⟨#[]⟩] 24)
    have hL1 := Bk.new (w2.alloc (.cells #[.string h, .bool false] 52)) 24 #[.int .u8 0, .int .i64 0, .int .i64 0, .int .u64 0, .string ⟨#[]⟩, .int .u64 0, .string ⟨#[]⟩, .string ⟨#[]⟩, .int .i64 0, .string ⟨#[]⟩]
    rw [World.size_alloc] at hL1
    have hqn : w.heap.size < w2.heap.size := hQ0.lt
    have hwb : w.heap.size ≤ w2.heap.size := hB0.size
    clear hQ0 hB0 hK hk0
    go_wp2_with fail
    generalize ((w2.alloc (.cells #[.string h, .bool false] 52)).alloc (.cells #[.int .u8 0, .int .i64 0, .int .i64 0, .int .u64 0, .string ⟨#[]⟩, .int .u64 0, .string ⟨#[]⟩, .string ⟨#[]⟩, .int .i64 0, .string ⟨#[]⟩] 24)) = v0 at *
    generalize w2.heap.size = rb at *
    have hM1 : (rb : Nat) + 1 ≠ w.heap.size := by omega
    have HZ1 : h.size ≤ maxLen := by unfold maxLen; omega
    refine (one_any rb h false HZ1 v0 hR1).mono ?_
    rw [E1.out]
    rintro e u1 ⟨rfl, hr1, hg1⟩
    simp only at hr1
    have hl1 := hL1.grown hg1 (by simp)
    have hq1 := hQ1.grown hg1 (by intro e; injection e with e; omega)
    have hb1 := below_gb hB1 hg1 hwb hB1.size
    clear hR1 hL1 hQ1 hB1 hg1
    have cS : u1.cell? ⟨rb + 1, 0, none⟩ = some (.int .u8 0) := hl1.cell 0
    have fS := hl1.frozen 0
    have HR1 := Lib.hid hr1
    have HL1 := Lib.hid hl1
    have HQ1 := Lib.hid hq1
    clear hr1 hl1 hq1
    go_wp2_with fail
    have hR2 : Ev.Rb (u1.setCell ⟨rb + 1, 0, none⟩ (.int .u8 x1)) rb (s1, f1) := Bk.far HR1.out (by simp) _
    have hL2 : Bk (u1.setCell ⟨rb + 1, 0, none⟩ (.int .u8 x1)) (rb + 1) 24 #[.int .u8 x1, .int .i64 0, .int .i64 0, .int .u64 0, .string ⟨#[]⟩, .int .u64 0, .string ⟨#[]⟩, .string ⟨#[]⟩, .int .i64 0, .string ⟨#[]⟩] := HL1.out.set_ 0 _
    have hQ2 := HQ1.out.far (p := ⟨rb + 1, 0, none⟩) (Ne.symm hM1) (.int .u8 x1)
    have hB2 := hb1.setCell (p := ⟨rb + 1, 0, none⟩) (by show w.heap.size ≤ rb + 1; omega) (.int .u8 x1)
    generalize u1.setCell ⟨rb + 1, 0, none⟩ (.int .u8 x1) = v1 at *
    clear cS fS HR1 HL1 HQ1 hb1
    have HZ2 : s1.size ≤ maxLen := by unfold maxLen; omega
    refine (one_any rb s1 f1 HZ2 v1 hR2).mono ?_
    rw [E2.out]
    rintro e u2 ⟨rfl, hr2, hg2⟩
    simp only at hr2
    have hl2 := hL2.grown hg2 (by simp)
    have hq2 := hQ2.grown hg2 (by intro e; injection e with e; omega)
    have hb2 := below_gb hB2 hg2 hwb hB2.size
    clear hR2 hL2 hQ2 hB2 hg2
    have cS : u2.cell? ⟨rb + 1, 1, none⟩ = some (.int .i64 0) := hl2.cell 1
    have fS := hl2.frozen 1
    have HR2 := Lib.hid hr2
    have HL2 := Lib.hid hl2
    have HQ2 := Lib.hid hq2
    clear hr2 hl2 hq2
    go_wp2_with fail
    have hR3 : Ev.Rb (u2.setCell ⟨rb + 1, 1, none⟩ (.int .i64 x2)) rb (s2, f2) := Bk.far HR2.out (by simp) _
    have hL3 : Bk (u2.setCell ⟨rb + 1, 1, none⟩ (.int .i64 x2)) (rb + 1) 24 #[.int .u8 x1, .int .i64 x2, .int .i64 0, .int .u64 0, .string ⟨#[]⟩, .int .u64 0, .string ⟨#[]⟩, .string ⟨#[]⟩, .int .i64 0, .string ⟨#[]⟩] := HL2.out.set_ 1 _
    have hQ3 := HQ2.out.far (p := ⟨rb + 1, 1, none⟩) (Ne.symm hM1) (.int .i64 x2)
    have hB3 := hb2.setCell (p := ⟨rb + 1, 1, none⟩) (by show w.heap.size ≤ rb + 1; omega) (.int .i64 x2)
    generalize u2.setCell ⟨rb + 1, 1, none⟩ (.int .i64 x2) = v2 at *
    clear cS fS HR2 HL2 HQ2 hb2
    have HZ3 : s2.size ≤ maxLen := by unfold maxLen; omega
    refine (one_any rb s2 f2 HZ3 v2 hR3).mono ?_
    rw [E3.out]
    rintro e u3 ⟨rfl, hr3, hg3⟩
    simp only at hr3
    have hl3 := hL3.grown hg3 (by simp)
    have hq3 := hQ3.grown hg3 (by intro e; injection e with e; omega)
    have hb3 := below_gb hB3 hg3 hwb hB3.size
    clear hR3 hL3 hQ3 hB3 hg3
    have cS : u3.cell? ⟨rb + 1, 2, none⟩ = some (.int .i64 0) := hl3.cell 2
    have fS := hl3.frozen 2
    have HR3 := Lib.hid hr3
    have HL3 := Lib.hid hl3
    have HQ3 := Lib.hid hq3
    clear hr3 hl3 hq3
    go_wp2_with fail
    have hR4 : Ev.Rb (u3.setCell ⟨rb + 1, 2, none⟩ (.int .i64 x3)) rb (s3, f3) := Bk.far HR3.out (by simp) _
    have hL4 : Bk (u3.setCell ⟨rb + 1, 2, none⟩ (.int .i64 x3)) (rb + 1) 24 #[.int .u8 x1, .int .i64 x2, .int .i64 x3, .int .u64 0, .string ⟨#[]⟩, .int .u64 0, .string ⟨#[]⟩, .string ⟨#[]⟩, .int .i64 0, .string ⟨#[]⟩] := HL3.out.set_ 2 _
    have hQ4 := HQ3.out.far (p := ⟨rb + 1, 2, none⟩) (Ne.symm hM1) (.int .i64 x3)
    have hB4 := hb3.setCell (p := ⟨rb + 1, 2, none⟩) (by show w.heap.size ≤ rb + 1; omega) (.int .i64 x3)
    generalize u3.setCell ⟨rb + 1, 2, none⟩ (.int .i64 x3) = v3 at *
    clear cS fS HR3 HL3 HQ3 hb3
    have HZ4 : s3.size ≤ maxLen := by unfold maxLen; omega
    refine (number_r rb s3 f3 HZ4 v3 hR4).mono ?_
    rw [E4.out]
    rintro e u4 ⟨rfl, hr4, hg4⟩
    simp only at hr4
    have hl4 := hL4.grown hg4 (by simp)
    have hq4 := hQ4.grown hg4 (by intro e; injection e with e; omega)
    have hb4 := below_gb hB4 hg4 hwb hB4.size
    clear hR4 hL4 hQ4 hB4 hg4
    have cS : u4.cell? ⟨rb + 1, 3, none⟩ = some (.int .u64 0) := hl4.cell 3
    have fS := hl4.frozen 3
    have HR4 := Lib.hid hr4
    have HL4 := Lib.hid hl4
    have HQ4 := Lib.hid hq4
    clear hr4 hl4 hq4
    go_wp2_with fail
    have hR5 : Ev.Rb (u4.setCell ⟨rb + 1, 3, none⟩ (.int .u64 x4)) rb (s4, f4) := Bk.far HR4.out (by simp) _
    have hL5 : Bk (u4.setCell ⟨rb + 1, 3, none⟩ (.int .u64 x4)) (rb + 1) 24 #[.int .u8 x1, .int .i64 x2, .int .i64 x3, .int .u64 x4, .string ⟨#[]⟩, .int .u64 0, .string ⟨#[]⟩, .string ⟨#[]⟩, .int .i64 0, .string ⟨#[]⟩] := HL4.out.set_ 3 _
    have hQ5 := HQ4.out.far (p := ⟨rb + 1, 3, none⟩) (Ne.symm hM1) (.int .u64 x4)
    have hB5 := hb4.setCell (p := ⟨rb + 1, 3, none⟩) (by show w.heap.size ≤ rb + 1; omega) (.int .u64 x4)
    generalize u4.setCell ⟨rb + 1, 3, none⟩ (.int .u64 x4) = v4 at *
    clear cS fS HR4 HL4 HQ4 hb4
    have HZ5 : s4.size ≤ maxLen := by unfold maxLen; omega
    refine (text_r rb s4 f4 HZ5 v4 hR5).mono ?_
    rw [E5.out]
    rintro e u5 ⟨rfl, hr5, hg5⟩
    simp only at hr5
    have hl5 := hL5.grown hg5 (by simp)
    have hq5 := hQ5.grown hg5 (by intro e; injection e with e; omega)
    have hb5 := below_gb hB5 hg5 hwb hB5.size
    clear hR5 hL5 hQ5 hB5 hg5
    have cS : u5.cell? ⟨rb + 1, 4, none⟩ = some (.string ⟨#[]⟩) := hl5.cell 4
    have fS := hl5.frozen 4
    have HR5 := Lib.hid hr5
    have HL5 := Lib.hid hl5
    have HQ5 := Lib.hid hq5
    clear hr5 hl5 hq5
    go_wp2_with fail
    have hR6 : Ev.Rb (u5.setCell ⟨rb + 1, 4, none⟩ (.string x5)) rb (s5, f5) := Bk.far HR5.out (by simp) _
    have hL6 : Bk (u5.setCell ⟨rb + 1, 4, none⟩ (.string x5)) (rb + 1) 24 #[.int .u8 x1, .int .i64 x2, .int .i64 x3, .int .u64 x4, .string x5, .int .u64 0, .string ⟨#[]⟩, .string ⟨#[]⟩, .int .i64 0, .string ⟨#[]⟩] := HL5.out.set_ 4 _
    have hQ6 := HQ5.out.far (p := ⟨rb + 1, 4, none⟩) (Ne.symm hM1) (.string x5)
    have hB6 := hb5.setCell (p := ⟨rb + 1, 4, none⟩) (by show w.heap.size ≤ rb + 1; omega) (.string x5)
    generalize u5.setCell ⟨rb + 1, 4, none⟩ (.string x5) = v5 at *
    clear cS fS HR5 HL5 HQ5 hb5
    have HZ6 : s5.size ≤ maxLen := by unfold maxLen; omega
    refine (take_any rb 8 s5 f5 HZ6 (by omega) v5 hR6).mono ?_
    rw [E6.out]
    rintro e u6 ⟨rfl, hr6, hg6⟩
    simp only at hr6
    have hl6 := hL6.grown hg6 (by simp)
    have hq6 := hQ6.grown hg6 (by intro e; injection e with e; omega)
    have hb6 := below_gb hB6 hg6 hwb hB6.size
    clear hR6 hL6 hQ6 hB6 hg6
    have c6 := hr6.c1
    have HR6 := Lib.hid hr6
    have HL6 := Lib.hid hl6
    have HQ6 := Lib.hid hq6
    clear hr6 hl6 hq6
    obtain ⟨pr, HPR⟩ : ∃ pr : Nat, Hid (pr = if f6 = true then 0 else Ev.bigv 0 x6.data.toList) := ⟨_, Lib.hid rfl⟩
    rw [← HPR.out] at HPP
    have hpr : pr < 18446744073709551616 := by rw [HPR.out]; split <;> first | omega | exact Ev.bigv_lt _ _ (by decide)
    by_cases hf6 : f6 = true
    case' neg =>
      replace hf6 : f6 = false := by simpa using hf6
      have HBV : Hid (pr = Ev.bigv 0 x6.data.toList) := Lib.hid (by rw [HPR.out, hf6]; rfl)
      have cS : u6.cell? ⟨rb + 1, 5, none⟩ = some (.int .u64 0) := HL6.out.cell 5
      have fS := HL6.out.frozen 5
      go_wp2_with fail
      refine (getBig_any x6 (Y6.out hf6) _).mono ?_
      rintro e u ⟨rfl, q, rfl⟩
      rw [← HBV.out]
      go_wp2_with fail
      have hR7 : Ev.Rb ((u6.drewN q).setCell ⟨rb + 1, 5, none⟩ (.int .u64 pr)) rb (s6, f6) := Bk.far (w := u6.drewN q) HR6.out (by simp) _
      have hL7 : Bk ((u6.drewN q).setCell ⟨rb + 1, 5, none⟩ (.int .u64 pr)) (rb + 1) 24 #[.int .u8 x1, .int .i64 x2, .int .i64 x3, .int .u64 x4, .string x5, .int .u64 pr, .string ⟨#[]⟩, .string ⟨#[]⟩, .int .i64 0, .string ⟨#[]⟩] := Bk.set_ (w := u6.drewN q) HL6.out 5 _
      have hQ7 := Bk.far (w := u6.drewN q) HQ6.out (p := ⟨rb + 1, 5, none⟩) (Ne.symm hM1) (.int .u64 pr)
      have hB7 := (below_drewN hb6 q).setCell (p := ⟨rb + 1, 5, none⟩) (by show w.heap.size ≤ rb + 1; omega) (.int .u64 pr)
      generalize ((u6.drewN q).setCell ⟨rb + 1, 5, none⟩ (.int .u64 (pr : Int))) = v6 at *
      clear cS fS c6 HBV hf6
    case' pos =>
      have HBV : Hid (pr = 0) := Lib.hid (by rw [HPR.out, if_pos hf6])
      go_wp2_with fail
      have hR7 := HR6.out
      have hL7 : Bk u6 (rb + 1) 24 #[.int .u8 x1, .int .i64 x2, .int .i64 x3, .int .u64 x4, .string x5, .int .u64 pr, .string ⟨#[]⟩, .string ⟨#[]⟩, .int .i64 0, .string ⟨#[]⟩] := by rw [HBV.out]; exact HL6.out
      have hQ7 := HQ6.out
      have hB7 := hb6
      obtain ⟨v6, rfl⟩ : ∃ v6 : World, v6 = u6 := ⟨_, rfl⟩
      clear c6 HBV hf6
    all_goals
      clear HR6 HL6 HQ6 hb6 HPR Y6
      have HZ7 : s6.size ≤ maxLen := by unfold maxLen; omega
      refine (text_r rb s6 f6 HZ7 v6 hR7).mono ?_
      rw [E7.out]
      rintro e u7 ⟨rfl, hr7, hg7⟩
      simp only at hr7
      have hl7 := hL7.grown hg7 (by simp)
      have hq7 := hQ7.grown hg7 (by intro e; injection e with e; omega)
      have hb7 := below_gb hB7 hg7 hwb hB7.size
      clear hR7 hL7 hQ7 hB7 hg7
      have cS : u7.cell? ⟨rb + 1, 6, none⟩ = some (.string ⟨#[]⟩) := hl7.cell 6
      have fS := hl7.frozen 6
      have HR7 := Lib.hid hr7
      have HL7 := Lib.hid hl7
      have HQ7 := Lib.hid hq7
      clear hr7 hl7 hq7
      go_wp2_with fail
      have hR8 : Ev.Rb (u7.setCell ⟨rb + 1, 6, none⟩ (.string x7)) rb (s7, f7) := Bk.far HR7.out (by simp) _
      have hL8 : Bk (u7.setCell ⟨rb + 1, 6, none⟩ (.string x7)) (rb + 1) 24 #[.int .u8 x1, .int .i64 x2, .int .i64 x3, .int .u64 x4, .string x5, .int .u64 pr, .string x7, .string ⟨#[]⟩, .int .i64 0, .string ⟨#[]⟩] := HL7.out.set_ 6 _
      have hQ8 := HQ7.out.far (p := ⟨rb + 1, 6, none⟩) (Ne.symm hM1) (.string x7)
      have hB8 := hb7.setCell (p := ⟨rb + 1, 6, none⟩) (by show w.heap.size ≤ rb + 1; omega) (.string x7)
      generalize u7.setCell ⟨rb + 1, 6, none⟩ (.string x7) = v7 at *
      clear cS fS HR7 HL7 HQ7 hb7
      have HZ8 : s7.size ≤ maxLen := by unfold maxLen; omega
      refine (text_r rb s7 f7 HZ8 v7 hR8).mono ?_
      rw [E8.out]
      rintro e u8 ⟨rfl, hr8, hg8⟩
      simp only at hr8
      have hl8 := hL8.grown hg8 (by simp)
      have hq8 := hQ8.grown hg8 (by intro e; injection e with e; omega)
      have hb8 := below_gb hB8 hg8 hwb hB8.size
      clear hR8 hL8 hQ8 hB8 hg8
      have cS : u8.cell? ⟨rb + 1, 7, none⟩ = some (.string ⟨#[]⟩) := hl8.cell 7
      have fS := hl8.frozen 7
      have HR8 := Lib.hid hr8
      have HL8 := Lib.hid hl8
      have HQ8 := Lib.hid hq8
      clear hr8 hl8 hq8
      go_wp2_with fail
      have hR9 : Ev.Rb (u8.setCell ⟨rb + 1, 7, none⟩ (.string x8)) rb (s8, f8) := Bk.far HR8.out (by simp) _
      have hL9 : Bk (u8.setCell ⟨rb + 1, 7, none⟩ (.string x8)) (rb + 1) 24 #[.int .u8 x1, .int .i64 x2, .int .i64 x3, .int .u64 x4, .string x5, .int .u64 pr, .string x7, .string x8, .int .i64 0, .string ⟨#[]⟩] := HL8.out.set_ 7 _
      have hQ9 := HQ8.out.far (p := ⟨rb + 1, 7, none⟩) (Ne.symm hM1) (.string x8)
      have hB9 := hb8.setCell (p := ⟨rb + 1, 7, none⟩) (by show w.heap.size ≤ rb + 1; omega) (.string x8)
      generalize u8.setCell ⟨rb + 1, 7, none⟩ (.string x8) = v8 at *
      clear cS fS HR8 HL8 HQ8 hb8
      have HZ9 : s8.size ≤ maxLen := by unfold maxLen; omega
      refine (number_r rb s8 f8 HZ9 v8 hR9).mono ?_
      rw [E9.out]
      rintro e u9 ⟨rfl, hr9, hg9⟩
      simp only at hr9
      have hl9 := hL9.grown hg9 (by simp)
      have hq9 := hQ9.grown hg9 (by intro e; injection e with e; omega)
      have hb9 := below_gb hB9 hg9 hwb hB9.size
      clear hR9 hL9 hQ9 hB9 hg9
      have cS : u9.cell? ⟨rb + 1, 8, none⟩ = some (.int .i64 0) := hl9.cell 8
      have fS := hl9.frozen 8
      have HR9 := Lib.hid hr9
      have HL9 := Lib.hid hl9
      have HQ9 := Lib.hid hq9
      clear hr9 hl9 hq9
      go_wp2_with fail
      have hR10 : Ev.Rb (u9.setCell ⟨rb + 1, 8, none⟩ (.int .i64 (min (x9 : Int) 1000))) rb (s9, f9) := Bk.far HR9.out (by simp) _
      have hL10 : Bk (u9.setCell ⟨rb + 1, 8, none⟩ (.int .i64 (min (x9 : Int) 1000))) (rb + 1) 24 #[.int .u8 x1, .int .i64 x2, .int .i64 x3, .int .u64 x4, .string x5, .int .u64 pr, .string x7, .string x8, .int .i64 (min (x9 : Int) 1000), .string ⟨#[]⟩] := HL9.out.set_ 8 _
      have hQ10 := HQ9.out.far (p := ⟨rb + 1, 8, none⟩) (Ne.symm hM1) (.int .i64 (min (x9 : Int) 1000))
      have hB10 := hb9.setCell (p := ⟨rb + 1, 8, none⟩) (by show w.heap.size ≤ rb + 1; omega) (.int .i64 (min (x9 : Int) 1000))
      generalize u9.setCell ⟨rb + 1, 8, none⟩ (.int .i64 (min (x9 : Int) 1000)) = v9 at *
      clear cS fS HR9 HL9 HQ9 hb9
      have HZ10 : s9.size ≤ maxLen := by unfold maxLen; omega
      refine (text_r rb s9 f9 HZ10 v9 hR10).mono ?_
      rw [E10.out]
      rintro e u10 ⟨rfl, hr10, hg10⟩
      simp only at hr10
      have hl10 := hL10.grown hg10 (by simp)
      have hq10 := hQ10.grown hg10 (by intro e; injection e with e; omega)
      have hb10 := below_gb hB10 hg10 hwb hB10.size
      clear hR10 hL10 hQ10 hB10 hg10
      have cS : u10.cell? ⟨rb + 1, 9, none⟩ = some (.string ⟨#[]⟩) := hl10.cell 9
      have fS := hl10.frozen 9
      have c0 : u10.cell? ⟨rb + 1, 0, none⟩ = some (.int .u8 x1) := hl10.cell 0
      have c1 : u10.cell? ⟨rb + 1, 1, none⟩ = some (.int .i64 x2) := hl10.cell 1
      have c2 : u10.cell? ⟨rb + 1, 2, none⟩ = some (.int .i64 x3) := hl10.cell 2
      have c3 : u10.cell? ⟨rb + 1, 3, none⟩ = some (.int .u64 x4) := hl10.cell 3
      have c4 : u10.cell? ⟨rb + 1, 4, none⟩ = some (.string x5) := hl10.cell 4
      have c5 : u10.cell? ⟨rb + 1, 5, none⟩ = some (.int .u64 pr) := hl10.cell 5
      have c6 : u10.cell? ⟨rb + 1, 6, none⟩ = some (.string x7) := hl10.cell 6
      have c7 : u10.cell? ⟨rb + 1, 7, none⟩ = some (.string x8) := hl10.cell 7
      have c8 : u10.cell? ⟨rb + 1, 8, none⟩ = some (.int .i64 (min (x9 : Int) 1000)) := hl10.cell 8
      have HR10 := Lib.hid hr10
      have HL10 := Lib.hid hl10
      have HQ10 := Lib.hid hq10
      clear hr10 hl10 hq10
      go_wp2_with fail
      have hR11 : Ev.Rb (u10.setCell ⟨rb + 1, 9, none⟩ (.string x10)) rb (s10, f10) := Bk.far HR10.out (by simp) _
      have hL11 : Bk (u10.setCell ⟨rb + 1, 9, none⟩ (.string x10)) (rb + 1) 24 #[.int .u8 x1, .int .i64 x2, .int .i64 x3, .int .u64 x4, .string x5, .int .u64 pr, .string x7, .string x8, .int .i64 (min (x9 : Int) 1000), .string x10] := HL10.out.set_ 9 _
      have hQ11 := HQ10.out.far (p := ⟨rb + 1, 9, none⟩) (Ne.symm hM1) (.string x10)
      have hB11 := hb10.setCell (p := ⟨rb + 1, 9, none⟩) (by show w.heap.size ≤ rb + 1; omega) (.string x10)
      generalize u10.setCell ⟨rb + 1, 9, none⟩ (.string x10) = v10 at *
      clear cS fS HR10 HL10 HQ10 hb10
      have hsz10 : x7.size ≤ 10000 ∧ x8.size ≤ 10000 := by omega
      have hok : Ev.Letter.ok ⟨x1, x2, x3, x4, x5, pr, x7, x8, min (x9 : Int) 1000, x10⟩ := ⟨z1.2, z4.1, hpr⟩
      have HPK := pack_any ⟨x1, x2, x3, x4, x5, pr, x7, x8, min (x9 : Int) 1000, x10⟩ hok hsz10 v10 (hk.any hB11 hk.1)
      have HRD := fun P hP => Ev.readP_of (P := P) (l := ⟨x1, x2, x3, x4, x5, pr, x7, x8, min (x9 : Int) 1000, x10⟩) (f := f10) HC.out (by rw [HP0.out]; exact HPP.out) hP
      have HVL : Hid ((⟨x1, x2, x3, x4, x5, pr, x7, x8, min (x9 : Int) 1000, x10⟩ : Ev.Letter).val = .agg #[.int .u8 x1, .int .i64 x2, .int .i64 x3, .int .u64 x4, .string x5, .int .u64 pr, .string x7, .string x8, .int .i64 (min (x9 : Int) 1000), .string x10]) := Lib.hid rfl
      rw [HVL.out] at HPK
      generalize hEP : Ev.pack ⟨x1, x2, x3, x4, x5, pr, x7, x8, min (x9 : Int) 1000, x10⟩ = P at *
      obtain ⟨P1, P2⟩ := P
      have HRR := Lib.hid (HRD _ rfl)
      simp only at HPK
      have HPK2 := Lib.hid HPK
      clear HPK hEP HRD hsz10 hok hk
      clear c0 c1 c2 c3 c4 c5 c6 c7 c8
      have HR11 := Lib.hid hR11
      have HL11 := Lib.hid hL11
      have HQ11 := Lib.hid hQ11
      clear hR11 hL11 hQ11
      have hvs := HR11.out.lt
      have hvq := HQ11.out.lt
      have hvl := HL11.out.lt
      refine HPK2.out.mono ?_
      rintro e u11 ⟨rfl, hb11⟩
      have hR := Bk.below HR11.out hb11 hvs
      have hL := Bk.below HL11.out hb11 hvl
      have hQ := Bk.below HQ11.out hb11 hvq
      have hB := hB11.trans (hb11.mono hB11.size)
      have cR : u11.cell? ⟨rb, 1, none⟩ = some (.bool f10) := hR.cell 1
      have c0 : u11.cell? ⟨rb + 1, 0, none⟩ = some (.int .u8 x1) := hL.cell 0
      have c1 : u11.cell? ⟨rb + 1, 1, none⟩ = some (.int .i64 x2) := hL.cell 1
      have c2 : u11.cell? ⟨rb + 1, 2, none⟩ = some (.int .i64 x3) := hL.cell 2
      have c3 : u11.cell? ⟨rb + 1, 3, none⟩ = some (.int .u64 x4) := hL.cell 3
      have c4 : u11.cell? ⟨rb + 1, 4, none⟩ = some (.string x5) := hL.cell 4
      have c5 : u11.cell? ⟨rb + 1, 5, none⟩ = some (.int .u64 pr) := hL.cell 5
      have c6 : u11.cell? ⟨rb + 1, 6, none⟩ = some (.string x7) := hL.cell 6
      have c7 : u11.cell? ⟨rb + 1, 7, none⟩ = some (.string x8) := hL.cell 7
      have c8 : u11.cell? ⟨rb + 1, 8, none⟩ = some (.int .i64 (min (x9 : Int) 1000)) := hL.cell 8
      have c9 : u11.cell? ⟨rb + 1, 9, none⟩ = some (.string x10) := hL.cell 9
      have q0 : u11.cell? ⟨w.heap.size, 0, none⟩ = some (.int .u8 0) := hQ.cell 0
      have q1 : u11.cell? ⟨w.heap.size, 1, none⟩ = some (.int .i64 0) := hQ.cell 1
      have q2 : u11.cell? ⟨w.heap.size, 2, none⟩ = some (.int .i64 0) := hQ.cell 2
      have q3 : u11.cell? ⟨w.heap.size, 3, none⟩ = some (.int .u64 0) := hQ.cell 3
      have q4 : u11.cell? ⟨w.heap.size, 4, none⟩ = some (.string ⟨#[]⟩) := hQ.cell 4
      have q5 : u11.cell? ⟨w.heap.size, 5, none⟩ = some (.int .u64 0) := hQ.cell 5
      have q6 : u11.cell? ⟨w.heap.size, 6, none⟩ = some (.string ⟨#[]⟩) := hQ.cell 6
      have q7 : u11.cell? ⟨w.heap.size, 7, none⟩ = some (.string ⟨#[]⟩) := hQ.cell 7
      have q8 : u11.cell? ⟨w.heap.size, 8, none⟩ = some (.int .i64 0) := hQ.cell 8
      have q9 : u11.cell? ⟨w.heap.size, 9, none⟩ = some (.string ⟨#[]⟩) := hQ.cell 9
      have p0 : u11.frozen? ⟨w.heap.size, 0, none⟩ = false := hQ.frozen 0
      have p1 : u11.frozen? ⟨w.heap.size, 1, none⟩ = false := hQ.frozen 1
      have p2 : u11.frozen? ⟨w.heap.size, 2, none⟩ = false := hQ.frozen 2
      have p3 : u11.frozen? ⟨w.heap.size, 3, none⟩ = false := hQ.frozen 3
      have p4 : u11.frozen? ⟨w.heap.size, 4, none⟩ = false := hQ.frozen 4
      have p5 : u11.frozen? ⟨w.heap.size, 5, none⟩ = false := hQ.frozen 5
      have p6 : u11.frozen? ⟨w.heap.size, 6, none⟩ = false := hQ.frozen 6
      have p7 : u11.frozen? ⟨w.heap.size, 7, none⟩ = false := hQ.frozen 7
      have p8 : u11.frozen? ⟨w.heap.size, 8, none⟩ = false := hQ.frozen 8
      have p9 : u11.frozen? ⟨w.heap.size, 9, none⟩ = false := hQ.frozen 9
      clear hR hL hQ hB11 hb11 HR11 HL11 HQ11
      by_cases g1 : f10 = true
      · have HF : Hid (Ev.readP b = (Ev.Letter.zero, 162)) := Lib.hid (by rw [HRR.out, if_neg (by rintro ⟨h1, _⟩; rw [g1] at h1; cases h1)])
        go_wp2_with fail
        refine bodyPost_ret (v := .tuple #[Ev.Letter.zero.val, .int .i64 162]) ?_ rfl ⟨by rw [HF.out]; rfl, ?_⟩
        · rw [results_cell_tmp rfl]
          go_simp
          try rfl
        · exact ((((((((((hB.setCell (p := ⟨w.heap.size, _, none⟩) (Nat.le_refl _) _).setCell (p := ⟨w.heap.size, _, none⟩) (Nat.le_refl _) _).setCell (p := ⟨w.heap.size, _, none⟩) (Nat.le_refl _) _).setCell (p := ⟨w.heap.size, _, none⟩) (Nat.le_refl _) _).setCell (p := ⟨w.heap.size, _, none⟩) (Nat.le_refl _) _).setCell (p := ⟨w.heap.size, _, none⟩) (Nat.le_refl _) _).setCell (p := ⟨w.heap.size, _, none⟩) (Nat.le_refl _) _).setCell (p := ⟨w.heap.size, _, none⟩) (Nat.le_refl _) _).setCell (p := ⟨w.heap.size, _, none⟩) (Nat.le_refl _) _).setCell (p := ⟨w.heap.size, _, none⟩) (Nat.le_refl _) _)
      · replace g1 : f10 = false := by simpa using g1
        by_cases g2 : P2 = 0
        · by_cases g3 : P1 = b
          · have HF : Hid (Ev.readP b = (⟨x1, x2, x3, x4, x5, pr, x7, x8, min (x9 : Int) 1000, x10⟩, 0)) := Lib.hid (by rw [HRR.out, if_pos ⟨g1, g2, g3⟩])
            have t2 : ((P2 : Int) != 0) = false := by rw [g2]; rfl
            have t3 : (!P1.toList == b.toList) = false := by rw [g3]; simp
            clear g2 g3
            go_wp2_with fail
            refine bodyPost_ret (v := .tuple #[(⟨x1, x2, x3, x4, x5, pr, x7, x8, min (x9 : Int) 1000, x10⟩ : Ev.Letter).val, .int .i64 0]) ?_ rfl ⟨by rw [HF.out]; rfl, ?_⟩
            · rw [results_cell_tmp rfl]
              go_simp
              try rfl
            · exact ((((((((((hB.setCell (p := ⟨w.heap.size, _, none⟩) (Nat.le_refl _) _).setCell (p := ⟨w.heap.size, _, none⟩) (Nat.le_refl _) _).setCell (p := ⟨w.heap.size, _, none⟩) (Nat.le_refl _) _).setCell (p := ⟨w.heap.size, _, none⟩) (Nat.le_refl _) _).setCell (p := ⟨w.heap.size, _, none⟩) (Nat.le_refl _) _).setCell (p := ⟨w.heap.size, _, none⟩) (Nat.le_refl _) _).setCell (p := ⟨w.heap.size, _, none⟩) (Nat.le_refl _) _).setCell (p := ⟨w.heap.size, _, none⟩) (Nat.le_refl _) _).setCell (p := ⟨w.heap.size, _, none⟩) (Nat.le_refl _) _).setCell (p := ⟨w.heap.size, _, none⟩) (Nat.le_refl _) _)
          · have HF : Hid (Ev.readP b = (Ev.Letter.zero, 162)) := Lib.hid (by rw [HRR.out, if_neg (fun hh => g3 hh.2.2)])
            have t2 : ((P2 : Int) != 0) = false := by rw [g2]; rfl
            have t3 : (!P1.toList == b.toList) = true := by simpa using fun e => g3 (Tk.text_eq e)
            clear g2 g3
            go_wp2_with fail
            refine bodyPost_ret (v := .tuple #[Ev.Letter.zero.val, .int .i64 162]) ?_ rfl ⟨by rw [HF.out]; rfl, ?_⟩
            · rw [results_cell_tmp rfl]
              go_simp
              try rfl
            · exact ((((((((((hB.setCell (p := ⟨w.heap.size, _, none⟩) (Nat.le_refl _) _).setCell (p := ⟨w.heap.size, _, none⟩) (Nat.le_refl _) _).setCell (p := ⟨w.heap.size, _, none⟩) (Nat.le_refl _) _).setCell (p := ⟨w.heap.size, _, none⟩) (Nat.le_refl _) _).setCell (p := ⟨w.heap.size, _, none⟩) (Nat.le_refl _) _).setCell (p := ⟨w.heap.size, _, none⟩) (Nat.le_refl _) _).setCell (p := ⟨w.heap.size, _, none⟩) (Nat.le_refl _) _).setCell (p := ⟨w.heap.size, _, none⟩) (Nat.le_refl _) _).setCell (p := ⟨w.heap.size, _, none⟩) (Nat.le_refl _) _).setCell (p := ⟨w.heap.size, _, none⟩) (Nat.le_refl _) _)
        · have HF : Hid (Ev.readP b = (Ev.Letter.zero, 162)) := Lib.hid (by rw [HRR.out, if_neg (fun hh => g2 hh.2.1)])
          have t2 : ((P2 : Int) != 0) = true := by rw [bne_iff_ne]; omega
          clear g2
          go_wp2_with fail
          refine bodyPost_ret (v := .tuple #[Ev.Letter.zero.val, .int .i64 162]) ?_ rfl ⟨by rw [HF.out]; rfl, ?_⟩
          · rw [results_cell_tmp rfl]
            go_simp
            try rfl
          · exact ((((((((((hB.setCell (p := ⟨w.heap.size, _, none⟩) (Nat.le_refl _) _).setCell (p := ⟨w.heap.size, _, none⟩) (Nat.le_refl _) _).setCell (p := ⟨w.heap.size, _, none⟩) (Nat.le_refl _) _).setCell (p := ⟨w.heap.size, _, none⟩) (Nat.le_refl _) _).setCell (p := ⟨w.heap.size, _, none⟩) (Nat.le_refl _) _).setCell (p := ⟨w.heap.size, _, none⟩) (Nat.le_refl _) _).setCell (p := ⟨w.heap.size, _, none⟩) (Nat.le_refl _) _).setCell (p := ⟨w.heap.size, _, none⟩) (Nat.le_refl _) _).setCell (p := ⟨w.heap.size, _, none⟩) (Nat.le_refl _) _).setCell (p := ⟨w.heap.size, _, none⟩) (Nat.le_refl _) _)
  · have ht := Ev.neq_t hsum
    have HR : Hid (Ev.readP b = (Ev.Letter.zero, 8)) := Lib.hid (Ev.readP_bad (HCN.out hsum))
    clear hsum
    have q0 : w2.cell? ⟨w.heap.size, 0, none⟩ = some (.int .u8 0) := hQ0.cell 0
    have q1 : w2.cell? ⟨w.heap.size, 1, none⟩ = some (.int .i64 0) := hQ0.cell 1
    have q2 : w2.cell? ⟨w.heap.size, 2, none⟩ = some (.int .i64 0) := hQ0.cell 2
    have q3 : w2.cell? ⟨w.heap.size, 3, none⟩ = some (.int .u64 0) := hQ0.cell 3
    have q4 : w2.cell? ⟨w.heap.size, 4, none⟩ = some (.string ⟨#[]⟩) := hQ0.cell 4
    have q5 : w2.cell? ⟨w.heap.size, 5, none⟩ = some (.int .u64 0) := hQ0.cell 5
    have q6 : w2.cell? ⟨w.heap.size, 6, none⟩ = some (.string ⟨#[]⟩) := hQ0.cell 6
    have q7 : w2.cell? ⟨w.heap.size, 7, none⟩ = some (.string ⟨#[]⟩) := hQ0.cell 7
    have q8 : w2.cell? ⟨w.heap.size, 8, none⟩ = some (.int .i64 0) := hQ0.cell 8
    have q9 : w2.cell? ⟨w.heap.size, 9, none⟩ = some (.string ⟨#[]⟩) := hQ0.cell 9
    have p0 : w2.frozen? ⟨w.heap.size, 0, none⟩ = false := hQ0.frozen 0
    have p1 : w2.frozen? ⟨w.heap.size, 1, none⟩ = false := hQ0.frozen 1
    have p2 : w2.frozen? ⟨w.heap.size, 2, none⟩ = false := hQ0.frozen 2
    have p3 : w2.frozen? ⟨w.heap.size, 3, none⟩ = false := hQ0.frozen 3
    have p4 : w2.frozen? ⟨w.heap.size, 4, none⟩ = false := hQ0.frozen 4
    have p5 : w2.frozen? ⟨w.heap.size, 5, none⟩ = false := hQ0.frozen 5
    have p6 : w2.frozen? ⟨w.heap.size, 6, none⟩ = false := hQ0.frozen 6
    have p7 : w2.frozen? ⟨w.heap.size, 7, none⟩ = false := hQ0.frozen 7
    have p8 : w2.frozen? ⟨w.heap.size, 8, none⟩ = false := hQ0.frozen 8
    have p9 : w2.frozen? ⟨w.heap.size, 9, none⟩ = false := hQ0.frozen 9
    go_wp2_with fail
    refine bodyPost_ret (v := .tuple #[Ev.Letter.zero.val, .int .i64 8]) ?_ rfl ⟨by rw [HR.out]; rfl, ?_⟩
    · rw [results_cell_tmp rfl]
      go_simp
      try rfl
    · exact ((((((((((hB0.setCell (p := ⟨w.heap.size, _, none⟩) (Nat.le_refl _) _).setCell (p := ⟨w.heap.size, _, none⟩) (Nat.le_refl _) _).setCell (p := ⟨w.heap.size, _, none⟩) (Nat.le_refl _) _).setCell (p := ⟨w.heap.size, _, none⟩) (Nat.le_refl _) _).setCell (p := ⟨w.heap.size, _, none⟩) (Nat.le_refl _) _).setCell (p := ⟨w.heap.size, _, none⟩) (Nat.le_refl _) _).setCell (p := ⟨w.heap.size, _, none⟩) (Nat.le_refl _) _).setCell (p := ⟨w.heap.size, _, none⟩) (Nat.le_refl _) _).setCell (p := ⟨w.heap.size, _, none⟩) (Nat.le_refl _) _).setCell (p := ⟨w.heap.size, _, none⟩) (Nat.le_refl _) _)
theorem read_any (b : ByteArray) (hs : b.size ≤ 10000) (w : World) (hk : Tk.KW w) :
    Calls Tryd.prog 13 #[.string b] w fun e w' => e = .returned (.tuple #[(Ev.readP b).1.val, .int .i64 (Ev.readP b).2]) ∧ Below w.heap.size w w' := by
  by_cases h4 : b.size < 4
  · exact read_short b h4 w
  · exact read_long b (by omega) hs w hk
end Go.Proofs.YtjhejnhjpjmnmaaDoor
