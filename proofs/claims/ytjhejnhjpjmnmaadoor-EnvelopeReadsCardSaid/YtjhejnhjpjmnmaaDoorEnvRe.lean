/- The reference's Read. -/
import Derived.Test.YtjhejnhjpjmnmaaDoorEnvRd
import Derived.Test.YtjhejnhjpjmnmaaDoorEnvQ2
import Derived.Test.YtjhejnhjpjmnmaaDoorQR
set_option linter.unusedVariables false
namespace Go.Proofs.YtjhejnhjpjmnmaaDoor
open Go.RowKit
namespace Ev
theorem crcOk_tail {b : ByteArray} (h4 : 4 ≤ b.size) : crcOk b = true ↔ b.extract (b.size - 4) b.size = ⟨(Sm.le4 (Sm.crc (b.extract 0 (b.size - 4)).data.toList)).toArray⟩ := by
  have e1 : (b.extract 0 (b.size - 4)).data.toList = b.data.toList.take (b.size - 4) := by rw [Lib.extract_data, List.drop_zero, Nat.sub_zero]
  have e2 : (b.extract (b.size - 4) b.size).data.toList = b.data.toList.drop (b.size - 4) := by
    rw [Lib.extract_data, List.take_of_length_le (by rw [List.length_drop, list_len]; omega)]
  have hl : (b.data.toList.drop (b.size - 4)).length = 4 := by rw [List.length_drop, list_len]; omega
  unfold crcOk
  rw [e1]
  constructor
  · intro h
    simp only [Bool.and_eq_true, decide_eq_true_eq] at h
    refine ext_list ?_
    rw [e2, h.2, Sm.le4_val4 (by omega), List.take_of_length_le (by omega)]
  · intro h
    have h' := congrArg (fun s : ByteArray => s.data.toList) h
    simp only at h'
    rw [e2] at h'
    simp only [Bool.and_eq_true, decide_eq_true_eq]
    refine ⟨h4, ?_⟩
    rw [h']
    have := Sm.val4_le4 (Sm.crc_lt (b.data.toList.take (b.size - 4))) []
    rw [List.append_nil] at this
    exact this.symm
theorem rread_short {b : ByteArray} (h : b.size < 4) : rread b = (Letter.zero, 8) := by
  unfold rread
  rw [if_pos (by unfold crcOk; simp; omega)]
theorem rread_bad {b : ByteArray} (h : crcOk b = false) : rread b = (Letter.zero, 8) := by
  unfold rread
  rw [if_pos h]
theorem rread_three {b : ByteArray} (h : crcOk b = true) (h3 : b.size - 4 < 3) : rread b = (Letter.zero, 162) := by
  unfold rread
  rw [if_neg (by simp [h]), if_pos h3]
theorem rread_none {b : ByteArray} (h : crcOk b = true) (hp : rparse (b.extract 0 (b.size - 4)) = none) : rread b = (Letter.zero, 162) := by
  unfold rread
  rw [if_neg (by simp [h]), hp]
  split <;> rfl
theorem rread_some {b : ByteArray} {l : Letter} {P : ByteArray × Nat} (h : crcOk b = true) (h3 : ¬ b.size - 4 < 3) (hp : rparse (b.extract 0 (b.size - 4)) = some l) (hk : pack l = P) : rread b = if P.2 = 0 ∧ P.1 = b then (l, 0) else (Letter.zero, 162) := by
  unfold rread
  rw [if_neg (by simp [h]), if_neg h3, hp]
  subst hk
  rfl
end Ev
set_option maxRecDepth 100000 in
set_option maxHeartbeats 16000000 in
theorem rread_any (b : ByteArray) (hs : b.size ≤ 9500) (w : World) :
    Calls Tryd.prog 14 #[.string b] w fun e w' => e = .returned (.tuple #[(Ev.rread b).1.val, .int .i64 (Ev.rread b).2]) ∧ Below w.heap.size w w' := by
  by_cases h4 : b.size < 4
  · have HC := Lib.hid (Ev.rread_short h4)
    have hneg : decide ((b.size : Int) - 4 < 0) = true := decide_eq_true (by omega)
    go_enter Tryd.func14, Tryd.ntmps14
    go_wp2_with fail
    go_quiet (fail)
    have hQ : Bk _ w.heap.size 24 _ := (Bk.new w 24 #[.int .u8 0, .int .i64 0, .int .i64 0, .int .u64 0, .string ⟨#[]⟩, .int .u64 0, .string ⟨#[]⟩, .string ⟨#[]⟩, .int .i64 0, .string ⟨#[]⟩]).drewN nq
    have hB : Below w.heap.size w _ := below_drewN ((Below.refl w.heap.size w).alloc (Nat.le_refl _) (.cells #[.int .u8 0, .int .i64 0, .int .i64 0, .int .u64 0, .string ⟨#[]⟩, .int .u64 0, .string ⟨#[]⟩, .string ⟨#[]⟩, .int .i64 0, .string ⟨#[]⟩] 24)) nq
    generalize (w.alloc (.cells #[.int .u8 0, .int .i64 0, .int .i64 0, .int .u64 0, .string ⟨#[]⟩, .int .u64 0, .string ⟨#[]⟩, .string ⟨#[]⟩, .int .i64 0, .string ⟨#[]⟩] 24)).drewN nq = w2 at *
    go_wp2_with (refine wpList_store_row rfl _ _ _ rfl _ _ rfl rfl _ _ hQ (by kernel_rfl) rfl (by simp [Value.oneCell']) ?_)
    (refine ret_row rfl _ rfl _ _ _ (hQ.row _) Tryd.underlying24 rfl (by kernel_rfl) rfl ⟨?_, below_row hB (Nat.le_refl _) _⟩)
    rw [HC.out]
    rfl
  · have hneg : decide ((b.size : Int) - 4 < 0) = false := decide_eq_false (by omega)
    have hi2 : (0 : Int) ≤ (b.size : Int) - 4 := by omega
    have h44 : (4 : Int) ≤ (b.size : Int) := by omega
    have hi3 : (b.size : Int) - 4 ≤ (b.size : Int) := by omega
    have HCT := Lib.hid (Ev.crcOk_tail (b := b) (by omega))
    have HRB := Lib.hid (Ev.rread_bad (b := b))
    have hhz : (b.extract 0 (b.size - 4)).size = b.size - 4 := by simp
    have hnt : ((b.size : Int) - 4).toNat = b.size - 4 := by omega
    go_enter Tryd.func14, Tryd.ntmps14
    go_wp2_with fail
    have hQ0 : Bk _ w.heap.size 24 _ := Bk.new w 24 #[.int .u8 0, .int .i64 0, .int .i64 0, .int .u64 0, .string ⟨#[]⟩, .int .u64 0, .string ⟨#[]⟩, .string ⟨#[]⟩, .int .i64 0, .string ⟨#[]⟩]
    have hB0 : Below w.heap.size w _ := (Below.refl w.heap.size w).alloc (Nat.le_refl _) (.cells #[.int .u8 0, .int .i64 0, .int .i64 0, .int .u64 0, .string ⟨#[]⟩, .int .u64 0, .string ⟨#[]⟩, .string ⟨#[]⟩, .int .i64 0, .string ⟨#[]⟩] 24)
    generalize w.alloc (.cells #[.int .u8 0, .int .i64 0, .int .i64 0, .int .u64 0, .string ⟨#[]⟩, .int .u64 0, .string ⟨#[]⟩, .string ⟨#[]⟩, .int .i64 0, .string ⟨#[]⟩] 24) = w0 at *
    have HTL : Hid (∀ w, _) := Lib.hid (fun w' => tail_any (b.extract 0 (b.size - 4)) (by rw [hhz]; unfold maxLen; omega) w')
    refine wp_region_bl w0 (by kernel_rfl) (by kernel_rfl) (Bl.refl w0) ?_
    repeat (first | go_big_quiet_step ((intro hb; exact calls_bl hb (HTL.out _))) | (refine wpQuiet_step (fun K hK => ?_); go_simp; refine ⟨_, fun _ _ => rfl, hK _ ?_⟩; clear hK K))
    refine wpQuiet_nil ?_
    intro w2 hw2
    have hQ := hQ0.below hw2 hQ0.lt
    have hB := hB0.trans (hw2.mono hB0.size)
    have ht0 : (b.extract 0 (b.size - 4)).data.toList = b.data.toList.take (b.size - 4) := by rw [Lib.extract_data, List.drop_zero, Nat.sub_zero]
    rw [ht0] at HCT
    have hbe : ∀ s : ByteArray, ∀ l : List UInt8, (s.toList == l) = true ↔ s = ⟨l.toArray⟩ := fun s l => by
      rw [beq_iff_eq]
      constructor
      · intro h
        refine Tk.text_eq (h.trans ?_)
        simp
      · rintro rfl
        simp
    by_cases hcrc : Ev.crcOk b = true
    · have ht1 : ((b.extract (b.size - 4) b.size).toList == Sm.le4 (Sm.crc (b.data.toList.take (b.size - 4)))) = true := (hbe _ _).2 (HCT.out.1 hcrc)
      clear hbe HCT HRB hQ0 hB0 HTL hw2 ht0
      have HR3 := Lib.hid (Ev.rread_three hcrc)
      have HRN := Lib.hid (Ev.rread_none hcrc)
      have HRS := Lib.hid (fun l P h3 hp hk => Ev.rread_some (l := l) (P := P) hcrc h3 hp hk)
      simp only [ht1, Bool.not_true]
      clear ht1 hcrc hneg
      by_cases h3 : b.size - 4 < 3
      · have h3i : (b.size : Int) - 4 < 3 := by omega
        have HC := Lib.hid (HR3.out h3)
        clear HRN HRS HR3
        go_wp2_with (refine wpList_store_row rfl _ _ _ rfl _ _ rfl rfl _ _ hQ (by kernel_rfl) rfl (by simp [Value.oneCell']) ?_)
        (refine ret_row rfl _ rfl _ _ _ (hQ.row _) Tryd.underlying24 rfl (by kernel_rfl) rfl ⟨?_, below_row hB (Nat.le_refl _) _⟩)
        rw [HC.out]
        rfl
      · have h3i : ¬ (b.size : Int) - 4 < 3 := by omega
        go_wp2_with fail
        replace HRS := Lib.hid (fun l P hp hk => HRS.out l P h3 hp hk)
        have hsz : (b.size : Int) - 4 = ((b.extract 0 (b.size - 4)).size : Int) := by rw [hhz]; omega
        have hbh : (b.size : Int) = (b.extract 0 (b.size - 4)).size + 4 := by omega
        clear hhz hnt HR3
        generalize b.extract 0 (b.size - 4) = h at *
        simp only [hsz]
        have hw8 : ∀ x : UInt8, wrap64 (x.toNat : Int) = (x.toNat : Int) := fun x => by have := x.toNat_lt; unfold wrap64; omega
        have i0 : 0 < h.size := by omega
        have i1 : 1 < h.size := by omega
        have i2 : 2 < h.size := by omega
        have i1i : (1 : Int) < (h.size : Int) := by omega
        have i2i : (2 : Int) < (h.size : Int) := by omega
        have hh : h.size ≤ 9500 := by omega
        clear hsz hi2 h44 hi3 h3i h3
        go_region
        have hx0 : ((h[0].toNat : Nat) : Int) = ((h.data.toList.getD 0 0).toNat : Int) := by rw [Sm.getD_byte h 0 i0]
        have hx1 : ((h[1].toNat : Nat) : Int) = ((h.data.toList.getD 1 0).toNat : Int) := by rw [Sm.getD_byte h 1 i1]
        have hx2 : ((h[2].toNat : Nat) : Int) = ((h.data.toList.getD 2 0).toNat : Int) := by rw [Sm.getD_byte h 2 i2]
        have z0 := UInt8.toNat_lt (h.data.toList.getD 0 0)
        simp only [hw8, hx0, hx1, hx2]
        have hRP := Ev.rparse.eq_1 h
        clear hw8 hx0 hx1 hx2 i0 i1 i2
        generalize (h.data.toList.getD 0 0).toNat = x0 at *
        generalize (h.data.toList.getD 1 0).toNat = x1 at *
        generalize (h.data.toList.getD 2 0).toNat = x2 at *
        have hL : Bk _ w2.heap.size 24 #[.int .u8 x0, .int .i64 x1, .int .i64 x2, .int .u64 0, .string ⟨#[]⟩, .int .u64 0, .string ⟨#[]⟩, .string ⟨#[]⟩, .int .i64 0, .string ⟨#[]⟩] := (Bk.new w2 24 #[.int .u8 x0, .int .i64 x1, .int .i64 x2, .int .u64 0, .string ⟨#[]⟩, .int .u64 0, .string ⟨#[]⟩, .string ⟨#[]⟩, .int .i64 0, .string ⟨#[]⟩]).drew
        have hQ' := (hQ.alloc (.cells #[.int .u8 x0, .int .i64 x1, .int .i64 x2, .int .u64 0, .string ⟨#[]⟩, .int .u64 0, .string ⟨#[]⟩, .string ⟨#[]⟩, .int .i64 0, .string ⟨#[]⟩] 24)).drew
        have hB' := (hB.alloc hB.size (.cells #[.int .u8 x0, .int .i64 x1, .int .i64 x2, .int .u64 0, .string ⟨#[]⟩, .int .u64 0, .string ⟨#[]⟩, .string ⟨#[]⟩, .int .i64 0, .string ⟨#[]⟩] 24)).drew
        have hgl : w.heap.size < w2.heap.size := hQ.lt
        clear hQ hB
        generalize (w2.alloc (.cells #[.int .u8 x0, .int .i64 x1, .int .i64 x2, .int .u64 0, .string ⟨#[]⟩, .int .u64 0, .string ⟨#[]⟩, .string ⟨#[]⟩, .int .i64 0, .string ⟨#[]⟩] 24)).drew = w3 at *
        generalize w2.heap.size = gl at *
        have hQ := hQ'
        have hB := hB'
        clear hQ' hB'
        have C4 := rnumber_any h (by omega) 3 (by omega)
        have F4 := Ev.rnum_facts h 3 (by omega)
        generalize Ev.rnum h 3 = A4 at *
        obtain ⟨a4, p4⟩ := A4
        simp only at C4 F4 hRP
        have C5 := rsome_any h (by omega) p4 (by omega)
        have F5 := Ev.rsome_facts h p4 (by omega)
        generalize Ev.rsome h p4 = A5 at *
        obtain ⟨a5, p5⟩ := A5
        simp only at C5 F5 hRP
        have HRP := Lib.hid hRP
        replace C4 := Lib.hid C4
        replace C5 := Lib.hid C5
        replace F4 := Lib.hid F4
        clear hRP
        obtain ⟨F5a, F5b, F5c⟩ := F5
        go_wp2_with fail
        refine (C4.out _).mono ?_
        rintro e w4 ⟨rfl, hb⟩
        have hL' := hL.below hb hL.lt
        have hQ' := hQ.below hb hQ.lt
        have hB' := bl_join hB hb
        clear hL hQ hB hb C4
        have hL := hL'
        clear hL'
        have hQ := hQ'
        have hB := hB'
        clear hQ' hB'
        have cS := hL.cell 3
        have fS := hL.frozen 3
        simp only [List.getElem?_toArray, List.getElem?_cons_succ, List.getElem?_cons_zero] at cS
        go_wp2_with fail
        have hL' : Bk (w4.setCell ⟨gl, 3, none⟩ (.int .u64 a4)) gl 24 #[.int .u8 x0, .int .i64 x1, .int .i64 x2, .int .u64 a4, .string ⟨#[]⟩, .int .u64 0, .string ⟨#[]⟩, .string ⟨#[]⟩, .int .i64 0, .string ⟨#[]⟩] := hL.set_ 3 _
        have hQ' := hQ.far (p := ⟨gl, 3, none⟩) (by show w.heap.size ≠ gl; omega) (.int .u64 a4)
        have hB' := hB.setCell (p := ⟨gl, 3, none⟩) (by show w.heap.size ≤ gl; omega) (.int .u64 a4)
        clear hL hQ hB cS fS
        generalize w4.setCell ⟨gl, 3, none⟩ (.int .u64 a4) = v4 at hL' hQ' hB' ⊢
        have hL := hL'
        clear hL'
        have hQ := hQ'
        have hB := hB'
        clear hQ' hB'
        refine (C5.out _).mono ?_
        rintro e w5 ⟨rfl, hb⟩
        have hL' := hL.below hb hL.lt
        have hQ' := hQ.below hb hQ.lt
        have hB' := bl_join hB hb
        clear hL hQ hB hb C5
        have hL := hL'
        clear hL'
        have hQ := hQ'
        have hB := hB'
        clear hQ' hB'
        have cS := hL.cell 4
        have fS := hL.frozen 4
        simp only [List.getElem?_toArray, List.getElem?_cons_succ, List.getElem?_cons_zero] at cS
        by_cases hc5 : p5 < 0
        · have HC := Lib.hid (HRN.out (HRP.out.trans (if_pos (.inl hc5))))
          clear HRN HRS HRP F4
          have hQ' := hQ.far (p := ⟨gl, 4, none⟩) (by show w.heap.size ≠ gl; omega) (.string a5)
          have hB' := hB.setCell (p := ⟨gl, 4, none⟩) (by show w.heap.size ≤ gl; omega) (.string a5)
          clear hQ hB hL
          have hQ := hQ'
          have hB := hB'
          clear hQ' hB'
          go_wp2_with (refine wpList_store_row rfl _ _ _ rfl _ _ rfl rfl _ _ hQ (by kernel_rfl) rfl (by simp [Value.oneCell']) ?_)
          (refine ret_row rfl _ rfl _ _ _ (hQ.row _) Tryd.underlying24 rfl (by kernel_rfl) rfl ⟨?_, below_row hB (Nat.le_refl _) _⟩)
          rw [HC.out]
          rfl
        · by_cases hc6 : (h.size : Int) < p5 + 8
          · have HC := Lib.hid (HRN.out (HRP.out.trans (if_pos (.inr hc6))))
            clear HRN HRS HRP F4
            have hQ' := hQ.far (p := ⟨gl, 4, none⟩) (by show w.heap.size ≠ gl; omega) (.string a5)
            have hB' := hB.setCell (p := ⟨gl, 4, none⟩) (by show w.heap.size ≤ gl; omega) (.string a5)
            clear hQ hB hL
            have hQ := hQ'
            have hB := hB'
            clear hQ' hB'
            go_wp2_with (refine wpList_store_row rfl _ _ _ rfl _ _ rfl rfl _ _ hQ (by kernel_rfl) rfl (by simp [Value.oneCell']) ?_)
            (refine ret_row rfl _ rfl _ _ _ (hQ.row _) Tryd.underlying24 rfl (by kernel_rfl) rfl ⟨?_, below_row hB (Nat.le_refl _) _⟩)
            rw [HC.out]
            rfl
          · replace HRP := Lib.hid (HRP.out.trans (if_neg (by omega)))
            obtain ⟨P5, rfl⟩ := Int.eq_ofNat_of_zero_le (show 0 ≤ p5 by omega)
            go_wp2_with fail
            have hL' : Bk (w5.setCell ⟨gl, 4, none⟩ (.string a5)) gl 24 #[.int .u8 x0, .int .i64 x1, .int .i64 x2, .int .u64 a4, .string a5, .int .u64 0, .string ⟨#[]⟩, .string ⟨#[]⟩, .int .i64 0, .string ⟨#[]⟩] := hL.set_ 4 _
            have hQ' := hQ.far (p := ⟨gl, 4, none⟩) (by show w.heap.size ≠ gl; omega) (.string a5)
            have hB' := hB.setCell (p := ⟨gl, 4, none⟩) (by show w.heap.size ≤ gl; omega) (.string a5)
            clear hL hQ hB cS fS
            generalize w5.setCell ⟨gl, 4, none⟩ (.string a5) = v5 at hL' hQ' hB' ⊢
            have hL := hL'
            clear hL'
            have hQ := hQ'
            have hB := hB'
            clear hQ' hB'
            have HP8 : P5 + 8 ≤ h.size := by omega
            have G4 := Lib.hid F4.out.1
            clear F4 F5b F5c hc5 hc6
            have hsplit : ∀ k, k < 8 → ∀ hk : P5 + k < h.size, (h.data.toList.drop P5).take (k + 1) = (h.data.toList.drop P5).take k ++ [h[P5 + k]] := fun k hk8 hk => by
              have hl : k < (h.data.toList.drop P5).length := by rw [List.length_drop, Ev.list_len]; omega
              rw [List.take_succ_eq_append_getElem hl]
              congr 2
              rw [List.getElem_drop]
              rfl
            rw [Int.toNat_natCast] at HRP
            generalize h.data.toList.drop P5 = L at hsplit HRP
            have HSP := Lib.hid hsplit
            clear hsplit
            go_loopw [8] (fun i wr => ∃ k : Nat, k ≤ 8 ∧ i = .int .i64 k ∧ Hid (Bk wr gl 24 #[.int .u8 x0, .int .i64 x1, .int .i64 x2, .int .u64 a4, .string a5, .int .u64 (Ev.bigv 0 (L.take k)), .string ⟨#[]⟩, .string ⟨#[]⟩, .int .i64 0, .string ⟨#[]⟩]) ∧ Hid (Bk wr w.heap.size 24 #[.int .u8 0, .int .i64 0, .int .i64 0, .int .u64 0, .string ⟨#[]⟩, .int .u64 0, .string ⟨#[]⟩, .string ⟨#[]⟩, .int .i64 0, .string ⟨#[]⟩]) ∧ Below w.heap.size w wr) (fun i _ => 8 - (intOf i).toNat)
            case atStart => exact ⟨0, by omega, rfl, Lib.hid hL, Lib.hid hQ, hB⟩
            case round =>
              clear hL hQ hB
              obtain ⟨k, hk, rfl, HL, HQ, hB⟩ := hrel
              by_cases hlt : k < 8
              · skip
                have hL := HL.out
                have c5 : wr.cell? ⟨gl, 5, none⟩ = some (.int .u64 (Ev.bigv 0 (L.take k))) := hL.cell 5
                have f5 := hL.frozen 5
                have hi : P5 + k < h.size := by omega
                have hii : (P5 : Int) + k < (h.size : Int) := by omega
                have htn : ((P5 : Int) + (k : Int)).toNat = P5 + k := by omega
                have hi0 : (0 : Int) ≤ (P5 : Int) + (k : Int) := by omega
                have hwr : IntKind.i64.wrap ((P5 : Int) + (k : Int)) = (P5 : Int) + k := by rw [IntKind.wrap_i64]; omega
                have HT := Lib.hid (HSP.out k hlt hi)
                have hx := h[P5 + k].toNat_lt
                have HB8 := Lib.hid (Ev.bigv_snoc (L.take k) 0 h[P5 + k])
                have hbl := Ev.bigv_lt (L.take k) 0 (by decide)
                have HK := Lib.hid hk
                clear hk hL
                go_wp2_with fail
                go_region
                go_wp2_with fail
                go_roundw
                case rel =>
                  have hv : IntKind.u64.wrap (IntKind.u64.wrap ((Ev.bigv 0 (L.take k) : Int) * 256) + (h[P5 + k].toNat : Int)) = (Ev.bigv 0 (L.take (k + 1)) : Int) := by
                    rw [HT.out, HB8.out, IntKind.wrap_u64, IntKind.wrap_u64]
                    omega
                  refine ⟨k + 1, by omega, by go_num, Lib.hid ?_, Lib.hid ?_, ?_⟩
                  · try rw [hv]
                    exact (HL.out.set_ 5 _).drew
                  · exact (HQ.out.far (by show w.heap.size ≠ gl; omega) _).drew
                  · exact (hB.setCell (by show w.heap.size ≤ gl; omega) _).drew
                case measure => simp [intOf]; omega
              · obtain rfl : k = 8 := by omega
                have hL := HL.out
                have hQ := HQ.out
                have g6 := Ev.bigv_lt (L.take 8) 0 (by decide)
                clear HL HQ HSP hk
                generalize Ev.bigv 0 (L.take 8) = a6 at *
                have C7 := rsome_any h (by omega) (P5 + 8) (by omega)
                have F7 := Ev.rsome_facts h (P5 + 8) (by omega)
                generalize Ev.rsome h (P5 + 8) = A7 at *
                obtain ⟨a7, p7⟩ := A7
                simp only at C7 F7 HRP
                have G6 := Lib.hid g6
                have C8 := rsome_any h (by omega) p7 (by omega)
                have F8 := Ev.rsome_facts h p7 (by omega)
                generalize Ev.rsome h p7 = A8 at *
                obtain ⟨a8, p8⟩ := A8
                simp only at C8 F8 HRP
                have C9 := rnumber_any h (by omega) p8 (by omega)
                have F9 := Ev.rnum_facts h p8 (by omega)
                generalize Ev.rnum h p8 = A9 at *
                obtain ⟨a9, p9⟩ := A9
                simp only at C9 F9 HRP
                have C10 := rsome_any h (by omega) p9 (by omega)
                have F10 := Ev.rsome_facts h p9 (by omega)
                generalize Ev.rsome h p9 = A10 at *
                obtain ⟨a10, p10⟩ := A10
                simp only at C10 F10 HRP
                have hz78 : a7.size ≤ 10000 ∧ a8.size ≤ 10000 := by omega
                have HZ := Lib.hid hz78
                have F9' := F9.1
                replace C7 := Lib.hid C7
                replace C8 := Lib.hid C8
                replace C9 := Lib.hid C9
                replace C10 := Lib.hid C10
                clear g6 hz78 F7 F8 F9 F10 hlt
                --S1
                go_wp2_with fail
                --S2
                refine (C7.out _).mono ?_
                rintro e w7 ⟨rfl, hb⟩
                have hL' := hL.below hb hL.lt
                have hQ' := hQ.below hb hQ.lt
                have hB' := bl_join hB hb
                clear hL hQ hB hb C7
                have hL := hL'
                clear hL'
                have hQ := hQ'
                have hB := hB'
                clear hQ' hB'
                have cS := hL.cell 6
                have fS := hL.frozen 6
                simp only [List.getElem?_toArray, List.getElem?_cons_succ, List.getElem?_cons_zero] at cS
                go_wp2_with fail
                have hL' : Bk (w7.setCell ⟨gl, 6, none⟩ (.string a7)) gl 24 #[.int .u8 x0, .int .i64 x1, .int .i64 x2, .int .u64 a4, .string a5, .int .u64 a6, .string a7, .string ⟨#[]⟩, .int .i64 0, .string ⟨#[]⟩] := hL.set_ 6 _
                have hQ' := hQ.far (p := ⟨gl, 6, none⟩) (by show w.heap.size ≠ gl; omega) (.string a7)
                have hB' := hB.setCell (p := ⟨gl, 6, none⟩) (by show w.heap.size ≤ gl; omega) (.string a7)
                clear hL hQ hB cS fS
                generalize w7.setCell ⟨gl, 6, none⟩ (.string a7) = v7 at hL' hQ' hB' ⊢
                have hL := hL'
                clear hL'
                have hQ := hQ'
                have hB := hB'
                clear hQ' hB'
                --S3
                refine (C8.out _).mono ?_
                rintro e w8 ⟨rfl, hb⟩
                have hL' := hL.below hb hL.lt
                have hQ' := hQ.below hb hQ.lt
                have hB' := bl_join hB hb
                clear hL hQ hB hb C8
                have hL := hL'
                clear hL'
                have hQ := hQ'
                have hB := hB'
                clear hQ' hB'
                have cS := hL.cell 7
                have fS := hL.frozen 7
                simp only [List.getElem?_toArray, List.getElem?_cons_succ, List.getElem?_cons_zero] at cS
                go_wp2_with fail
                have hL' : Bk (w8.setCell ⟨gl, 7, none⟩ (.string a8)) gl 24 #[.int .u8 x0, .int .i64 x1, .int .i64 x2, .int .u64 a4, .string a5, .int .u64 a6, .string a7, .string a8, .int .i64 0, .string ⟨#[]⟩] := hL.set_ 7 _
                have hQ' := hQ.far (p := ⟨gl, 7, none⟩) (by show w.heap.size ≠ gl; omega) (.string a8)
                have hB' := hB.setCell (p := ⟨gl, 7, none⟩) (by show w.heap.size ≤ gl; omega) (.string a8)
                clear hL hQ hB cS fS
                generalize w8.setCell ⟨gl, 7, none⟩ (.string a8) = v8 at hL' hQ' hB' ⊢
                have hL := hL'
                clear hL'
                have hQ := hQ'
                have hB := hB'
                clear hQ' hB'
                --S4
                refine (C9.out _).mono ?_
                rintro e w9 ⟨rfl, hb⟩
                have hL' := hL.below hb hL.lt
                have hQ' := hQ.below hb hQ.lt
                have hB' := bl_join hB hb
                clear hL hQ hB hb C9
                have hL := hL'
                clear hL'
                have hQ := hQ'
                have hB := hB'
                clear hQ' hB'
                --S5
                go_wp2_with fail
                refine (C10.out _).mono ?_
                rintro e w10 ⟨rfl, hb⟩
                have hL' := hL.below hb hL.lt
                have hQ' := hQ.below hb hQ.lt
                have hB' := bl_join hB hb
                clear hL hQ hB hb C10
                have hL := hL'
                clear hL'
                have hQ := hQ'
                have hB := hB'
                clear hQ' hB'
                have cS := hL.cell 9
                have fS := hL.frozen 9
                simp only [List.getElem?_toArray, List.getElem?_cons_succ, List.getElem?_cons_zero] at cS
                --S6
                have n1 : 999 < a9 → decide ((999 : Int) < (a9 : Int)) = true := fun h => decide_eq_true (by omega)
                have n2 : ¬ 999 < a9 → decide ((999 : Int) < (a9 : Int)) = false := fun h => decide_eq_false (by omega)
                by_cases hc9 : 999 < a9
                · have HC := Lib.hid (HRN.out (HRP.out.trans (if_pos (.inl hc9))))
                  have d9 := n1 hc9
                  clear HRN HRS HRP n1 n2
                  have hQ' := hQ.far (p := ⟨gl, 9, none⟩) (by show w.heap.size ≠ gl; omega) (.string a10)
                  have hB' := hB.setCell (p := ⟨gl, 9, none⟩) (by show w.heap.size ≤ gl; omega) (.string a10)
                  clear hQ hB hL
                  have hQ := hQ'
                  have hB := hB'
                  clear hQ' hB'
                  go_wp2_with (refine wpList_store_row rfl _ _ _ rfl _ _ rfl rfl _ _ hQ (by kernel_rfl) rfl (by simp [Value.oneCell']) ?_)
                  (refine ret_row rfl _ rfl _ _ _ (hQ.row _) Tryd.underlying24 rfl (by kernel_rfl) rfl ⟨?_, below_row hB (Nat.le_refl _) _⟩)
                  rw [HC.out]
                  rfl
                · by_cases hc10 : p10 = (h.size : Int)
                  · subst hc10
                    have d9 := n2 hc9
                    have hw9 : IntKind.i64.wrap (a9 : Int) = (a9 : Int) := by rw [IntKind.wrap_i64]; omega
                    replace HRP := HRP.out.trans (if_neg (by rintro (h | h); exact hc9 h; exact h rfl))
                    have hok : Ev.Letter.ok ⟨x0, x1, x2, a4, a5, a6, a7, a8, a9, a10⟩ := ⟨z0, G4.out, G6.out⟩
                    have HPK := rpack_any ⟨x0, x1, x2, a4, a5, a6, a7, a8, a9, a10⟩ hok HZ.out
                    have HRR := HRS.out _ _ HRP rfl
                    generalize Ev.pack ⟨x0, x1, x2, a4, a5, a6, a7, a8, a9, a10⟩ = P at HPK HRR
                    obtain ⟨P1, P2⟩ := P
                    unfold Ev.Letter.val at HPK
                    simp only at HPK HRR
                    replace HPK := Lib.hid HPK
                    replace HRR := Lib.hid HRR
                    clear HRN HRS HRP n1 n2 hok HZ G4 G6
                    --S7
                    go_upto_if 114 with (fail)
                    --S8
                    have hL' : Bk (w10.setCell ⟨gl, 9, none⟩ (.string a10)) gl 24 #[.int .u8 x0, .int .i64 x1, .int .i64 x2, .int .u64 a4, .string a5, .int .u64 a6, .string a7, .string a8, .int .i64 0, .string a10] := hL.set_ 9 _
                    have hQ' := hQ.far (p := ⟨gl, 9, none⟩) (by show w.heap.size ≠ gl; omega) (.string a10)
                    have hB' := hB.setCell (p := ⟨gl, 9, none⟩) (by show w.heap.size ≤ gl; omega) (.string a10)
                    clear hL hQ hB cS fS
                    generalize w10.setCell ⟨gl, 9, none⟩ (.string a10) = v10 at hL' hQ' hB' ⊢
                    have hL := hL'
                    clear hL'
                    have hQ := hQ'
                    have hB := hB'
                    clear hQ' hB'
                    obtain ⟨c0, c1, c2, c3, c4, c5, c6, c7, c8, c9⟩ := hL.ten
                    have f8 := hL.frozen 8
                    --S9
                    go_wp2_with fail
                    --S10
                    have hL' : Bk (v10.setCell ⟨gl, 8, none⟩ (.int .i64 a9)) gl 24 #[.int .u8 x0, .int .i64 x1, .int .i64 x2, .int .u64 a4, .string a5, .int .u64 a6, .string a7, .string a8, .int .i64 a9, .string a10] := hL.set_ 8 _
                    have hQ' := hQ.far (p := ⟨gl, 8, none⟩) (by show w.heap.size ≠ gl; omega) (.int .i64 a9)
                    have hB' := hB.setCell (p := ⟨gl, 8, none⟩) (by show w.heap.size ≤ gl; omega) (.int .i64 a9)
                    clear hL hQ hB c0 c1 c2 c3 c4 c5 c6 c7 c8 c9 f8
                    generalize v10.setCell ⟨gl, 8, none⟩ (.int .i64 a9) = v9 at hL' hQ' hB' ⊢
                    have hL := hL'
                    clear hL'
                    have hQ := hQ'
                    have hB := hB'
                    clear hQ' hB'
                    refine (HPK.out _).mono ?_
                    rintro e w11 ⟨rfl, hb⟩
                    have hL' := hL.below hb hL.lt
                    have hQ' := hQ.below hb hQ.lt
                    have hB' := bl_join hB hb
                    clear hL hQ hB hb HPK
                    have hL := hL'
                    clear hL'
                    have hQ := hQ'
                    have hB := hB'
                    clear hQ' hB'
                    obtain ⟨c0, c1, c2, c3, c4, c5, c6, c7, c8, c9⟩ := hL.ten
                    clear hL
                    --S11
                    by_cases g2 : P2 = 0
                    · by_cases g3 : P1 = b
                      · have HC := HRR.out.trans (if_pos ⟨g2, g3⟩)
                        have t2 : ((P2 : Int) != 0) = false := by rw [g2]; rfl
                        have t3 : (!P1.toList == b.toList) = false := by rw [g3]; simp
                        replace HC := Lib.hid HC
                        clear g2 g3 HRR
                        go_wp2_with (refine wpList_store_row rfl _ _ _ rfl _ _ rfl rfl _ _ hQ (by kernel_rfl) rfl (by simp [Value.oneCell']) ?_)
                        (refine ret_row rfl _ rfl _ _ _ (hQ.row _) Tryd.underlying24 rfl (by kernel_rfl) rfl ⟨?_, below_row hB (Nat.le_refl _) _⟩)
                        rw [HC.out]
                        rfl
                      · have HC := HRR.out.trans (if_neg (fun hh => g3 hh.2))
                        have t2 : ((P2 : Int) != 0) = false := by rw [g2]; rfl
                        have t3 : (!P1.toList == b.toList) = true := by simpa using fun e => g3 (Tk.text_eq e)
                        replace HC := Lib.hid HC
                        clear g2 g3 HRR
                        go_wp2_with (refine wpList_store_row rfl _ _ _ rfl _ _ rfl rfl _ _ hQ (by kernel_rfl) rfl (by simp [Value.oneCell']) ?_)
                        (refine ret_row rfl _ rfl _ _ _ (hQ.row _) Tryd.underlying24 rfl (by kernel_rfl) rfl ⟨?_, below_row hB (Nat.le_refl _) _⟩)
                        rw [HC.out]
                        rfl
                    · have HC := HRR.out.trans (if_neg (fun hh => g2 hh.1))
                      have t2 : ((P2 : Int) != 0) = true := by rw [bne_iff_ne]; omega
                      replace HC := Lib.hid HC
                      clear g2 HRR
                      go_wp2_with (refine wpList_store_row rfl _ _ _ rfl _ _ rfl rfl _ _ hQ (by kernel_rfl) rfl (by simp [Value.oneCell']) ?_)
                      (refine ret_row rfl _ rfl _ _ _ (hQ.row _) Tryd.underlying24 rfl (by kernel_rfl) rfl ⟨?_, below_row hB (Nat.le_refl _) _⟩)
                      rw [HC.out]
                      rfl
                  · have HC := Lib.hid (HRN.out (HRP.out.trans (if_pos (.inr hc10))))
                    have d9 := n2 hc9
                    have d10 : (p10 != (h.size : Int)) = true := by rw [bne_iff_ne]; exact hc10
                    clear HRN HRS HRP n1 n2
                    have hQ' := hQ.far (p := ⟨gl, 9, none⟩) (by show w.heap.size ≠ gl; omega) (.string a10)
                    have hB' := hB.setCell (p := ⟨gl, 9, none⟩) (by show w.heap.size ≤ gl; omega) (.string a10)
                    clear hQ hB hL
                    have hQ := hQ'
                    have hB := hB'
                    clear hQ' hB'
                    go_wp2_with (refine wpList_store_row rfl _ _ _ rfl _ _ rfl rfl _ _ hQ (by kernel_rfl) rfl (by simp [Value.oneCell']) ?_)
                    (refine ret_row rfl _ rfl _ _ _ (hQ.row _) Tryd.underlying24 rfl (by kernel_rfl) rfl ⟨?_, below_row hB (Nat.le_refl _) _⟩)
                    rw [HC.out]
                    rfl
    · have ht1 : ((b.extract (b.size - 4) b.size).toList == Sm.le4 (Sm.crc (b.data.toList.take (b.size - 4)))) = false := by
        rw [← Bool.not_eq_true]
        exact fun h => hcrc (HCT.out.2 ((hbe _ _).1 h))
      have HC := Lib.hid (HRB.out (by simpa using hcrc))
      clear hbe HCT HRB hQ0 hB0 HTL hw2 ht0 hcrc
      simp only [ht1, Bool.not_false]
      go_wp2_with (refine wpList_store_row rfl _ _ _ rfl _ _ rfl rfl _ _ hQ (by kernel_rfl) rfl (by simp [Value.oneCell']) ?_)
      (refine ret_row rfl _ rfl _ _ _ (hQ.row _) Tryd.underlying24 rfl (by kernel_rfl) rfl ⟨?_, below_row hB (Nat.le_refl _) _⟩)
      rw [HC.out]
      rfl
end Go.Proofs.YtjhejnhjpjmnmaaDoor
