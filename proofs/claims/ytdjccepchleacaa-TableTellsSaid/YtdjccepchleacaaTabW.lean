/- TableTells: the walk. -/
import Derived.Test.YtdjccepchleacaaTabR
import Derived.Test.YtdjccepchleacaaTabU
import Derived.Test.YtdjccepchleacaaTabV
import Derived.Test.YtdjccepchleacaaAppend
set_option linter.unusedVariables false
set_option linter.unusedSimpArgs false
namespace Go.Proofs.Ytdjccepchleacaa
open Go.RowKit Go.BigFrame
theorem Tb.getV_is (O : Option Tb.Ent) : ∃ z : Tb.Ent, ∃ bd : Bool, Tb.getV O = .tuple #[.agg #[.string z.key, .string z.value, .bool z.gone], .bool bd] := by
  cases O with
  | none => exact ⟨Tb.Ent.zero, false, rfl⟩
  | some x => exact ⟨x, true, rfl⟩
theorem Tb.ex_full : (Tb.built Tb.ex).toList.isEmpty = false := by
  have h : 16 ≤ (Tb.built Tb.ex).size := by
    unfold Tb.built
    rw [if_pos Tb.ex_right, Tb.ba_size, Tb.bytes_len]
    omega
  rw [Lib.toList_data]
  have h2 := Tb.list_len (Tb.built Tb.ex)
  cases h3 : (Tb.built Tb.ex).data.toList with
  | nil => rw [h3] at h2; simp at h2; omega
  | cons a r => rfl
theorem Tb.flat_take (l : List Tb.Ent) (k : Nat) : (l.take k).flatMap Tb.Ent.cells = (l.flatMap Tb.Ent.cells).take (k * 3) := by
  induction l generalizing k with
  | nil => simp
  | cons x r ih =>
    cases k with
    | zero => simp
    | succ k =>
      rw [List.take_succ_cons, List.flatMap_cons, List.flatMap_cons, ih k]
      have h : (x.cells).length = 3 := rfl
      rw [List.take_append, List.take_of_length_le (l := x.cells) (by rw [h]; omega), h, show (k + 1) * 3 - 3 = k * 3 by omega]
theorem Tb.part_pos {l : List Tb.Ent} {k : Nat} (h : 0 < k) (h2 : k < l.length) : Tb.part (k : Int) l = l.take k := by
  unfold Tb.part
  rw [if_pos (by omega), Int.toNat_natCast]
theorem Tb.part_neg {l : List Tb.Ent} {k : Int} (h : ¬ (0 < k ∧ k < l.length)) : Tb.part k l = l := by
  unfold Tb.part
  rw [if_neg h]
set_option maxRecDepth 100000 in
set_option maxHeartbeats 8000000 in
theorem tableTells_walk (A : Option Addr) (n c : Nat) (l : List Tb.Ent) (key : ByteArray) (leave : Int) (w : World) (hn : l.length = n) (hm : n ≤ 9223372036854775807) (hz : ∀ x ∈ l, x.key.size ≤ maxLen ∧ x.value.size ≤ maxLen) (hA : A = none → n = 0 ∧ c = 0) (hl : Lie w A (l.flatMap Tb.Ent.cells)) (hkey : key.size ≤ maxLen) (hlv : (Lit.int .i64 leave).wf = true) :
    Calls Try.prog 6 #[.slice A n c, .string key, .int .i64 leave] w fun e w' => e = .returned (.bool true) ∧ Below w.heap.size w w' := by
  have Hn := Lib.hid hn
  have Hl := Lib.hid hl
  have Hz := Lib.hid hz
  have HA := Lib.hid hA
  clear hn hl hz hA hlv
  go_enter Try.func6, Try.ntmps6
  go_wp2_with fail
  refine (awake6_any _).mono ?_
  rintro e w1 ⟨rfl, hb1⟩
  go_wp2_with fail
  refine (great6_any A n c 5000 (by omega) l Hn.out hm Hz.out _ (Hl.out.below hb1)).mono ?_
  rintro e w2 ⟨rfl, hb2'⟩
  have hb2 := bl_join hb1 hb2'
  clear hb1 hb2'
  obtain ⟨G, HG⟩ : ∃ G, Hid (Tb.great 5000 l = G) := ⟨_, Lib.hid rfl⟩
  rw [HG.out]
  cases G with
  | true =>
    go_wp2_with fail
    go_ret
    exact ⟨rfl, hb2⟩
  | false =>
    have hsm := Lib.hid (Tb.great_small HG.out)
    have hn5 := (Tb.gsum_mem HG.out).1
    rw [Hn.out] at hn5
    go_wp2_with fail
    refine (entries6_any A n c hn5 l Hn.out _ (Hl.out.below hb2)).mono ?_
    rintro e w3 ⟨v, rfl, hb3', hown⟩
    obtain ⟨A1, c1, rfl, hl1, _, _, hA1, _⟩ := Lie.of_own hown
    have HE := Lib.hid hl1
    have hb3 := bl_join hb2 hb3'
    clear hown hl1 hb2 hb3' hA1
    go_wp2_with fail
    refine (tbuild_any A n c l Hn.out hm hsm.out _ (Hl.out.below hb3)).mono ?_
    rintro e w4 ⟨rfl, hb4'⟩
    have HE4 := Lib.hid (HE.out.below hb4')
    have hb4 := bl_join hb3 hb4'
    clear HE hb3 hb4'
    obtain ⟨R, HR⟩ : ∃ R, Hid (Tb.right l = R) := ⟨_, Lib.hid rfl⟩
    rw [HR.out]
    by_cases hR : R = 0
    case neg =>
      have tR : ((R : Int) != 0) = true := by rw [bne_iff_ne]; omega
      have hT : Tb.built l = ⟨#[]⟩ := by unfold Tb.built; rw [if_neg (by rw [HR.out]; exact hR)]
      have he : (⟨#[]⟩ : ByteArray).toList.isEmpty = true := by decide +kernel
      have hrr : ((R : Int) != (R : Int)) = false := by simp
      clear hR
      rw [hT]
      clear hT
      go_wp2_with fail
      refine (build6_any A1 n c1 hn5 l Hn.out hsm.out _ HE4.out).mono ?_
      rintro e w5 ⟨rfl, q, rfl⟩
      rw [HR.out]
      go_wp2_with fail
      go_ret
      exact ⟨rfl, below_drewN hb4 q⟩
    subst hR
    simp only [Int.cast_ofNat_Int]
    have HO : Hid (Tb.openE (Tb.built l) = some l) := Lib.hid (by unfold Tb.built; rw [if_pos HR.out]; exact Tb.open_bytes HR.out)
    have HRM : Hid ((Tb.built l).size < Tb.room l) := Lib.hid (by unfold Tb.built; rw [if_pos HR.out]; exact Tb.fits_room l)
    have hSz : (Tb.built l).size ≤ 800000000 := by
      unfold Tb.built
      rw [if_pos HR.out, Tb.ba_size, Tb.bytes_len]
      have := Tb.body_bound HR.out
      omega
    have hsort := Tb.right_sorted HR.out
    obtain ⟨S, HS⟩ : ∃ S, Hid (Tb.built l = S) := ⟨_, Lib.hid rfl⟩
    rw [HS.out] at HO HRM hSz ⊢
    go_wp2_with fail
    refine (build6_any A1 n c1 hn5 l Hn.out hsm.out _ HE4.out).mono ?_
    rintro e w5 ⟨rfl, q, rfl⟩
    rw [HR.out]
    simp only [Int.cast_ofNat_Int]
    go_wp2_with fail
    have hb5 := below_drewN hb4 q
    have HE5 : Hid (Lie (w4.drewN q) A1 (l.flatMap Tb.Ent.cells)) := Lib.hid HE4.out
    clear hb4 HE4
    generalize (w4.drewN q) = w5 at *
    refine (tlist_any _).mono ?_
    rintro e w6 ⟨rfl, hlx, hb6'⟩
    have HLX := Lib.hid hlx
    clear hlx
    have hb6 := bl_join hb5 hb6'
    have HE6 := Lib.hid (HE5.out.below hb6')
    clear hb5 HE5 hb6'
    go_wp2_with fail
    refine (tbuild_any _ 3 3 Tb.ex rfl (by decide) Tb.ex_small _ HLX.out).mono ?_
    rintro e w7 ⟨rfl, hb7'⟩
    have hb7 := bl_join hb6 hb7'
    have HE7 := Lib.hid (HE6.out.below hb7')
    have hxf := Tb.ex_full
    clear hb6 HE6 hb7' HLX
    generalize Tb.built Tb.ex = X at *
    generalize Tb.right Tb.ex = RX at *
    have hnew := World.ownsRow_made w7 #[] 0 (base := w7.heap.size) (e := 36) (size := 3) (Nat.le_refl _) (by unfold maxLen; omega) (by simp)
    have HNW := Lib.hid hnew
    clear hnew
    go_wp2_with (at_builtin; go_must (refine wpList_append_src rfl (.tmp 55) (.tmp 56) _ rfl w7.heap.size 36 _ 3 40 Try.underlying22 Tb.info_entry rfl (by decide) _ 0 [] rfl HNW.out _ n c (l.flatMap Tb.Ent.cells) rfl HA.out (by rw [flat_len Tb.Ent.len, Hn.out]) ((Hl.out.below hb7).alloc _).src (flat_one Tb.Ent.one l) (by simp only [maxLen]; omega) (by omega) (by simp) ?_))
    intro v' w8 hown hgr hbl
    obtain ⟨A2, c2, rfl, hl2, hn2, _, _, _⟩ := Lie.of_own hown
    have hb8' : Below w7.heap.size w7 w8 := ((Below.refl _ _).alloc (Nat.le_refl _) _).trans hbl
    have HL2 := Lib.hid hl2
    have hb8 := bl_join hb7 hb8'
    have HE8 := Lib.hid (HE7.out.below hb8')
    clear hl2 hgr hown hbl hb7 HE7 hb8' HNW
    go_wp2_with fail
    refine (tbuild_any A2 n c2 l Hn.out hm hsm.out _ HL2.out).mono ?_
    rintro e w9 ⟨rfl, hb9'⟩
    rw [HS.out, HR.out]
    simp only [Int.cast_ofNat_Int]
    have hb9 := bl_join hb8 hb9'
    have HE9 := Lib.hid (HE8.out.below hb9')
    clear hb8 HE8 hb9' HL2
    go_wp2_with fail
    refine (topen_any S hSz _).mono ?_
    intro e w10 hP
    unfold Tb.OpenP at hP
    rw [HO.out] at hP
    obtain ⟨hb10', b, hbb, rfl, hop⟩ := hP
    have hb10 := bl_join hb9 hb10'
    have HE10 := Lib.hid (HE9.out.below hb10')
    have HOP := Lib.hid hop
    obtain ⟨base, hbase⟩ : ∃ base, base = w9.heap.size := ⟨_, rfl⟩
    rw [← hbase] at HOP
    clear hb9 HE9 hb10' hop hbase hbb
    obtain ⟨RM, hRM⟩ : ∃ RM, Hid (Tb.room l = RM) := ⟨_, Lib.hid rfl⟩
    have hrm : ¬ RM ≤ S.size := by have := HRM.out; rw [hRM.out] at this; omega
    have hss : (S.toList == S.toList) = true := by simp
    clear HRM
    go_wp2_with fail
    refine (room6_any A1 n c1 hn5 l Hn.out hsm.out _ HE10.out).mono ?_
    rintro e w11 ⟨rfl, q2, rfl⟩
    rw [hRM.out]
    go_wp2_with fail
    clear hss hrm hxf
    have hb11 := below_drewN hb10 q2
    have HE11 : Hid (Lie (w10.drewN q2) A1 (l.flatMap Tb.Ent.cells)) := Lib.hid HE10.out
    have HOP11 := Lib.hid (HOP.out.below (below_drewN (Below.refl _ _) q2))
    clear hb10 HE10 HOP
    generalize (w10.drewN q2) = w11 at *
    obtain ⟨O, HO2⟩ : ∃ O, Hid (Tb.get l key = O) := ⟨_, Lib.hid rfl⟩
    obtain ⟨⟨zk, zv, zg⟩, bd, HZ⟩ := Tb.getV_is O
    refine (tgetk_any S hSz l hsort key _ b _ HOP11.out).mono ?_
    rintro e w12 ⟨rfl, hb12'⟩
    rw [HO2.out, HZ]
    have hb12 := bl_join hb11 hb12'
    have HE12 := Lib.hid (HE11.out.below hb12')
    have HOP12 := Lib.hid (HOP11.out.below hb12')
    clear hb11 HE11 HOP11 hb12'
    simp only
    go_wp2_with fail
    have hbx := (Below.refl w12.heap.size w12).alloc (Nat.le_refl _) (.cells #[.string zk, .string zv, .bool zg] 36)
    have hqx := Bk.new w12 36 #[.string zk, .string zv, .bool zg]
    have hb13 := bl_join hb12 hbx
    have HE13 := Lib.hid (HE12.out.below hbx)
    have HOP13 := Lib.hid (HOP12.out.below hbx)
    clear hb12 HE12 HOP12 hbx
    generalize (w12.alloc (.cells #[.string zk, .string zv, .bool zg] 36)) = w13 at *
    generalize w12.heap.size = xb at *
    refine (get6_any A1 n c1 hm l Hn.out key _ HE13.out).mono ?_
    rintro e w14 ⟨rfl, hb14'⟩
    rw [Tb.find_get hsort, HO2.out, HZ]
    have hb14 := bl_join hb13 hb14'
    have HE14 := Lib.hid (HE13.out.below hb14')
    have HOP14 := Lib.hid (HOP13.out.below hb14')
    have hqx14 := hqx.below hb14' hqx.lt
    clear hb13 HE13 HOP13 hb14' hqx
    go_upto_region 18 with (fail)
    have hby := (Below.refl w14.heap.size w14).alloc (Nat.le_refl _) (.cells #[.string zk, .string zv, .bool zg] 48)
    have hqy := Bk.new w14 48 #[.string zk, .string zv, .bool zg]
    have hqx15 := hqx14.alloc (.cells #[.string zk, .string zv, .bool zg] 48)
    have hb15 := bl_join hb14 hby
    have HE15 := Lib.hid (HE14.out.below hby)
    have HOP15 := Lib.hid (HOP14.out.below hby)
    clear hb14 HE14 HOP14 hby hqx14
    generalize (w14.alloc (.cells #[.string zk, .string zv, .bool zg] 48)) = w15 at *
    generalize w14.heap.size = yb at *
    obtain ⟨⟨x0, x1, x2⟩, _⟩ := hqx15.k3
    obtain ⟨⟨y0, y1, y2⟩, _⟩ := hqy.k3
    go_wp2_with fail
    refine (tlen_any _ b S l _ HOP15.out).mono ?_
    rintro e w' ⟨rfl, hww⟩
    subst hww
    rw [Hn.out]
    go_wp2_with fail
    clear x0 x1 x2 y0 y1 y2
    obtain ⟨F, HF⟩ : ∃ F, Hid (Tb.from_ l key = F) := ⟨_, Lib.hid rfl⟩
    obtain ⟨m, HM⟩ : ∃ m, Hid (F.length = m) := ⟨_, Lib.hid rfl⟩
    have hm5 : m ≤ 5000 := by
      have h1 := List.length_filter_le (fun x : Tb.Ent => !Tb.less x.key key) l
      have h2 : (Tb.from_ l key).length ≤ l.length := h1
      rw [HF.out, HM.out, Hn.out] at h2
      omega
    refine (from6_any A1 n c1 hn5 l Hn.out hsm.out key hkey _ HE15.out).mono ?_
    rintro e w16 ⟨v4, rfl, hb16', hown4⟩
    rw [HF.out, HM.out] at hown4
    obtain ⟨A4, c4, rfl, hl4, _, hmc4, _, _⟩ := Lie.of_own hown4
    have HW := Lib.hid hl4
    have hb16 := bl_join hb15 hb16'
    have HOP16 := Lib.hid (HOP15.out.below hb16')
    clear hl4 hown4 hb15 hb16' HE15 HOP15 hqx15 hqy
    go_upto_region 22 with (fail)
    have HP0 : Hid (Tb.part 0 F = F) := Lib.hid (Tb.part_neg (by omega))
    by_cases hcut : 0 < leave ∧ leave < (m : Int)
    · obtain ⟨hc1, hc2⟩ := hcut
      obtain ⟨L, rfl⟩ := Int.eq_ofNat_of_zero_le (show 0 ≤ leave by omega)
      have hL0 : 0 < L := by omega
      have hL1 : L < m := by omega
      have hL2 : L ≤ c4 := by omega
      have hL3 : (L : Int) ≤ (c4 : Int) := by omega
      have HPP : Hid (Tb.part (L : Int) F = F.take L) := Lib.hid (Tb.part_pos hL0 (by rw [HM.out]; exact hL1))
      have HPL : Hid ((F.take L).length = L) := Lib.hid (by rw [List.length_take, HM.out]; omega)
      have HPW : Hid (Lie w16 A4 ((F.take L).flatMap Tb.Ent.cells)) := Lib.hid (by rw [Tb.flat_take]; exact HW.out.take)
      generalize F.take L = P at *
      go_wp2_with fail
      refine (ffrom_any S hSz l hsort (by rw [Hn.out]; exact hn5) key _ base b _ HOP16.out).mono ?_
      rintro e w17 ⟨v5, rfl, hb17', hown5⟩
      rw [HF.out, HPP.out, HPL.out] at hown5
      obtain ⟨A5, c5, rfl, hl5, _, _, _, _⟩ := Lie.of_own hown5
      have HQ := Lib.hid hl5
      have hb17 := bl_join hb16 hb17'
      have HOP17 := Lib.hid (HOP16.out.below hb17')
      have HW17 := Lib.hid (HW.out.below hb17')
      have HPW17 := Lib.hid (HPW.out.below hb17')
      clear hl5 hown5 hb16 hb17' HOP16 HW HPW HPP
      go_wp2_with fail
      refine (same6_any A5 A4 _ c5 c4 (by omega) P HPL.out _ HQ.out HPW17.out).mono ?_
      rintro e w18 ⟨rfl, q3, rfl⟩
      have hb18 := below_drewN hb17 q3
      have HOP18 := Lib.hid (HOP17.out.below (below_drewN (Below.refl _ _) q3))
      have HW18 : Hid (Lie (w17.drewN q3) A4 (F.flatMap Tb.Ent.cells)) := Lib.hid HW17.out
      clear hb17 HOP17 HW17 HPW17 HQ HPL
      generalize (w17.drewN q3) = w18 at *
      go_wp2_with fail
      refine (ffrom_any S hSz l hsort (by rw [Hn.out]; exact hn5) key 0 base b _ HOP18.out).mono ?_
      rintro e w19 ⟨v6, rfl, hb19', hown6⟩
      rw [HF.out, HP0.out, HM.out] at hown6
      obtain ⟨A6, c6, rfl, hl6, _, _, _, _⟩ := Lie.of_own hown6
      have HQ := Lib.hid hl6
      have hb19 := bl_join hb18 hb19'
      have HOP19 := Lib.hid (HOP18.out.below hb19')
      have HW19 := Lib.hid (HW18.out.below hb19')
      clear hl6 hown6 hb18 hb19' HOP18 HW18 HP0
      go_wp2_with fail
      refine (same6_any A6 A4 _ c6 c4 (by omega) F HM.out _ HQ.out HW19.out).mono ?_
      rintro e w20 ⟨rfl, q4, rfl⟩
      have hb20 := below_drewN hb19 q4
      have HOP20 := Lib.hid (HOP19.out.below (below_drewN (Below.refl _ _) q4))
      clear hb19 HOP19 HW19 HQ HM HF
      generalize (w19.drewN q4) = w20 at *
      go_wp2_with fail
      refine (tends_any base b S l _ HOP20.out).mono ?_
      rintro e w21 ⟨rfl, hb21'⟩
      have hb21 := bl_join hb20 hb21'
      clear hb20 HOP20 hb21'
      by_cases hn0 : n = 0
      · have hnil : l = [] := List.length_eq_zero_iff.1 (by rw [Hn.out]; exact hn0)
        have hfk : Tb.firstKey l = ⟨#[]⟩ := by rw [hnil]; rfl
        have hlk : Tb.lastKey l = ⟨#[]⟩ := by rw [hnil]; rfl
        rw [hfk, hlk]
        have he : (⟨#[]⟩ : ByteArray).toList.isEmpty = true := by decide +kernel
        have tn : ((n : Int) == 0) = true := by rw [beq_iff_eq]; omega
        clear hnil hfk hlk
        go_wp2_with fail
        go_ret
        exact ⟨rfl, hb21⟩
      · have HLW := Lib.hid (Hl.out.below hb21)
        have hk0 : 0 < l.length := by rw [Hn.out]; omega
        have hkn : n - 1 < l.length := by rw [Hn.out]; omega
        obtain ⟨ag, ao, rfl, hca⟩ := HLW.out.get Tb.Ent.len hk0 (by omega)
        obtain ⟨ag', ao', e', hcn⟩ := HLW.out.get Tb.Ent.len hkn (by omega)
        injection e' with e'
        injection e' with e1 e2
        subst e1 e2
        have a0 : w21.cell? ⟨ag, ao, none⟩ = some (.string l[0].key) := by have := hca 0 _ rfl; simpa using this
        have an : w21.cell? ⟨ag, ao + (n - 1) * 3, none⟩ = some (.string l[n - 1].key) := hcn 0 _ rfl
        have hfk : Tb.firstKey l = l[0].key := by unfold Tb.firstKey; rw [List.head?_eq_getElem?, List.getElem?_eq_getElem hk0]
        have hlk : Tb.lastKey l = l[n - 1].key := by unfold Tb.lastKey; rw [List.getLast?_eq_getElem?, Hn.out, List.getElem?_eq_getElem hkn]
        rw [hfk, hlk]
        clear hfk hlk hca hcn
        generalize l[0].key = k0 at *
        generalize l[n - 1].key = kn at *
        clear hk0 hkn
        have tn : ((n : Int) == 0) = false := by rw [beq_eq_false_iff_ne]; omega
        have i0 : (0 : Int) < (n : Int) := by omega
        have j1 : (1 : Int) ≤ (n : Int) := by omega
        have j2 : 1 ≤ n := by omega
        have j3 : (0 : Int) ≤ (n : Int) - 1 := by omega
        have j4 : (n : Int) - 1 < (n : Int) := by omega
        have j5 : ((n : Int) - 1).toNat = n - 1 := by omega
        have j6 : IntKind.i64.wrap ((n : Int) - 1) = (n : Int) - 1 := IntWalk.i64_in _ (by omega)
        go_wp2_with fail
        go_ret
        exact ⟨rfl, hb21⟩
    · have HPP : Hid (Tb.part leave F = F) := Lib.hid (Tb.part_neg (by rw [HM.out]; exact hcut))
      obtain ⟨P, hP⟩ : ∃ P, P = F := ⟨_, rfl⟩
      have HPL : Hid (P.length = m) := Lib.hid (by rw [hP]; exact HM.out)
      have HPW : Hid (Lie w16 A4 (P.flatMap Tb.Ent.cells)) := Lib.hid (by rw [hP]; exact HW.out)
      have HPP : Hid (Tb.part leave F = P) := Lib.hid (by rw [hP]; exact HPP.out)
      clear hP
      by_cases h0 : 0 < leave
      case' pos => have h1 : ¬ leave < (m : Int) := by omega
      all_goals
        clear hcut
        go_wp2_with fail
        refine (ffrom_any S hSz l hsort (by rw [Hn.out]; exact hn5) key _ base b _ HOP16.out).mono ?_
        rintro e w17 ⟨v5, rfl, hb17', hown5⟩
        rw [HF.out, HPP.out, HPL.out] at hown5
        obtain ⟨A5, c5, rfl, hl5, _, _, _, _⟩ := Lie.of_own hown5
        have HQ := Lib.hid hl5
        have hb17 := bl_join hb16 hb17'
        have HOP17 := Lib.hid (HOP16.out.below hb17')
        have HW17 := Lib.hid (HW.out.below hb17')
        have HPW17 := Lib.hid (HPW.out.below hb17')
        clear hl5 hown5 hb16 hb17' HOP16 HW HPW HPP
        go_wp2_with fail
        refine (same6_any A5 A4 _ c5 c4 (by omega) P HPL.out _ HQ.out HPW17.out).mono ?_
        rintro e w18 ⟨rfl, q3, rfl⟩
        have hb18 := below_drewN hb17 q3
        have HOP18 := Lib.hid (HOP17.out.below (below_drewN (Below.refl _ _) q3))
        have HW18 : Hid (Lie (w17.drewN q3) A4 (F.flatMap Tb.Ent.cells)) := Lib.hid HW17.out
        clear hb17 HOP17 HW17 HPW17 HQ HPL
        generalize (w17.drewN q3) = w18 at *
        go_wp2_with fail
        refine (ffrom_any S hSz l hsort (by rw [Hn.out]; exact hn5) key 0 base b _ HOP18.out).mono ?_
        rintro e w19 ⟨v6, rfl, hb19', hown6⟩
        rw [HF.out, HP0.out, HM.out] at hown6
        obtain ⟨A6, c6, rfl, hl6, _, _, _, _⟩ := Lie.of_own hown6
        have HQ := Lib.hid hl6
        have hb19 := bl_join hb18 hb19'
        have HOP19 := Lib.hid (HOP18.out.below hb19')
        have HW19 := Lib.hid (HW18.out.below hb19')
        clear hl6 hown6 hb18 hb19' HOP18 HW18 HP0
        go_wp2_with fail
        refine (same6_any A6 A4 _ c6 c4 (by omega) F HM.out _ HQ.out HW19.out).mono ?_
        rintro e w20 ⟨rfl, q4, rfl⟩
        have hb20 := below_drewN hb19 q4
        have HOP20 := Lib.hid (HOP19.out.below (below_drewN (Below.refl _ _) q4))
        clear hb19 HOP19 HW19 HQ HM HF
        generalize (w19.drewN q4) = w20 at *
        go_wp2_with fail
        refine (tends_any base b S l _ HOP20.out).mono ?_
        rintro e w21 ⟨rfl, hb21'⟩
        have hb21 := bl_join hb20 hb21'
        clear hb20 HOP20 hb21'
        by_cases hn0 : n = 0
        · have hnil : l = [] := List.length_eq_zero_iff.1 (by rw [Hn.out]; exact hn0)
          have hfk : Tb.firstKey l = ⟨#[]⟩ := by rw [hnil]; rfl
          have hlk : Tb.lastKey l = ⟨#[]⟩ := by rw [hnil]; rfl
          rw [hfk, hlk]
          have he : (⟨#[]⟩ : ByteArray).toList.isEmpty = true := by decide +kernel
          have tn : ((n : Int) == 0) = true := by rw [beq_iff_eq]; omega
          clear hnil hfk hlk
          go_wp2_with fail
          go_ret
          exact ⟨rfl, hb21⟩
        · have HLW := Lib.hid (Hl.out.below hb21)
          have hk0 : 0 < l.length := by rw [Hn.out]; omega
          have hkn : n - 1 < l.length := by rw [Hn.out]; omega
          obtain ⟨ag, ao, rfl, hca⟩ := HLW.out.get Tb.Ent.len hk0 (by omega)
          obtain ⟨ag', ao', e', hcn⟩ := HLW.out.get Tb.Ent.len hkn (by omega)
          injection e' with e'
          injection e' with e1 e2
          subst e1 e2
          have a0 : w21.cell? ⟨ag, ao, none⟩ = some (.string l[0].key) := by have := hca 0 _ rfl; simpa using this
          have an : w21.cell? ⟨ag, ao + (n - 1) * 3, none⟩ = some (.string l[n - 1].key) := hcn 0 _ rfl
          have hfk : Tb.firstKey l = l[0].key := by unfold Tb.firstKey; rw [List.head?_eq_getElem?, List.getElem?_eq_getElem hk0]
          have hlk : Tb.lastKey l = l[n - 1].key := by unfold Tb.lastKey; rw [List.getLast?_eq_getElem?, Hn.out, List.getElem?_eq_getElem hkn]
          rw [hfk, hlk]
          clear hfk hlk hca hcn
          generalize l[0].key = k0 at *
          generalize l[n - 1].key = kn at *
          clear hk0 hkn
          have tn : ((n : Int) == 0) = false := by rw [beq_eq_false_iff_ne]; omega
          have i0 : (0 : Int) < (n : Int) := by omega
          have j1 : (1 : Int) ≤ (n : Int) := by omega
          have j2 : 1 ≤ n := by omega
          have j3 : (0 : Int) ≤ (n : Int) - 1 := by omega
          have j4 : (n : Int) - 1 < (n : Int) := by omega
          have j5 : ((n : Int) - 1).toNat = n - 1 := by omega
          have j6 : IntKind.i64.wrap ((n : Int) - 1) = (n : Int) - 1 := IntWalk.i64_in _ (by omega)
          go_wp2_with fail
          go_ret
          exact ⟨rfl, hb21⟩
end Go.Proofs.Ytdjccepchleacaa
