/- Ends; the laws' own list, awake. -/
import Derived.Test.YtdjccepchleacaaTabK
set_option linter.unusedVariables false
set_option linter.unusedSimpArgs false
namespace Go.Proofs.Ytdjccepchleacaa
open Go.RowKit Go.BigFrame
namespace Tb
def firstKey (l : List Ent) : ByteArray := match l.head? with
  | none => ⟨#[]⟩
  | some x => x.key
def lastKey (l : List Ent) : ByteArray := match l.getLast? with
  | none => ⟨#[]⟩
  | some x => x.key
def ex : List Ent := [⟨ba [97], ba [49], false⟩, ⟨ba [98], ⟨#[]⟩, true⟩, ⟨ba [99], ba [51], false⟩]
theorem ex_right : right ex = 0 := by decide +kernel
theorem ex_small : Small ex := fun x hx => by
  simp [ex] at hx
  rcases hx with rfl | rfl | rfl <;> exact ⟨by decide, by decide⟩
theorem ex_b : get ex ⟨#[98]⟩ = some ⟨ba [98], ⟨#[]⟩, true⟩ := by kernel_rfl
theorem ex_bb : get ex ⟨#[98, 98]⟩ = none := by kernel_rfl
theorem ex_open : openE (built ex) = some ex := by
  unfold built
  rw [if_pos ex_right]
  exact open_bytes ex_right
theorem ex_size : (built ex).size ≤ 800000000 := by
  unfold built
  rw [if_pos ex_right, ba_size, bytes_len]
  have := body_bound ex_right
  omega
end Tb
set_option maxRecDepth 100000 in
set_option maxHeartbeats 2000000 in
theorem tends_any (base b : Nat) (s : ByteArray) (l : List Tb.Ent) (w : World) (hop : Tb.Opened w base b s l) :
    Calls Try.prog 15 #[.pointer (some ⟨b, 0, none⟩)] w fun e w' => e = .returned (.tuple #[.string (Tb.firstKey l), .string (Tb.lastKey l)]) ∧ Below w.heap.size w w' := by
  have HOP := Lib.hid hop
  obtain ⟨F1, HF1⟩ : ∃ F, Hid (Tb.firstKey l = F) := ⟨_, Lib.hid rfl⟩
  obtain ⟨F2, HF2⟩ : ∃ F, Hid (Tb.lastKey l = F) := ⟨_, Lib.hid rfl⟩
  rw [HF1.out, HF2.out]
  go_enter Try.func15, Try.ntmps15
  go_wp2_with fail
  refine (tlen_any base b s l _ HOP.out).mono ?_
  rintro e w' ⟨rfl, rfl⟩
  by_cases hl0 : l = []
  · subst hl0
    go_wp2_with fail
    go_ret2
    exact ⟨by rw [← HF1.out, ← HF2.out]; rfl, Below.refl _ _⟩
  have hlp : 0 < l.length := List.length_pos_iff.2 hl0
  have tl : ((l.length : Int) == 0) = false := by rw [beq_eq_false_iff_ne]; omega
  obtain ⟨bs, last, ⟨v, hk, hown, hne⟩, hG, hbl, hlast, _, _⟩ := hop
  have hbs0 : 0 < bs.length := List.length_pos_iff.2 (hG.some_ hlp)
  obtain ⟨A, c, rfl, hlie, hm1, hnc, hA, hA2⟩ := Lie.of_own hown
  obtain ⟨g, off, rfl, hcl0⟩ := hlie.get Tb.Place.len hbs0 (by omega)
  have a0 : w.cell? ⟨g, off, none⟩ = some (.string bs[0].first) := by have := hcl0 0 _ rfl; simpa using this
  have HF : Hid (Tb.firstKey l = bs[0].first) := Lib.hid (by
    obtain ⟨j, x, k1, k2, k3, k4, k5⟩ := hG.each 0 bs[0] (List.getElem?_eq_getElem hbs0)
    have hj := k2 rfl
    subst hj
    unfold Tb.firstKey
    rw [List.head?_eq_getElem?, k4]
    exact k5)
  have HL : Hid (Tb.lastKey l = last) := Lib.hid (by
    unfold Tb.lastKey
    rcases h : l.getLast? with _ | x
    · exact absurd (by simpa using h) hl0
    · exact (hlast x h).symm)
  obtain ⟨⟨c0, c1, c2, c3⟩, hz⟩ := hk.k4
  have HF3 : Hid (F1 = bs[0].first) := Lib.hid (HF1.out.symm.trans HF.out)
  have HF4 : Hid (F2 = last) := Lib.hid (HF2.out.symm.trans HL.out)
  clear HF HF1 HF2 HL
  clear hcl0 hA hA2 hlie hown hk hz hne hlast hG hl0
  generalize bs[0].first = x at *
  generalize bs.length = m at *
  have i1 : (0 : Int) < (m : Int) := by omega
  go_wp2_with fail
  go_quiet (fail)
  go_wp2_with fail
  go_ret2
  exact ⟨by rw [HF3.out, HF4.out]; rfl, below_drewN (Below.refl _ _) _⟩
set_option maxRecDepth 100000 in
set_option maxHeartbeats 1000000 in
theorem tlist_any (w : World) : Calls Try.prog 14 #[] w fun e w' => e = .returned (.slice (some ⟨w.heap.size, 0, none⟩) 3 3) ∧ Lie w' (some ⟨w.heap.size, 0, none⟩) (Tb.ex.flatMap Tb.Ent.cells) ∧ Below w.heap.size w w' := by
  go_enter Try.func14, Try.ntmps14
  go_wp2_with fail
  go_ret
  refine ⟨rfl, fun _ => ⟨w.heap.size, 0, rfl, fun j u hu => ?_⟩, (Below.refl _ _).alloc (Nat.le_refl _) _⟩
  rw [Nat.zero_add, World.cell?_alloc_mark]
  rw [← hu]
  simp [Tb.ex, Tb.Ent.cells, Tb.ba]
set_option maxRecDepth 100000 in
set_option maxHeartbeats 4000000 in
theorem awake6_any (w : World) : Calls Try.prog 7 #[] w fun e w' => e = .returned (.bool true) ∧ Below w.heap.size w w' := by
  go_enter Try.func7, Try.ntmps7
  go_wp2_with fail
  refine (tlist_any _).mono ?_
  rintro e w1 ⟨rfl, hl, hb1⟩
  have HL := Lib.hid hl
  clear hl
  go_wp2_with fail
  refine (tbuild_any _ 3 3 Tb.ex rfl (by decide) Tb.ex_small _ HL.out).mono ?_
  rintro e w2 ⟨rfl, hb2⟩
  rw [Tb.ex_right]
  have HO := Lib.hid Tb.ex_open
  have HZ := Lib.hid Tb.ex_size
  generalize Tb.built Tb.ex = S at *
  go_wp2_with fail
  refine (topen_any S HZ.out _).mono ?_
  intro e w3 hP
  unfold Tb.OpenP at hP
  rw [HO.out] at hP
  obtain ⟨hb3, b, hbb, rfl, hop⟩ := hP
  have HOP := Lib.hid hop
  clear hop
  go_wp2_with fail
  refine (tgetk_any S HZ.out Tb.ex (Tb.right_sorted Tb.ex_right) ⟨#[98]⟩ _ b _ HOP.out).mono ?_
  rintro e w4 ⟨rfl, hb4⟩
  rw [Tb.ex_b]
  have hb4z := hb4.size
  simp only [Tb.getV, Tb.Ent.val]
  go_wp2_with fail
  have hb5 : Below w3.heap.size w3 _ := hb4.alloc (by omega) (.cells #[.string (Tb.ba [98]), .string ⟨#[]⟩, .bool true] 36)
  have hq : Bk _ w4.heap.size 36 #[.string (Tb.ba [98]), .string ⟨#[]⟩, .bool true] := Bk.new w4 _ _
  generalize (w4.alloc (.cells #[.string (Tb.ba [98]), .string ⟨#[]⟩, .bool true] 36)) = w5 at hb5 hq ⊢
  refine (tgetk_any S HZ.out Tb.ex (Tb.right_sorted Tb.ex_right) ⟨#[98, 98]⟩ _ b _ (HOP.out.below hb5)).mono ?_
  rintro e w6 ⟨rfl, hb6⟩
  rw [Tb.ex_bb]
  have hb6z := hb6.size
  simp only [Tb.getV, Tb.Ent.val, Tb.Ent.zero]
  obtain ⟨⟨d0, d1, d2⟩, _⟩ := (hq.below hb6 hq.lt).k3
  have hlt := hq.lt
  have hlt2 : w4.heap.size < w6.heap.size := by omega
  have hne : ¬ w4.heap.size = w6.heap.size := by omega
  have h98 : (Tb.ba [98]).toList = [98] := by decide +kernel
  go_wp2_with fail
  refine (tlen_any _ b S Tb.ex _ (((HOP.out.below hb5).below hb6).below ((Below.refl _ _).alloc (Nat.le_refl _) _))).mono ?_
  rintro e w7 ⟨rfl, rfl⟩
  have hxl : Tb.ex.length = 3 := rfl
  rw [hxl]
  go_wp2_with fail
  go_ret
  exact ⟨rfl, (bl_join (bl_join (bl_join (bl_join hb1 hb2) hb3) hb5) hb6).alloc (by have := hb1.size; have := hb2.size; have := hb3.size; omega) _⟩
namespace Tb
theorem mem_le_sum : ∀ {l : List Nat} {a : Nat}, a ∈ l → a ≤ l.sum
  | [], _, h => by cases h
  | b :: r, a, h => by
    rw [List.sum_cons]
    rcases List.mem_cons.1 h with rfl | h
    · omega
    · have := mem_le_sum h
      omega
def gsum (most : Nat) (l : List Ent) : Nat := ((l.take (most + 1)).map fun x => min x.key.size 1048577 + min x.value.size 1048577).sum
def great (most : Nat) (l : List Ent) : Bool := decide (most < l.length) || decide (1048576 < gsum most l)
theorem gsum_mem {most : Nat} {l : List Ent} (h : great most l = false) : l.length ≤ most ∧ ∀ x ∈ l, x.key.size ≤ 1048576 ∧ x.value.size ≤ 1048576 := by
  unfold great at h
  simp only [Bool.or_eq_false_iff, decide_eq_false_iff_not] at h
  obtain ⟨h1, h2⟩ := h
  refine ⟨by omega, fun x hx => ?_⟩
  unfold gsum at h2
  rw [List.take_of_length_le (by omega)] at h2
  have : min x.key.size 1048577 + min x.value.size 1048577 ≤ (l.map fun x => min x.key.size 1048577 + min x.value.size 1048577).sum := mem_le_sum (List.mem_map.2 ⟨x, hx, rfl⟩)
  omega
theorem great_small {most : Nat} {l : List Ent} (h : great most l = false) : Small l := fun x hx => by
  have := (gsum_mem h).2 x hx
  omega
theorem gsum_le (l : List Ent) : (l.map fun x => min x.key.size 1048577 + min x.value.size 1048577).sum ≤ 2097154 * l.length := by
  induction l with
  | nil => simp
  | cons x r ih => simp only [List.map_cons, List.sum_cons, List.length_cons]; omega
def gs (l : List Ent) : Nat := (l.map fun x => min x.key.size 1048577 + min x.value.size 1048577).sum
theorem gs_take {l : List Ent} {k : Nat} (h : k < l.length) : gs (l.take (k + 1)) = gs (l.take k) + min l[k].key.size 1048577 + min l[k].value.size 1048577 := by
  unfold gs
  rw [List.take_succ_eq_append_getElem h, List.map_append, List.sum_append]
  simp
  omega
end Tb
set_option maxRecDepth 100000 in
set_option maxHeartbeats 4000000 in
theorem great6_any (A : Option Addr) (n c most : Nat) (hmo : most ≤ 1000000) (l : List Tb.Ent) (hn : l.length = n) (hm : n ≤ 9223372036854775807) (hz : ∀ x ∈ l, x.key.size ≤ maxLen ∧ x.value.size ≤ maxLen) (w : World) (hl : Lie w A (l.flatMap Tb.Ent.cells)) :
    Calls Try.prog 8 #[.slice A n c, .int .i64 most] w fun e w' => e = .returned (.bool (Tb.great most l)) ∧ Below w.heap.size w w' := by
  have Hn := Lib.hid hn
  have Hl := Lib.hid hl
  have Hz := Lib.hid hz
  clear hn hl hz
  obtain ⟨R, HR⟩ : ∃ R, Hid (Tb.great most l = R) := ⟨_, Lib.hid rfl⟩
  rw [HR.out]
  go_enter Try.func8, Try.ntmps8
  go_wp2_with fail
  go_loopw [5, 6] (fun s i wr => ∃ k : Nat, k ≤ n ∧ k ≤ most + 1 ∧ i = .int .i64 k ∧ s = .int .i64 (Tb.gs (l.take k)) ∧ ∃ q, wr = w.drewN q) (fun _ i _ => n - (intOf i).toNat)
  case atStart => exact ⟨0, by omega, by omega, rfl, rfl, 0, rfl⟩
  case round =>
    obtain ⟨k, hk, hk2, rfl, rfl, q, rfl⟩ := hrel
    have hgl : Tb.gs (l.take k) ≤ 2097154 * k := by
      have h1 := Tb.gsum_le (l.take k)
      have h2 := List.length_take_le k l
      unfold Tb.gs
      omega
    by_cases hlt : k < n ∧ k ≤ most
    · obtain ⟨l1, l2⟩ := hlt
      have hkl : k < l.length := by rw [Hn.out]; exact l1
      obtain ⟨ag, ao, rfl, hca⟩ := Hl.out.get Tb.Ent.len hkl (by omega)
      have a0 : w.cell? ⟨ag, ao + k * 3, none⟩ = _ := hca 0 _ rfl
      have a1 := hca 1 _ rfl
      have HS := Lib.hid (Tb.gs_take hkl)
      obtain ⟨z1, z2⟩ := Hz.out _ (List.getElem_mem hkl)
      unfold maxLen at z1 z2
      have i0 : (0 : Int) ≤ (k : Int) := by omega
      have i1 : (k : Int) < (n : Int) := by omega
      have i2 : (k : Int) ≤ (most : Int) := by omega
      clear hca
      generalize l[k] = x at *
      obtain ⟨xk, xv, xg⟩ := x
      simp only at a0 a1 z1 z2 HS
      generalize hkg : min xk.size 1048577 = mk at *
      generalize hvg : min xv.size 1048577 = mv at *
      have m1 : min (xk.size : Int) 1048577 = (mk : Int) := by omega
      have m2 : min (xv.size : Int) 1048577 = (mv : Int) := by omega
      have b1 : mk ≤ 1048577 := by omega
      have b2 : mv ≤ 1048577 := by omega
      have HK := Lib.hid hkg
      have HV := Lib.hid hvg
      clear hkg hvg
      generalize Tb.gs (l.take k) = G at *
      have s1 : IntKind.i64.wrap ((G : Int) + (mk : Int)) = (G : Int) + (mk : Int) := IntWalk.i64_in _ (by omega)
      have s2 : IntKind.i64.wrap ((G : Int) + (mk : Int) + (mv : Int)) = (G : Int) + (mk : Int) + (mv : Int) := IntWalk.i64_in _ (by omega)
      go_wp2_with fail
      go_quiet (fail)
      clear s1 s2
      go_wp2_with fail
      go_roundw
      case rel => exact ⟨k + 1, by omega, by omega, by go_num, by rw [HS.out]; go_num, _, rfl⟩
      case measure => simp [intOf]; omega
    · by_cases hbig : most < n
      · have hk3 : ¬ (k : Int) ≤ (most : Int) := by omega
        have hb : decide ((most : Int) < (n : Int)) = true := by simp; exact hbig
        have hR : Hid (R = true) := Lib.hid (by rw [← HR.out]; unfold Tb.great; rw [Hn.out, decide_eq_true hbig]; rfl)
        clear hlt
        go_wp2_with fail
        all_goals
          go_ret
          exact ⟨by rw [hR.out]; rfl, below_drewN (Below.refl _ _) q⟩
      · obtain rfl : k = n := by omega
        have hb : ¬ (most : Int) < (k : Int) := by omega
        have htk : l.take k = l := List.take_of_length_le (by rw [Hn.out]; exact Nat.le_refl _)
        have hR : Hid (R = decide (1048576 < Tb.gs (l.take k))) := Lib.hid (by
          rw [← HR.out]
          unfold Tb.great Tb.gsum Tb.gs
          rw [Hn.out, decide_eq_false hbig, List.take_of_length_le (by rw [Hn.out]; omega), htk]
          rfl)
        clear hlt htk
        generalize Tb.gs (l.take k) = G at *
        go_wp2_with fail
        go_ret
        refine ⟨?_, below_drewN (Below.refl _ _) q⟩
        rw [hR.out]
        by_cases hg : 1048576 < G
        · have : (1048576 : Int) < (G : Int) := by omega
          simp [hg, this]
        · have : ¬ (1048576 : Int) < (G : Int) := by omega
          simp [hg, this]
end Go.Proofs.Ytdjccepchleacaa
