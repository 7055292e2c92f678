/- (*table.Table).find, and sort.Search with its literal. -/
import Derived.Test.YtdjccepchleacaaTabH
set_option linter.unusedVariables false
set_option linter.unusedSimpArgs false
namespace Go.Proofs.Ytdjccepchleacaa
open Go.RowKit Go.BigFrame
theorem Tb.gt_less (x k : ByteArray) : (!Op.bytesLess x.toList k.toList && !x.toList == k.toList) = Op.bytesLess k.toList x.toList := by
  show (!Tb.less x k && !x.toList == k.toList) = Tb.less k x
  rcases h1 : Tb.less x k with _ | _
  · rcases h2 : (x.toList == k.toList) with _ | _
    · rw [Tb.less_total h1 h2]; rfl
    · have e : x.toList = k.toList := by simpa using h2
      have e2 := Tb.text_eq' e
      subst e2
      rw [h1]; rfl
  · rcases h2 : Tb.less k x with _ | _
    · rfl
    · have := Tb.less_trans h1 h2
      rw [Tb.less_irrefl] at this
      cases this
theorem Tb.At.drewN {w : World} {base b : Nat} {s : ByteArray} {n : Int} {last : ByteArray} {bs : List Tb.Place} (h : Tb.At w base b s n last bs) (q : Nat) : Tb.At (w.drewN q) base b s n last bs := h.below (below_drewN (Below.refl _ _) q)
set_option maxRecDepth 100000 in
set_option maxHeartbeats 2000000 in
theorem tfind1_any (base b : Nat) (s last key : ByteArray) (n : Int) (bs : List Tb.Place) (kp kk i : Nat) (hi : i < bs.length) (w : World) (h : Tb.At w base b s n last bs) (hp : w.cell? ⟨kp, 0, none⟩ = some (.pointer (some ⟨b, 0, none⟩))) (hk : w.cell? ⟨kk, 0, none⟩ = some (.string key)) :
    Calls Try.prog 41 #[.int .i64 i, .pointer (some ⟨kp, 0, none⟩), .pointer (some ⟨kk, 0, none⟩)] w fun e w' => e = .returned (.bool (Tb.less key bs[i].first)) ∧ ∃ q, w' = w.drewN q := by
  obtain ⟨v, hq, hown, hne⟩ := h
  obtain ⟨A, c, rfl, hlie, hm1, hnc, hA, hA2⟩ := Lie.of_own hown
  obtain ⟨g, off, rfl, hcl⟩ := hlie.get Tb.Place.len hi (by omega)
  have a0 : w.cell? ⟨g, off + i * 3, none⟩ = some (.string bs[i].first) := hcl 0 _ rfl
  obtain ⟨⟨c0, c1, c2, c3⟩, _⟩ := hq.k4
  have i0 : (0 : Int) ≤ (i : Int) := by omega
  have i1 : (i : Int) < (bs.length : Int) := by omega
  clear hA hA2 hlie hown hne hcl hq
  generalize bs[i].first = x at *
  generalize bs.length = m at *
  unfold Tb.less
  go_enter Try.func41, Try.ntmps41
  go_wp2_with fail
  go_quiet (fail)
  go_wp2_with fail
  go_ret
  exact ⟨congrArg (fun z => Ending.returned (.bool z)) (Tb.gt_less x key), nq, rfl⟩
def Tb.SearchP (bs : List Tb.Place) (key : ByteArray) (w : World) (e : Ending) (w' : World) : Prop :=
  ∃ r : Nat, e = .returned (.int .i64 r) ∧ r ≤ bs.length ∧ (∀ y, bs[r - 1]? = some y → r = 0 ∨ Tb.less key y.first = false) ∧ ∃ q, w' = w.drewN q
set_option maxRecDepth 100000 in
set_option maxHeartbeats 2000000 in
theorem tsearch_any (base b : Nat) (s last key : ByteArray) (n : Int) (bs : List Tb.Place) (m : Nat) (hm : bs.length = m) (hm2 : m ≤ 1000000000) (kp kk : Nat) (w : World) (h : Tb.At w base b s n last bs) (hp : w.cell? ⟨kp, 0, none⟩ = some (.pointer (some ⟨b, 0, none⟩))) (hk : w.cell? ⟨kk, 0, none⟩ = some (.string key)) :
    Calls Try.prog 40 #[.int .i64 m, .func (.func 41) #[] #[.pointer (some ⟨kp, 0, none⟩), .pointer (some ⟨kk, 0, none⟩)]] w (Tb.SearchP bs key w) := by
  have Hm := Lib.hid hm
  have Hh := Lib.hid h
  have Hp := Lib.hid hp
  have Hk := Lib.hid hk
  clear hm h hp hk
  go_enter Try.func40, Try.ntmps40
  go_wp2_with fail
  go_loopw [5, 6] (fun iv jv wr => ∃ i j q : Nat, iv = .int .i64 i ∧ jv = .int .i64 j ∧ i ≤ j ∧ j ≤ m ∧ Hid (∀ y, bs[i - 1]? = some y → i = 0 ∨ Tb.less key y.first = false) ∧ Hid (wr = w.drewN q)) (fun iv jv _ => (intOf jv - intOf iv).toNat)
  case atStart => exact ⟨0, m, 0, rfl, rfl, by omega, by omega, Lib.hid (fun _ _ => .inl rfl), Lib.hid rfl⟩
  case round =>
    obtain ⟨i, j, q, rfl, rfl, hij, hj, HF, HW⟩ := hrel
    obtain rfl := HW.out
    by_cases hlt : i < j
    · go_wp2_with fail
      rw [show ((i : Int) + (j : Int)) / 2 = (((i + j) / 2 : Nat) : Int) from by omega]
      generalize hh : (i + j) / 2 = k
      have hk1 : i ≤ k ∧ k < j := by omega
      clear hh
      have hkl : k < bs.length := by rw [Hm.out]; omega
      refine (tfind1_any base b s last key n bs kp kk k hkl _ (Hh.out.drewN q) Hp.out Hk.out).mono ?_
      rintro r w1 ⟨rfl, q2, rfl⟩
      obtain ⟨F, HFk⟩ : ∃ F, Hid (Tb.less key bs[k].first = F) := ⟨_, Lib.hid rfl⟩
      rw [HFk.out]
      cases F
      · go_wp2_with fail
        go_roundw
        case rel => exact ⟨k + 1, j, q + q2, by go_num, rfl, by omega, hj, Lib.hid (fun y hy => .inr (by rw [Nat.add_sub_cancel, List.getElem?_eq_getElem hkl] at hy; injection hy with hy; rw [← hy]; exact HFk.out)), Lib.hid rfl⟩
        case measure => simp [intOf]; omega
      · go_wp2_with fail
        go_roundw
        case rel => exact ⟨i, k, q + q2, rfl, rfl, by omega, by omega, HF, Lib.hid rfl⟩
        case measure => simp [intOf]; omega
    · obtain rfl : i = j := by omega
      go_wp2_with fail
      go_ret
      exact ⟨i, rfl, by rw [Hm.out]; exact hj, HF.out, q, rfl⟩
def Tb.FindP (bs : List Tb.Place) (key : ByteArray) (B : Nat) (w : World) (e : Ending) (w' : World) : Prop :=
  ∃ r : Nat, e = .returned (.int .i64 ((r : Int) - 1)) ∧ r ≤ bs.length ∧ (∀ y, bs[r - 1]? = some y → r = 0 ∨ Tb.less key y.first = false) ∧ Below B w w'
set_option maxRecDepth 100000 in
set_option maxHeartbeats 2000000 in
theorem tfind_any (base b : Nat) (s last key : ByteArray) (n : Int) (bs : List Tb.Place) (hm2 : bs.length ≤ 1000000000) (w : World) (h : Tb.At w base b s n last bs) :
    Calls Try.prog 35 #[.pointer (some ⟨b, 0, none⟩), .string key] w (Tb.FindP bs key w.heap.size w) := by
  have Hh := Lib.hid h
  obtain ⟨v, hq, hown, hne⟩ := h
  obtain ⟨A, c, rfl, hlie, hm1, hnc, hA, hA2⟩ := Lie.of_own hown
  obtain ⟨⟨c0, c1, c2, c3⟩, _⟩ := hq.k4
  have hbl := hq.lt
  have hb1 : ¬ b = w.heap.size := by omega
  have hb2 : ¬ b = w.heap.size + 1 := by omega
  clear hA hA2 hlie hown hne hq
  generalize hm : bs.length = m at *
  have Hm := Lib.hid hm
  clear hm
  go_enter Try.func35, Try.ntmps35
  go_wp2_with fail
  refine (tsearch_any base b s last key n bs m Hm.out hm2 w.heap.size (w.heap.size + 1) _ ((Hh.out.alloc _).alloc _) ?_ ?_).mono ?_
  · simp
  · simp
  rintro r w1 ⟨r, rfl, hr, hf, q, rfl⟩
  have HF := Lib.hid hf
  rw [Hm.out] at hr
  clear hf
  go_wp2_with fail
  go_ret
  exact ⟨r, rfl, by rw [Hm.out]; exact hr, HF.out, below_drewN (((Below.refl _ _).alloc (Nat.le_refl _) _).alloc (by simp) _) q⟩
end Go.Proofs.Ytdjccepchleacaa
