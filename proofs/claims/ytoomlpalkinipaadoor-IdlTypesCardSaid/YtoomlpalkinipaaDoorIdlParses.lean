/- IdlParses, IdlTypes: the walks. -/
import Derived.Test.YtoomlpalkinipaaDoorIdlZ
import Derived.Test.YtoomlpalkinipaaDoorIdlW
import Derived.Test.YtoomlpalkinipaaDoorIdlP
import Derived.Test.YtoomlpalkinipaaDoorIdlWk
set_option linter.unusedVariables false
set_option linter.unusedSimpArgs false
namespace Go.Proofs.YtoomlpalkinipaaDoor
open Go.RowKit
set_option maxRecDepth 100000 in
set_option maxHeartbeats 8000000 in
theorem idlParses_walk (s : ByteArray) (hs : s.size ≤ maxLen) (w : World) (hk : Tk.KW w) :
    Calls Tryd.prog 3 #[.string s] w fun e w' => e = .returned (.bool true) ∧ Below w.heap.size w w' := by
  unfold maxLen at hs
  by_cases h1 : 5000 < s.size
  case' pos =>
    have hs' : (s.extract 0 5000).size ≤ 9223372036854775807 := by simp; omega
    go_enter Tryd.func3, Tryd.ntmps3
    go_wp2_with fail
    generalize s.extract 0 5000 = x at hs' ⊢
  case' neg =>
    have hs' : s.size ≤ 9223372036854775807 := by omega
    go_enter Tryd.func3, Tryd.ntmps3
    go_wp2_with fail
    clear hs h1
    generalize s = x at hs' ⊢
  all_goals
    obtain ⟨⟨px, pat, pe⟩, HR⟩ : ∃ R, Hid (Id.parse x = R) := ⟨_, Lib.hid rfl⟩
    refine (pparse_any x hs' _ hk).mono ?_
    rintro e w1 ⟨v1, rfl, hb1, hs1⟩
    rw [HR.out] at hs1 ⊢
    simp only at hs1 ⊢
    have HS1 := Lib.hid hs1
    obtain ⟨A1, n1, c1, A2, n2, c2, A3, n3, c3, rfl, _⟩ := hs1
    have HB1 := Lib.hid hb1
    have HK1 := Lib.hid (hk.below hb1)
    clear hb1
    generalize px.name = xn at *
    go_wp2_with fail
    have hbl := (Below.refl w1.heap.size w1).alloc (Nat.le_refl _) (.cells #[.string xn, .slice A1 n1 c1, .slice A2 n2 c2, .slice A3 n3 c3] 26)
    have hq := Bk.new w1 26 #[.string xn, .slice A1 n1 c1, .slice A2 n2 c2, .slice A3 n3 c3]
    refine (rparse_any x hs' _).mono ?_
    rintro e w2 ⟨v2, rfl, hb2, hs2⟩
    rw [HR.out] at hs2 ⊢
    simp only at hs2 ⊢
    have HB12 := Lib.hid (bl_join hbl hb2)
    have hq2 := hq.below hb2 hq.lt
    have HS2 := Lib.hid hs2
    obtain ⟨B1, m1, d1, B2, m2, d2, B3, m3, d3, rfl, _⟩ := hs2
    have HS1b := Lib.hid (Id.SchV.below HB12.out HS1.out)
    have hx1 := hq2.lt
    have hx2 : ¬ w1.heap.size = w2.heap.size := by omega
    obtain ⟨⟨q0, q1, q2, q3⟩, _⟩ := hq2.k4
    clear hbl hq hb2
    generalize px.name = yn at *
    go_wp2_with fail
    have hbl := (Below.refl w2.heap.size w2).alloc (Nat.le_refl _) (.cells #[.string yn, .slice B1 m1 d1, .slice B2 m2 d2, .slice B3 m3 d3] 26)
    refine (same12_any px px _ _ _ (Id.SchV.weak (Id.wk_none _) (Id.SchV.below hbl HS1b.out)) (Id.SchV.weak (Id.wk_none _) (Id.SchV.below hbl HS2.out))).mono ?_
    rintro e w3 ⟨rfl, hb3⟩
    rw [Id.schEq_refl]
    have HB23 := Lib.hid (bl_join hbl hb3)
    have HK3 := Lib.hid ((HK1.out.below HB12.out).below HB23.out)
    clear hbl hb3 q0 q1 q2 q3
    go_wp2_with fail
    refine (wakes12_any _ HK3.out).mono ?_
    rintro e w4 ⟨rfl, hb4⟩
    have HB4 := Lib.hid (bl_join (bl_join (bl_join HB1.out HB12.out) HB23.out) hb4)
    clear hb4
    go_wp2_with fail
    go_ret
    exact ⟨rfl, HB4.out⟩
set_option maxRecDepth 100000 in
set_option maxHeartbeats 8000000 in
theorem idlTypes_walk (s : ByteArray) (hs : s.size ≤ maxLen) (w : World) (hk : Tk.KW w) :
    Calls Tryd.prog 7 #[.string s] w fun e w' => e = .returned (.bool true) ∧ Below w.heap.size w w' := by
  unfold maxLen at hs
  by_cases h1 : 5000 < s.size
  case' pos =>
    have hs' : (s.extract 0 5000).size ≤ 9223372036854775807 := by simp; omega
    go_enter Tryd.func7, Tryd.ntmps7
    go_wp2_with fail
    generalize s.extract 0 5000 = x at hs' ⊢
  case' neg =>
    have hs' : s.size ≤ 9223372036854775807 := by omega
    go_enter Tryd.func7, Tryd.ntmps7
    go_wp2_with fail
    clear hs h1
    generalize s = x at hs' ⊢
  all_goals
    obtain ⟨⟨px, pat, pe⟩, HR⟩ : ∃ R, Hid (Id.type x = R) := ⟨_, Lib.hid rfl⟩
    refine (ptype_any x hs' _ hk).mono ?_
    rintro e w1 ⟨v1, rfl, hb1, hs1⟩
    rw [HR.out] at hs1 ⊢
    simp only at hs1 ⊢
    have HS1 := Lib.hid hs1
    obtain ⟨A1, n1, c1, rfl⟩ := ERow.is hs1
    have HB1 := Lib.hid hb1
    have HK1 := Lib.hid (hk.below hb1)
    clear hb1 hs1
    go_wp2_with fail
    refine (rtype_any x hs' _).mono ?_
    rintro e w2 ⟨v2, rfl, hb2, hs2⟩
    rw [HR.out] at hs2 ⊢
    simp only at hs2 ⊢
    have HB12 := Lib.hid hb2
    have HS2 := Lib.hid hs2
    obtain ⟨B1, m1, d1, rfl⟩ := ERow.is hs2
    have HS1b := Lib.hid (ERow.below HS1.out HB12.out (fun _ _ h => h))
    clear hb2 hs2
    go_wp2_with fail
    refine (samesorts_any _ _ px px _ (Id.SortsR.weak (Id.wk_none _) HS1b.out) (Id.SortsR.weak (Id.wk_none _) HS2.out)).mono ?_
    rintro e w3 ⟨rfl, q, hw3⟩
    rw [Id.sameF_refl Id.srtEq_refl]
    have HB23 : Hid (Below w2.heap.size w2 w3) := Lib.hid (by rw [hw3]; exact below_drewN (Below.refl _ _) q)
    have HK3 := Lib.hid ((HK1.out.below HB12.out).below HB23.out)
    clear hw3
    go_wp2_with fail
    refine (wakes12_any _ HK3.out).mono ?_
    rintro e w4 ⟨rfl, hb4⟩
    have HB4 := Lib.hid (bl_join (bl_join (bl_join HB1.out HB12.out) HB23.out) hb4)
    clear hb4
    go_wp2_with fail
    go_ret
    exact ⟨rfl, HB4.out⟩
end Go.Proofs.YtoomlpalkinipaaDoor
