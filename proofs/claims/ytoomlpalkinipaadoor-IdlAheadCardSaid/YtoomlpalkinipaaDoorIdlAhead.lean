/- IdlAhead: the walk. -/
import Derived.Test.YtoomlpalkinipaaDoorIdlLaw2
import Derived.Test.YtoomlpalkinipaaDoorIdlWk
set_option linter.unusedVariables false
set_option linter.unusedSimpArgs false
namespace Go.Proofs.YtoomlpalkinipaaDoor
open Go.RowKit
theorem cat_data (a b : ByteArray) : ((a ++ (⟨#[10]⟩ : ByteArray)) ++ b).data.toList = a.data.toList ++ 10 :: b.data.toList := by simp [ByteArray.data_append]
set_option maxRecDepth 100000 in
set_option maxHeartbeats 8000000 in
theorem idlAhead_walk (s t : ByteArray) (hs : s.size ≤ maxLen) (ht : t.size ≤ maxLen) (w : World) (hk : Tk.KW w) :
    Calls Tryd.prog 5 #[.string s, .string t] w fun e w' => e = .returned (.bool true) ∧ Below w.heap.size w w' := by
  unfold maxLen at hs ht
  go_enter Tryd.func5, Tryd.ntmps5
  go_upto_if 19 with (fail)
  go_cut [0] (fun x wx => ∃ a' : ByteArray, a'.size ≤ 2500 ∧ x = .string a' ∧ wx = w)
  case first =>
    by_cases h1 : 2500 < s.size
    · go_wp2_with fail
      go_meet
      case rel => exact ⟨_, by simp; omega, rfl, rfl⟩
    · go_wp2_with fail
      go_meet
      case rel => exact ⟨_, by omega, rfl, rfl⟩
  case rest =>
    obtain ⟨a, ha, rfl, rfl⟩ := hcut
    go_upto_if 24 with (fail)
    go_cut [1] (fun x wx => ∃ a' : ByteArray, a'.size ≤ 2500 ∧ x = .string a' ∧ wx = wc)
    case first =>
      by_cases h1 : 2500 < t.size
      · go_wp2_with fail
        go_meet
        case rel => exact ⟨_, by simp; omega, rfl, rfl⟩
      · go_wp2_with fail
        go_meet
        case rel => exact ⟨_, by omega, rfl, rfl⟩
    case rest =>
      obtain ⟨b, hb, rfl, rfl⟩ := hcut
      clear hs ht
      obtain ⟨⟨la, pa, ea⟩, HA⟩ : ∃ q, Hid (Tk.all a = q) := ⟨_, Lib.hid rfl⟩
      obtain ⟨⟨lb, pb, eb⟩, HB⟩ : ∃ q, Hid (Tk.all b = q) := ⟨_, Lib.hid rfl⟩
      obtain ⟨⟨xa, at_, ep⟩, HP⟩ : ∃ q, Hid (Id.parse a = q) := ⟨_, Lib.hid rfl⟩
      go_wp2_with fail
      refine (all_any a (by unfold maxLen; omega) _).mono ?_
      rintro e w1 ⟨v1, rfl, hb1, _⟩
      rw [HA.out]
      simp only
      go_wp2_with fail
      refine (all_any b (by unfold maxLen; omega) _).mono ?_
      rintro e w2 ⟨v2, rfl, hb2, _⟩
      rw [HB.out]
      simp only
      have HB2 := Lib.hid (bl_join hb1 hb2)
      have HK2 := Lib.hid (hk.below HB2.out)
      clear hb1 hb2
      go_wp2_with fail
      refine (pparse_any a (by omega) _ HK2.out).mono ?_
      rintro e w3 ⟨v3, rfl, hb3, hs3⟩
      rw [HP.out] at hs3 ⊢
      simp only at hs3 ⊢
      obtain ⟨A1, n1, c1, A2, n2, c2, A3, n3, c3, rfl, _⟩ := hs3
      generalize xa.name = xn at *
      have HB3 := Lib.hid (((bl_join HB2.out hb3)).alloc (by have := HB2.out.size; have := hb3.size; omega) (.cells #[.string xn, .slice A1 n1 c1, .slice A2 n2 c2, .slice A3 n3 c3] 26))
      have HK3 := Lib.hid (hk.below HB3.out)
      clear hb3
      by_cases hea : ea = 0
      case neg =>
        have t1 : ((ea : Int) != 0) = true := by rw [bne_iff_ne]; omega
        have t1b : decide (ea = 0) = false := by simpa using hea
        clear hea
        go_wp2_with fail
        refine (wakes12_any _ HK3.out).mono ?_
        rintro e w9 ⟨rfl, hb9⟩
        have HF := Lib.hid (bl_join HB3.out hb9)
        clear hb9
        go_wp2_with fail
        go_ret
        exact ⟨rfl, HF.out⟩
      subst hea
      by_cases heb : eb = 0
      case neg =>
        have t1 : ((eb : Int) != 0) = true := by rw [bne_iff_ne]; omega
        have t1b : decide (eb = 0) = false := by simpa using heb
        clear heb
        go_wp2_with fail
        refine (wakes12_any _ HK3.out).mono ?_
        rintro e w9 ⟨rfl, hb9⟩
        have HF := Lib.hid (bl_join HB3.out hb9)
        clear hb9
        go_wp2_with fail
        go_ret
        exact ⟨rfl, HF.out⟩
      subst heb
      by_cases hep : ep = 120
      case neg =>
        have t1 : ((ep : Int) != 120) = true := by rw [bne_iff_ne]; omega
        have t1b : decide (ep = 120) = false := by simpa using hep
        clear hep
        go_wp2_with fail
        refine (wakes12_any _ HK3.out).mono ?_
        rintro e w9 ⟨rfl, hb9⟩
        have HF := Lib.hid (bl_join HB3.out hb9)
        clear hb9
        go_wp2_with fail
        go_ret
        exact ⟨rfl, HF.out⟩
      subst hep
      by_cases hat : at_ = a.size
      case pos =>
        have t1 : ((at_ : Int) == (a.size : Int)) = true := by rw [beq_iff_eq]; omega
        clear hat
        go_wp2_with fail
        refine (wakes12_any _ HK3.out).mono ?_
        rintro e w9 ⟨rfl, hb9⟩
        have HF := Lib.hid (bl_join HB3.out hb9)
        clear hb9
        go_wp2_with fail
        go_ret
        exact ⟨rfl, HF.out⟩
      have t1 : ((at_ : Int) == (a.size : Int)) = false := by rw [beq_eq_false_iff_ne]; omega
      have h10 : (⟨#[10]⟩ : ByteArray).size = 1 := rfl
      have hcs : ((a ++ (⟨#[10]⟩ : ByteArray)) ++ b).size ≤ 5001 := by rw [ByteArray.size_append, ByteArray.size_append]; omega
      clear h10
      have HC : Hid (Id.parse ((a ++ (⟨#[10]⟩ : ByteArray)) ++ b) = (xa, at_, 120)) := Lib.hid (by
        rw [← HP.out]
        exact Id.ahead (cat_data a b) (by omega) (by rw [HA.out]) (by rw [HB.out]) (by rw [HP.out]) (by rw [HP.out]; exact hat))
      clear hat
      have hsum : ¬ 9223372036854775807 < a.size + 1 + b.size := by omega
      have hsum2 : ¬ 9223372036854775807 < a.size + 1 := by omega
      go_wp2_with fail
      refine (pparse_any _ (by omega) _ HK3.out).mono ?_
      rintro e w4 ⟨v4, rfl, hb4, hs4⟩
      rw [HC.out] at hs4 ⊢
      simp only at hs4 ⊢
      obtain ⟨B1, m1, d1, B2, m2, d2, B3, m3, d3, rfl, _⟩ := hs4
      generalize xa.name = yn at *
      have HB4 := Lib.hid (((bl_join HB3.out hb4)).alloc (by have := HB3.out.size; have := hb4.size; omega) (.cells #[.string yn, .slice B1 m1 d1, .slice B2 m2 d2, .slice B3 m3 d3] 26))
      have HK4 := Lib.hid (hk.below HB4.out)
      clear hb4
      go_wp2_with fail
      refine (wakes12_any _ HK4.out).mono ?_
      rintro e w9 ⟨rfl, hb9⟩
      have HF := Lib.hid (bl_join HB4.out hb9)
      clear hb9
      go_wp2_with fail
      go_ret
      exact ⟨rfl, HF.out⟩
end Go.Proofs.YtoomlpalkinipaaDoor
