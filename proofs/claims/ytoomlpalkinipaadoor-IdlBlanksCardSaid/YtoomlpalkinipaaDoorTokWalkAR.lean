import Derived.Test.YtoomlpalkinipaaDoorTokMath2
set_option linter.unusedVariables false
set_option linter.unusedSimpArgs false
namespace Go.Proofs.YtoomlpalkinipaaDoor
open Go.RowKit
theorem rletter_any (x : Nat) (hx : x < 256) (w : World) :
    Calls Tryd.prog 62 #[.int .u8 x] w fun e w' => e = .returned (.bool (Tk.isLetter x)) ∧ w = w' := by
  unfold Tk.isLetter
  go_enter Tryd.func62, Tryd.ntmps62
  by_cases h1 : 97 ≤ x
  · by_cases h2 : x ≤ 122
    · go_wp2
      go_ret
      exact ⟨by first | rfl | (simp; done) | (simp [*]; done) | (simp [*]; omega) | (simp; omega) | (simp_all; omega), rfl⟩
    · have h3 : ¬ x ≤ 90 := by omega
      have h4 : 65 ≤ x := by omega
      go_wp2
      go_ret
      exact ⟨by first | rfl | (simp; done) | (simp [*]; done) | (simp [*]; omega) | (simp; omega) | (simp_all; omega), rfl⟩
  · by_cases h3 : 65 ≤ x
    · by_cases h4 : x ≤ 90
      · go_wp2
        go_ret
        exact ⟨by first | rfl | (simp; done) | (simp [*]; done) | (simp [*]; omega) | (simp; omega) | (simp_all; omega), rfl⟩
      · go_wp2
        go_ret
        exact ⟨by first | rfl | (simp; done) | (simp [*]; done) | (simp [*]; omega) | (simp; omega) | (simp_all; omega), rfl⟩
    · go_wp2
      go_ret
      exact ⟨by first | rfl | (simp; done) | (simp [*]; done) | (simp [*]; omega) | (simp; omega) | (simp_all; omega), rfl⟩
theorem rdigit_any (x : Nat) (hx : x < 256) (w : World) :
    Calls Tryd.prog 63 #[.int .u8 x] w fun e w' => e = .returned (.bool (Tk.isDigit x)) ∧ w = w' := by
  unfold Tk.isDigit
  go_enter Tryd.func63, Tryd.ntmps63
  by_cases h1 : 48 ≤ x
  · by_cases h2 : x ≤ 57
    · go_wp2
      go_ret
      exact ⟨by first | rfl | (simp; done) | (simp [*]; done) | (simp [*]; omega) | (simp; omega) | (simp_all; omega), rfl⟩
    · go_wp2
      go_ret
      exact ⟨by first | rfl | (simp; done) | (simp [*]; done) | (simp [*]; omega) | (simp; omega) | (simp_all; omega), rfl⟩
  · go_wp2
    go_ret
    exact ⟨by first | rfl | (simp; done) | (simp [*]; done) | (simp [*]; omega) | (simp; omega) | (simp_all; omega), rfl⟩
end Go.Proofs.YtoomlpalkinipaaDoor
