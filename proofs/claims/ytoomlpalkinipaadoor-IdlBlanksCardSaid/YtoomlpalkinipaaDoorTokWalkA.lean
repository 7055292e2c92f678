import Derived.Test.YtoomlpalkinipaaDoorTokMath2
set_option linter.unusedVariables false
namespace Go.Proofs.YtoomlpalkinipaaDoor
open Go.RowKit
set_option linter.unusedSimpArgs false
theorem letter_any (x : Nat) (hx : x < 256) (w : World) :
    Calls Tryd.prog 49 #[.int .u8 x] w fun e w' => e = .returned (.bool (Tk.isLetter x)) ∧ w = w' := by
  have e1 : bits .or .u8 (x : Int) 32 = ((x ||| 32 : Nat) : Int) := u8_or_nat x 32 hx (by omega)
  have hl := Tk.or32_letter x hx
  have hlt := Tk.or32_lt x hx
  generalize x ||| 32 = y at e1 hl hlt
  rw [← hl]
  clear hl
  go_enter Tryd.func49, Tryd.ntmps49
  by_cases h1 : 97 ≤ y
  · by_cases h2 : y ≤ 122
    · go_wp2
      go_ret
      exact ⟨by first | rfl | (simp; done) | (simp [*]; done) | (simp [*]; omega) | (simp; omega) | (simp_all; omega), rfl⟩
    · go_wp2
      go_ret
      exact ⟨by first | rfl | (simp; done) | (simp [*]; done) | (simp [*]; omega) | (simp; omega) | (simp_all; omega), rfl⟩
  · go_wp2
    go_ret
    exact ⟨by first | rfl | (simp; done) | (simp [*]; done) | (simp [*]; omega) | (simp; omega) | (simp_all; omega), rfl⟩
theorem digit_any (x : Nat) (hx : x < 256) (w : World) :
    Calls Tryd.prog 52 #[.int .u8 x] w fun e w' => e = .returned (.bool (Tk.isDigit x)) ∧ w = w' := by
  unfold Tk.isDigit
  go_enter Tryd.func52, Tryd.ntmps52
  by_cases h1 : 48 ≤ x
  · by_cases h2 : x ≤ 57
    · go_wp2
      go_ret
      exact ⟨by first | rfl | (simp; done) | (simp [*]; done) | (simp [*]; omega) | (simp; omega) | (simp_all; omega), rfl⟩
    · go_wp2
      go_ret
      exact ⟨by first | rfl | (simp; done) | (simp [*]; done) | (simp [*]; omega) | (simp; omega) | (simp_all; omega), rfl⟩
  · go_wp2
    go_ret
    exact ⟨by first | rfl | (simp; done) | (simp [*]; done) | (simp [*]; omega) | (simp; omega) | (simp_all; omega), rfl⟩
theorem inner_any (x : Nat) (hx : x < 256) (w : World) :
    Calls Tryd.prog 51 #[.int .u8 x] w fun e w' => e = .returned (.bool (Tk.isInner x)) ∧ w = w' := by
  unfold Tk.isInner
  cases h1 : Tk.isLetter x
  · cases h2 : Tk.isDigit x
    · go_enter Tryd.func51, Tryd.ntmps51
      go_wp2_with fail
      refine (letter_any x hx _).mono ?_
      rintro e w1 ⟨rfl, rfl⟩
      rw [h1]
      go_wp2_with fail
      refine (digit_any x hx _).mono ?_
      rintro e w1 ⟨rfl, rfl⟩
      rw [h2]
      by_cases h3 : x = 95
      · go_wp2_with fail
        go_ret
        exact ⟨by first | rfl | (simp; done) | (simp [*]; done) | (simp [*]; omega) | (simp; omega) | (simp_all; omega), rfl⟩
      · go_wp2_with fail
        go_ret
        exact ⟨by first | rfl | (simp; done) | (simp [*]; done) | (simp [*]; omega) | (simp; omega) | (simp_all; omega), rfl⟩
    · go_enter Tryd.func51, Tryd.ntmps51
      go_wp2_with fail
      refine (letter_any x hx _).mono ?_
      rintro e w1 ⟨rfl, rfl⟩
      rw [h1]
      go_wp2_with fail
      refine (digit_any x hx _).mono ?_
      rintro e w1 ⟨rfl, rfl⟩
      rw [h2]
      go_wp2_with fail
      go_ret
      exact ⟨by simp, rfl⟩
  · go_enter Tryd.func51, Tryd.ntmps51
    go_wp2_with fail
    refine (letter_any x hx _).mono ?_
    rintro e w1 ⟨rfl, rfl⟩
    rw [h1]
    go_wp2_with fail
    go_ret
    exact ⟨by simp, rfl⟩
end Go.Proofs.YtoomlpalkinipaaDoor
