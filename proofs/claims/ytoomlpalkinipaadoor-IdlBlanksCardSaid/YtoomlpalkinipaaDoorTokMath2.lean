/- Chapter 11, plain: blanks, signs, runs, numbers. -/
import Derived.Test.YtoomlpalkinipaaDoorTokMath
set_option linter.unusedVariables false
namespace Go.Proofs.YtoomlpalkinipaaDoor
namespace Tk
theorem isBlank_no {x : Nat} (h : isBlank x = false) : x ≠ 32 ∧ x ≠ 9 ∧ x ≠ 10 ∧ x ≠ 13 := by
  unfold isBlank at h
  simp at h
  omega
theorem isBlank_yes {x : Nat} (h : isBlank x = true) : x = 32 ∨ x = 9 ∨ x = 10 ∨ x = 13 := by
  unfold isBlank at h
  simp at h
  omega
end Tk
namespace Tk
theorem sign_cases {x : Nat} (h : isSign x = true) : x = 123 ∨ x = 125 ∨ x = 40 ∨ x = 41 ∨ x = 59 ∨ x = 58 ∨ x = 44 ∨ x = 46 := by
  unfold isSign at h
  simp at h
  omega
theorem sign_none {x : Nat} (h : isSign x = false) : x ≠ 123 ∧ x ≠ 125 ∧ x ≠ 40 ∧ x ≠ 41 ∧ x ≠ 59 ∧ x ≠ 58 ∧ x ≠ 44 ∧ x ≠ 46 := by
  unfold isSign at h
  simp at h
  omega
end Tk
namespace Tk
theorem run_get (p : Nat → Bool) : ∀ (l : List UInt8) (i : Nat) (h : i < run p l) (h2 : i < l.length), p l[i].toNat = true
  | [], i, h, h2 => by simp at h2
  | c :: r, 0, h, h2 => by
    unfold run at h
    by_cases e : p c.toNat = true
    · exact e
    · rw [if_neg e] at h; omega
  | c :: r, i + 1, h, h2 => by
    unfold run at h
    by_cases e : p c.toNat = true
    · rw [if_pos e] at h
      exact run_get p r i (by omega) (by simpa using h2)
    · rw [if_neg e] at h; omega
theorem runEnd_get {p : Nat → Bool} {s : ByteArray} {k m : Nat} (hk : k ≤ m) (hm : m < runEnd p s k) (hms : m < s.size) : p s[m].toNat = true := by
  have h := run_get p (from_ s k) (m - k) (by unfold runEnd at hm; omega) (by unfold from_; simp; omega)
  unfold from_ at h
  rw [List.getElem_drop] at h
  have e : k + (m - k) = m := by omega
  simp only [e] at h
  exact h
theorem num_start (s : ByteArray) (k : Nat) : num s k k = 0 := by
  unfold num
  rw [List.drop_of_length_le (by simp; omega)]
  rfl
theorem num_succ {s : ByteArray} {k m : Nat} (hk : k ≤ m) (hm : m < s.size) : num s k (m + 1) = 10 * num s k m + (s[m].toNat - 48) := by
  unfold num
  have e1 : s.data.toList.take (m + 1) = s.data.toList.take m ++ [s[m]] := by
    rw [List.take_succ_eq_append_getElem (by simpa using hm)]; rfl
  rw [e1, List.drop_append_of_le_length (by simp; omega)]
  unfold numOn
  rw [List.foldl_append]
  rfl
theorem num_lt_succ {s : ByteArray} {k m : Nat} (hk : k ≤ m) (hm : m < s.size) (hd : isDigit s[m].toNat = true) (h : num s k m < 10 ^ (m - k)) : num s k (m + 1) < 10 ^ (m + 1 - k) := by
  rw [num_succ hk hm, show m + 1 - k = (m - k) + 1 from by omega, Nat.pow_succ]
  unfold isDigit at hd
  simp at hd
  omega
theorem num_small {n d : Nat} (h : n < 10 ^ d) (hd : d ≤ 8) : n < 100000000 := by
  have : 10 ^ d ≤ 10 ^ 8 := Nat.pow_le_pow_right (by omega) hd
  omega
end Tk
namespace Tk
/-- The fault of a token that is too long. -/
def over (b n : Nat) : Nat := if b < n then 3 else 0
end Tk
end Go.Proofs.YtoomlpalkinipaaDoor
