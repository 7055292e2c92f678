import Derived.Test.YtdjccepchleacaaSumWalkE
set_option linter.unusedVariables false
namespace Go.Proofs.Ytdjccepchleacaa
open Go.RowKit Go.BigFrame
attribute [local go_sem] bl_imp
namespace Sm
/-- The number of four bytes, its highest first. -/
def hv (s : ByteArray) (n : Nat) : Nat → Nat
  | 0 => 0
  | k + 1 => 256 * hv s n k + (s.data.toList.getD (n + 3 - k) 0).toNat
theorem hv_lt (s : ByteArray) (n k : Nat) (hk : k ≤ 4) : hv s n k < 4294967296 := by
  have h : ∀ k, hv s n k < 256 ^ k := by
    intro k
    induction k with
    | zero => simp [hv]
    | succ k ih =>
      have := (s.data.toList.getD (n + 3 - k) 0).toNat_lt
      rw [Nat.pow_succ]
      simp only [hv]
      omega
  have h1 := h k
  have h2 : 256 ^ k ≤ 256 ^ 4 := Nat.pow_le_pow_right (by omega) hk
  have h3 : (256 : Nat) ^ 4 = 4294967296 := by decide
  omega
theorem hv_all (s : ByteArray) (n : Nat) : hv s n 4 = val4 (s.data.toList.drop n) := by
  have e : ∀ i, (s.data.toList.drop n).getD i 0 = s.data.toList.getD (n + i) 0 := by
    intro i
    simp [List.getD_eq_getElem?_getD, List.getElem?_drop]
  unfold val4
  rw [e, e, e, e]
  simp only [hv]
  simp only [Nat.sub_zero, show n + 3 - 1 = n + 2 from by omega, show n + 3 - 2 = n + 1 from by omega, show n + 3 - 3 = n + 0 from by omega]
  omega
theorem hv_step {s : ByteArray} {n k j : Nat} (hj : j + k = n + 3) (h : j < s.size) : hv s n (k + 1) = 256 * hv s n k + s[j].toNat := by
  have : n + 3 - k = j := by omega
  simp only [hv]
  rw [this, getD_byte s j h]
end Sm
end Go.Proofs.Ytdjccepchleacaa
