import Derived.Test.YtdjccepchleacaaSumLaws2
import Derived.Test.YtdjccepchleacaaBytes
set_option linter.unusedVariables false
namespace Go.Proofs.Ytdjccepchleacaa
open Go.RowKit Go.BigFrame
attribute [local go_sem] bl_imp
namespace Sm
/-- The place that a law picks in a text of L bytes. -/
def place (a : Int) (L : Nat) : Nat := if a.tmod L < 0 then (a.tmod L + L).toNat else (a.tmod L).toNat
theorem tmod_bounds (a : Int) {L : Nat} (hL : 0 < L) : -(L : Int) < a.tmod L ∧ a.tmod L < L := by
  have h1 := Int.tmod_lt_of_pos a (b := (L : Int)) (by omega)
  have h2 := Int.lt_tmod_of_pos a (b := (L : Int)) (by omega)
  exact ⟨h2, h1⟩
theorem place_lt (a : Int) {L : Nat} (hL : 0 < L) : place a L < L := by
  have := tmod_bounds a hL
  unfold place
  split <;> omega
end Sm
end Go.Proofs.Ytdjccepchleacaa
