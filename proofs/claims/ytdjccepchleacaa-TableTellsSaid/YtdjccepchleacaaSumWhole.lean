import Derived.Test.YtdjccepchleacaaSumIter
set_option linter.unusedVariables false
namespace Go.Proofs.Ytdjccepchleacaa
open Go.RowKit Go.BigFrame Go.Shelf
attribute [local go_sem] Oper.semAt_some
theorem cell_new_l (w : World) (v : Value) (t : TypeId) : (w.alloc (.cells #[v] t)).cell? ⟨w.heap.size, 0, none⟩ = some v ∧ (w.alloc (.cells #[v] t)).frozen? ⟨w.heap.size, 0, none⟩ = false :=
  ⟨by simp [go_sem], by simp [go_sem]⟩
theorem cell_alloc_l {w : World} {a : Addr} {v : Value} (o : Obj) (h : w.cell? a = some v) : (w.alloc o).cell? a = some v := by
  rw [World.cell?_alloc_lt w o a (block_lt_of_cell h)]; exact h
theorem frozen_alloc_l {w : World} {a : Addr} {v : Value} (o : Obj) (h : w.cell? a = some v) (hf : w.frozen? a = false) : (w.alloc o).frozen? a = false := by
  rw [← hf]
  exact ((Below.refl w.heap.size w).alloc (Nat.le_refl _) o).frozen (block_lt_of_cell h)
namespace Sm
def lens (l : List Body) : Nat := (l.map fun b => 8 + b.1.length).sum
theorem lens_snoc (l : List Body) (b : Body) : lens (l ++ [b]) = lens l + (8 + b.1.length) := by simp [lens]
theorem lens_le (l : List Body) : lens l ≤ l.length * 65544 := by
  induction l with
  | nil => simp [lens]
  | cons b l ih =>
    have e : lens (b :: l) = 8 + b.1.length + lens l := by simp [lens]
    have := b.2
    rw [e, List.length_cons, Nat.succ_mul]
    omega
end Sm
end Go.Proofs.Ytdjccepchleacaa
