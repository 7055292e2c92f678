import Derived.Test.YtoomlpalkinipaaDoorTokWalkD
set_option linter.unusedVariables false
namespace Go.Proofs.YtoomlpalkinipaaDoor
open Go.RowKit
theorem setCell_drewN (w : World) (n : Nat) (a : Addr) (v : Value) : (w.drewN n).setCell a v = (w.setCell a v).drewN n := rfl
/-- A number put into the third field of the youngest token. -/
theorem digit_world (w : World) (A : Obj) (c0 c1 c3 : Value) (x y : Int) (T : TypeId) (n : Nat) (g : Nat) (hg : g = w.heap.size + 1) :
    (((w.alloc A).alloc (.cells #[c0, c1, .int .i64 x, c3] T)).drewN n).setCell ⟨g, 2, none⟩ (.int .i64 y) = ((w.alloc A).alloc (.cells #[c0, c1, .int .i64 y, c3] T)).drewN n := by
  rw [setCell_drewN, World.setCell_alloc_at _ _ _ _ _ (by rw [hg]; simp)]
  rfl
/-- Two new blocks, draws, four stores into the first: old memory stands. -/
theorem tok_below (w : World) (A B : Obj) (n : Nat) (v0 v1 v2 v3 : Value) :
    Below w.heap.size w ((((((((w.alloc A).alloc B).drewN n).setCell ⟨w.heap.size, 0, none⟩ v0).setCell ⟨w.heap.size, 1, none⟩ v1).setCell ⟨w.heap.size, 2, none⟩ v2).setCell ⟨w.heap.size, 3, none⟩ v3)) := by
  have h0 : Below w.heap.size w ((w.alloc A).alloc B) := ((Below.refl _ _).alloc (Nat.le_refl _) _).alloc (by simp) _
  have h1 := below_drewN h0 n
  have h2 := h1.setCell (p := ⟨w.heap.size, 0, none⟩) (Nat.le_refl _) v0
  have h3 := h2.setCell (p := ⟨w.heap.size, 1, none⟩) (Nat.le_refl _) v1
  have h4 := h3.setCell (p := ⟨w.heap.size, 2, none⟩) (Nat.le_refl _) v2
  exact h4.setCell (p := ⟨w.heap.size, 3, none⟩) (Nat.le_refl _) v3
end Go.Proofs.YtoomlpalkinipaaDoor
