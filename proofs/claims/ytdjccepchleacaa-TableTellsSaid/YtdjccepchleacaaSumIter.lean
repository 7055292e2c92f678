/- The frames of a text, one behind the other, and the iterator over their bodies: 'All' and its function literal. -/
import Derived.Test.YtdjccepchleacaaSumLaws
import Derived.RangeFuncNested
import Derived.RangeFuncBound
import Derived.RangeFuncCalls
import Derived.RangeFuncLeaves
import Derived.RangeFuncBox
import Derived.Shelf.Abstract
import Derived.Shelf.RegionOpen
import Derived.OwnWalkIn
import Derived.TacticsInMore
import Derived.LoopNIn
import Derived.LoopIn
set_option linter.unusedVariables false
namespace Go.Proofs.Ytdjccepchleacaa
open Go.RowKit Go.BigFrame Go.Shelf
attribute [local go_sem] Oper.semAt_some
namespace Sm
abbrev Body := { b : List UInt8 // b.length ≤ 65536 }
/-- From a place on the frames have these bodies, and end there. -/
def Run (s : List UInt8) : Nat → List Body → Nat → Prop
  | n, [], m => m = n ∧ nextR s n = none
  | n, b :: bs, m => nextR s n = some b.1 ∧ Run s (n + 8 + b.1.length) bs m
theorem run_ex (s : List UInt8) : ∀ (f n : Nat), s.length ≤ n + f → n ≤ s.length → ∃ bs m, Run s n bs m := by
  intro f
  induction f with
  | zero =>
    intro n h1 h2
    exact ⟨[], n, rfl, nextR_off (.inr (by omega))⟩
  | succ f ih =>
    intro n h1 h2
    cases h : nextR s n with
    | none => exact ⟨[], n, rfl, h⟩
    | some b =>
      obtain ⟨m, hm, hb1, hb2, _, _⟩ := nextR_some h
      obtain rfl : m = n := by omega
      obtain ⟨bs, m', hr⟩ := ih (m + 8 + b.length) (by omega) (by omega)
      exact ⟨⟨b, hb1⟩ :: bs, m', h, hr⟩
theorem run_le {s : List UInt8} : ∀ {bs : List Body} {n m : Nat}, n ≤ s.length → Run s n bs m → m ≤ s.length ∧ n + 8 * bs.length ≤ m ∧ m = n + (bs.map fun b => 8 + b.1.length).sum
  | [], n, m, hn, h => by obtain ⟨rfl, _⟩ := h; simp; exact hn
  | b :: bs, n, m, hn, h => by
    obtain ⟨h1, h2⟩ := h
    obtain ⟨k, hk, hb1, hb2, _, _⟩ := nextR_some h1
    obtain rfl : k = n := by omega
    obtain ⟨i1, i2, i3⟩ := run_le (by omega) h2
    refine ⟨i1, by rw [List.length_cons]; omega, by rw [List.map_cons, List.sum_cons]; omega⟩
end Sm
/-- What a round keeps: what lay below, and the box of the text. -/
def KeepBox (n₀ Bn : Nat) (s : ByteArray) (W W' : World) : Prop := Below n₀ W W' ∧ (W.cell? ⟨Bn, 0, none⟩ = some (.string s) → W'.cell? ⟨Bn, 0, none⟩ = some (.string s))
theorem keepBox_t {n₀ Bn : Nat} {s : ByteArray} {A B C : World} (h : KeepBox n₀ Bn s A B) (k : KeepBox n₀ Bn s B C) : KeepBox n₀ Bn s A C := ⟨h.1.trans k.1, fun x => k.2 (h.2 x)⟩
theorem keepBox_b {n₀ Bn : Nat} {s : ByteArray} {w : World} (hn : n₀ ≤ w.heap.size) (hB : Bn < w.heap.size) (W : World) (l : Nat) (o o' : Obj) (hl : w.heap.size ≤ l) (h : W.heap[l]? = some o) (hc : o.isCells = false) (hw : o.isWalk = false) :
    KeepBox n₀ Bn s W (W.putObj l o') :=
  ⟨belowK_b hn W l o o' hl h hc hw, fun x => (World.cell?_of_block ((grownBy_putObj' W l o').block Bn (block_lt_of_cell x) (by intro e; injection e with e; omega))).trans x⟩
theorem grown_of_below {a w : World} (h : Below a.heap.size a w) (row : Option Nat) : a.grownBy w row := ⟨h.os, h.tape, h.output, h.size, fun i hi _ => h.block i hi⟩
end Go.Proofs.Ytdjccepchleacaa
