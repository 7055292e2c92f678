/- (*token.reader).next: the text's end; a word. (*token.reader).next, whatever stands there. token.All. (merged by merge.py: XTokNextA XTokNextB XTokNextC XTokNextD XTokNextE XTokNext XTokAllP). No condition but the ones the theorems state. -/
import Derived.Test.YtmncppnpppdfkaaGreatDoorPTKT1
import Derived.Laws.ResultCell
set_option linter.unusedVariables false
namespace Go.Proofs.YtmncppnpppdfkaaGreatDoor
open Go.RowKit
namespace Tk
/-- A token's block. -/
def Blk (w : World) (g : Nat) (c0 c1 c2 c3 : Value) : Prop := w.heap[g]? = some (.cells #[c0, c1, c2, c3] 154 (0, 0))
theorem Blk.lt {w : World} {g : Nat} {c0 c1 c2 c3 : Value} (h : Blk w g c0 c1 c2 c3) : g < w.heap.size := lt_of_block h
theorem Blk.grown {w w' : World} {g : Nat} {c0 c1 c2 c3 : Value} (h : Blk w g c0 c1 c2 c3) {r : Option Nat} (hg : w.grownBy w' r) (hne : some g ≠ r) : Blk w' g c0 c1 c2 c3 := by
  unfold Blk; rw [hg.block g h.lt hne]; exact h
theorem Blk.new (w : World) (c0 c1 c2 c3 : Value) : Blk (w.alloc (.cells #[c0, c1, c2, c3] 154)) w.heap.size c0 c1 c2 c3 := heap_alloc_new w _
theorem Rd.other {w : World} {b : Nat} {s : ByteArray} {k : Nat} (h : Rd w b s k) {g : Nat} (hne : g ≠ b) (j : Nat) (v : Value) : Rd (w.setCell ⟨g, j, none⟩ v) b s k := by
  unfold Rd; rw [Below.heap_setCell _ _ _ _ (by intro e; exact hne e.symm)]; exact h
theorem Rd.alloc {w : World} {b : Nat} {s : ByteArray} {k : Nat} (h : Rd w b s k) (o : Obj) : Rd (w.alloc o) b s k :=
  h.below ((Below.refl _ _).alloc (Nat.le_refl _) _)
end Tk
end Go.Proofs.YtmncppnpppdfkaaGreatDoor
set_option linter.unusedVariables false
namespace Go.Proofs.YtmncppnpppdfkaaGreatDoor
open Go.RowKit
end Go.Proofs.YtmncppnpppdfkaaGreatDoor
set_option linter.unusedVariables false
namespace Go.Proofs.YtmncppnpppdfkaaGreatDoor
open Go.RowKit
namespace Tk
theorem bytesRow_get (t : ByteArray) (cap i : Nat) (h : i < t.size) : (bytesRow t cap)[i]? = some (.int .u8 (byte t i)) := by
  unfold bytesRow
  rw [Array.getElem?_append_left (by simpa using h)]
  rw [Array.getElem?_map]
  have : t.data[i]? = some t.data[i] := Array.getElem?_eq_getElem (by simpa using h)
  rw [this, byte_eq h]
  rfl
theorem Blk.other {w : World} {g : Nat} {c0 c1 c2 c3 : Value} (h : Blk w g c0 c1 c2 c3) {g' : Nat} (hne : g' ≠ g) (j : Nat) (v : Value) : Blk (w.setCell ⟨g', j, none⟩ v) g c0 c1 c2 c3 := by
  unfold Blk; rw [Below.heap_setCell _ _ _ _ (by intro e; exact hne e.symm)]; exact h
theorem Blk.old {w : World} {g : Nat} {c0 c1 c2 c3 : Value} (h : Blk w g c0 c1 c2 c3) (o : Obj) : Blk (w.alloc o) g c0 c1 c2 c3 := h.grown (World.grownBy_alloc w o none) (by simp)
theorem Blk.drew {w : World} {g : Nat} {c0 c1 c2 c3 : Value} (h : Blk w g c0 c1 c2 c3) : Blk w.drew g c0 c1 c2 c3 := h
theorem Rd.drew {w : World} {b : Nat} {s : ByteArray} {k : Nat} (h : Rd w b s k) : Rd w.drew b s k := h
/-- Bytes that lie in a block. -/
def Lies (w : World) (g : Nat) (t : ByteArray) : Prop := ∀ i, i < t.size → w.cell? ⟨g, i, none⟩ = some (.int .u8 (byte t i))
theorem Lies.new (w : World) (t : ByteArray) (cap : Nat) (e : TypeId) (fr : Nat × Nat) (g : Nat) (hg : g = w.heap.size) : Lies (w.alloc (.cells (bytesRow t cap) e fr)) g t := by
  subst hg
  intro i hi
  rw [cell_of_row _ w.heap.size i _ _ _ (heap_alloc_new w _)]
  exact bytesRow_get t cap i hi
theorem Lies.other {w : World} {g : Nat} {t : ByteArray} (h : Lies w g t) {g' : Nat} (hne : g' ≠ g) (j : Nat) (v : Value) : Lies (w.setCell ⟨g', j, none⟩ v) g t := by
  intro i hi
  have e : (w.setCell ⟨g', j, none⟩ v).heap[g]? = w.heap[g]? := Below.heap_setCell _ _ _ _ (by intro e; exact hne e.symm)
  rw [World.cell?_of_block (w := w) (a := ⟨g, i, none⟩) e]
  exact h i hi
end Tk
set_option linter.unusedSimpArgs false
end Go.Proofs.YtmncppnpppdfkaaGreatDoor
set_option linter.unusedVariables false
namespace Go.Proofs.YtmncppnpppdfkaaGreatDoor
open Go.RowKit
namespace Tk
def signs : ByteArray := ⟨#[123, 125, 40, 41, 59, 58, 44, 46]⟩
end Tk
end Go.Proofs.YtmncppnpppdfkaaGreatDoor
set_option linter.unusedVariables false
namespace Go.Proofs.YtmncppnpppdfkaaGreatDoor
open Go.RowKit
end Go.Proofs.YtmncppnpppdfkaaGreatDoor
set_option linter.unusedVariables false
namespace Go.Proofs.YtmncppnpppdfkaaGreatDoor
open Go.RowKit
end Go.Proofs.YtmncppnpppdfkaaGreatDoor
set_option linter.unusedVariables false
namespace Go.Proofs.YtmncppnpppdfkaaGreatDoor
open Go.RowKit
namespace Tk
theorem scan_end {s : ByteArray} {k f d : Nat} {acc : List Tok} (h : ¬ k < s.size) : scan d s f k acc = (acc, 0, 0) := by
  cases f with
  | zero => rfl
  | succ f => rw [scan, if_neg h]
end Tk
end Go.Proofs.YtmncppnpppdfkaaGreatDoor
