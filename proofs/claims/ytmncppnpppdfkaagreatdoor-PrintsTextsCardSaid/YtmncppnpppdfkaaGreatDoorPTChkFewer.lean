/- CheckFewer: the walk. No condition. -/
import Derived.Test.YtmncppnpppdfkaaGreatDoorPTKC5
import Derived.Test.YtmncppnpppdfkaaGreatDoorPTChkLaw2
set_option linter.unusedVariables false
set_option linter.unusedSimpArgs false
namespace Go.Proofs.YtmncppnpppdfkaaGreatDoor
open Go.RowKit Go.BigFrame
/-- Within a law over a schema: its box, what lay there. -/
structure Chk.Lx (w wr : World) (S : Array Value) : Prop where
  bel : Below w.heap.size w wr
  box : Bk wr w.heap.size 26 S
theorem Chk.Lx.below {w wr w' : World} {S : Array Value} (h : Chk.Lx w wr S) (hb : Below wr.heap.size wr w') : Chk.Lx w w' S := ⟨h.bel.trans (hb.mono h.bel.size), h.box.below hb h.box.lt⟩
theorem Chk.Lx.start {w wr : World} {S : Array Value} (h : wr = w.alloc (.cells S 26)) : Chk.Lx w wr S := by
  subst h
  exact ⟨(Below.refl _ _).alloc (Nat.le_refl _) _, Bk.new _ _ _⟩
theorem Chk.Lx.only {w wr w' : World} {S : Array Value} {e : TypeId} (h : Chk.Lx w wr S) (hb : Below w.heap.size wr w') (ho : Only e wr w') (he : 26 ≠ e) : Chk.Lx w w' S := ⟨h.bel.trans hb, ho.bk h.box he⟩
end Go.Proofs.YtmncppnpppdfkaaGreatDoor
