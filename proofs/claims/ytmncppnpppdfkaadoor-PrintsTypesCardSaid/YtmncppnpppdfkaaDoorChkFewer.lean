/- CheckFewer: the walk. No condition. -/
import Derived.Test.YtmncppnpppdfkaaDoorKC5
import Derived.Test.YtmncppnpppdfkaaDoorChkLaw2
set_option linter.unusedVariables false
set_option linter.unusedSimpArgs false
namespace Go.Proofs.YtmncppnpppdfkaaDoor
open Go.RowKit Go.BigFrame
/-- A row but its last element. -/
theorem ERow.less {α : Type} {w : World} {t : TypeId} {size : Nat} {E : World → List Value → α → Prop} {A : Option Addr} {m c : Nat} {l : List α} (h : ERow w none t size E (.slice A (m + 1) c) l) (hn : m + 1 = l.length) : ERow w none t size E (.slice A m c) l.dropLast := by
  obtain ⟨css, h1, h2, h3, h4⟩ := h
  obtain ⟨A', c', e, g1, g2, g3, g4⟩ := h3.slice
  injection e with e1 e2 e3
  subst e1 e3
  have hl : l.dropLast.length = m := by rw [List.length_dropLast]; omega
  have hs : ∀ cs ∈ css.take m, cs.length = size := fun cs hcs => h2 cs (List.mem_of_mem_take hcs)
  have hc : (css.take m).length = m := by rw [List.length_take]; omega
  refine ⟨css.take m, by rw [hc, hl], hs, ⟨by rw [flatten_len hs, hc, hl], A, c, by rw [hl], by omega, g2, (fun e => by have := g3 e; omega), fun h0 => ?_⟩, fun i hi hi' => ?_⟩
  · have hsub : ∀ j u, (css.take m).flatten[j]? = some u → css.flatten[j]? = some u := fun j u hu => by
      have e : css.flatten = (css.take m).flatten ++ (css.drop m).flatten := by rw [← List.flatten_append, List.take_append_drop]
      rw [e, List.getElem?_append_left (List.getElem?_eq_some_iff.1 hu).1]
      exact hu
    have h00 : 0 < css.flatten.length := by
      have e : css.flatten = (css.take m).flatten ++ (css.drop m).flatten := by rw [← List.flatten_append, List.take_append_drop]
      rw [e, List.length_append]; omega
    obtain ⟨g, off, e, hcl⟩ := g4 h00
    exact ⟨g, off, e, fun j u hu => hcl j u (hsub j u hu)⟩
  · rw [List.getElem_take, List.getElem_dropLast]
    exact h4 i (by omega) (by omega)
theorem Chk.fewer_fine {x : Id.Sch} (h : Chk.Fine x) : Chk.Fine (Chk.fewer x) :=
  ⟨h.nm, by show x.records.reverse.length ≤ 1000; rw [List.length_reverse]; exact h.recs, h.svcs, by show x.sagas.dropLast.length ≤ 1000; rw [List.length_dropLast]; have := h.sags; omega, fun r hr => h.re r (List.mem_reverse.1 hr), h.sv, fun g hg => h.sa g (Chk.mem_drop hg)⟩
/-- Within a law over a schema: its box, what lay there. -/
structure Chk.Lx (w wr : World) (S : Array Value) : Prop where
  bel : Below w.heap.size w wr
  box : Bk wr w.heap.size 26 S
theorem Chk.Lx.below {w wr w' : World} {S : Array Value} (h : Chk.Lx w wr S) (hb : Below wr.heap.size wr w') : Chk.Lx w w' S := ⟨h.bel.trans (hb.mono h.bel.size), h.box.below hb h.box.lt⟩
theorem Chk.Lx.start {w wr : World} {S : Array Value} (h : wr = w.alloc (.cells S 26)) : Chk.Lx w wr S := by
  subst h
  exact ⟨(Below.refl _ _).alloc (Nat.le_refl _) _, Bk.new _ _ _⟩
theorem Chk.Lx.only {w wr w' : World} {S : Array Value} {e : TypeId} (h : Chk.Lx w wr S) (hb : Below w.heap.size wr w') (ho : Only e wr w') (he : 26 ≠ e) : Chk.Lx w w' S := ⟨h.bel.trans hb, ho.bk h.box he⟩
end Go.Proofs.YtmncppnpppdfkaaDoor
