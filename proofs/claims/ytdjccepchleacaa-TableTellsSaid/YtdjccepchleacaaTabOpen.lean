/- A slice of entries that comes in. -/
import Derived.Test.YtdjccepchleacaaOpen
import Derived.Test.YtdjccepchleacaaTabC
set_option linter.unusedVariables false
namespace Go.Proofs.Ytdjccepchleacaa
open Go.RowKit Go.ChangeShapes Go.WideShapes Go.Deep
theorem open_ents {H : Type} {enc : TypeId × Value → H} {w : World} {base : Nat} {spare : Nat → Bool} {held : Bool} {v : Value} {d : DataW H} {p : List MemPlace} (hv : ∃ A n c, v = .slice A n c)
    (h : DataW.Trod enc Try.prog w base spare held 22 v d p) : ∃ (A : Option Addr) (n c : Nat) (ls : List Tb.Ent), v = .slice A n c ∧ ls.length = n ∧ n ≤ 9223372036854775807 ∧ (∀ x ∈ ls, x.key.size ≤ maxLen ∧ x.value.size ≤ maxLen) ∧ (A = none → n = 0 ∧ c = 0) ∧ Lie w A (ls.flatMap Tb.Ent.cells) := by
  obtain ⟨fuel, hf⟩ := h
  obtain ⟨A0, n0, c0, rfl⟩ := hv
  obtain ⟨A, n, c, vs, hv, hnc, hc, hA, hl, hlie, hx⟩ := open_cells Try.underlying22 Try.underlying36 (by kernel_rfl) (by kernel_rfl) (by decide) hf
  obtain ⟨ls, rfl⟩ := list_of (fun x : { x : Tb.Ent // x.key.size ≤ maxLen ∧ x.value.size ≤ maxLen } => x.1.cells) vs (fun x hxm => by
    obtain ⟨hxl, hxf⟩ := hx x hxm
    obtain ⟨u0, k0, y0, e0, t0⟩ := hxf 0 _ rfl
    obtain ⟨u1, k1, y1, e1, t1⟩ := hxf 1 _ rfl
    obtain ⟨u2, k2, y2, e2, t2⟩ := hxf 2 _ rfl
    obtain ⟨n0, hn0, z0⟩ := DataW.trod_string Try.underlying9 t0
    obtain ⟨n1, hn1, z1⟩ := DataW.trod_string Try.underlying9 t1
    obtain ⟨n2, hn2, z2⟩ := DataW.trod_bool Try.underlying4 t2
    simp only [List.cons.injEq, and_true] at hn0 hn1 hn2
    subst hn0 hn1 hn2
    refine ⟨⟨⟨n0, n1, n2⟩, z0.2, z1.2⟩, List.ext_getElem? fun i => ?_⟩
    match i with
    | 0 => exact e0
    | 1 => exact e1
    | 2 => exact e2
    | i + 3 =>
      rw [List.getElem?_eq_none (by rw [hxl]; show 3 ≤ i + 3; omega), List.getElem?_eq_none (by show 3 ≤ i + 3; omega)])
  refine ⟨A, n, c, ls.map Subtype.val, hv, by simpa using hl, by unfold maxLen at hc; omega, fun x hx => ?_, hA, ?_⟩
  · obtain ⟨y, _, rfl⟩ := List.mem_map.1 hx
    exact y.2
  · rw [List.flatMap_map]
    rw [List.flatMap_def]
    exact hlie
end Go.Proofs.Ytdjccepchleacaa
