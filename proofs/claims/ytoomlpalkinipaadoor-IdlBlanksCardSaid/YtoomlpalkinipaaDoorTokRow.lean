/- A slice of tokens, as it lies. -/
import Derived.Test.YtoomlpalkinipaaDoorTokAppend
set_option linter.unusedVariables false
namespace Go.Proofs.YtoomlpalkinipaaDoor
open Go.RowKit
namespace Tk
/-- A slice of tokens, as it lies. -/
def ReadT (w : World) (A : Option Addr) (ls : List Tok) : Prop := 0 < ls.length → ∃ g off, A = some ⟨g, off, none⟩ ∧ ∀ j (hj : j < ls.length),
  w.cell? ⟨g, off + j * 4, none⟩ = some (.int .u8 ls[j].kind) ∧ w.cell? ⟨g, off + j * 4 + 1, none⟩ = some (.string ls[j].text) ∧ w.cell? ⟨g, off + j * 4 + 2, none⟩ = some (.int .i64 ls[j].num) ∧ w.cell? ⟨g, off + j * 4 + 3, none⟩ = some (.int .i64 ls[j].at_)
theorem ReadT.drewN {w : World} {A : Option Addr} {ls : List Tok} (h : ReadT w A ls) (n : Nat) : ReadT (w.drewN n) A ls := h
end Tk
namespace Tk
theorem flat_drop : ∀ (ls : List Tok) (j : Nat) (h : j < ls.length), (flat ls).drop (j * 4) = ls[j].cells ++ flat (ls.drop (j + 1))
  | [], j, h => by simp at h
  | t :: ls, 0, h => by simp [flat]
  | t :: ls, j + 1, h => by
    have ih := flat_drop ls j (by simpa using h)
    have e : flat (t :: ls) = t.cells ++ flat ls := by simp [flat]
    have l4 : t.cells.length = 4 := rfl
    rw [e, List.drop_append, List.drop_of_length_le (by omega), List.nil_append, show (j + 1) * 4 - t.cells.length = j * 4 from by omega, ih]
    simp
theorem flat_get {ls : List Tok} {j : Nat} (h : j < ls.length) (i : Nat) (hi : i < 4) : (flat ls)[j * 4 + i]? = ls[j].cells[i]? := by
  have l4 : ls[j].cells.length = 4 := rfl
  rw [← List.getElem?_drop, flat_drop ls j h, List.getElem?_append_left (by omega)]
theorem row_reads {w : World} {base : Nat} {v : Value} {ls : List Tok} (h : w.ownsRow base 37 4 v ls.length (flat ls)) : ∃ A c, v = .slice A ls.length c ∧ ReadT w A ls ∧ ls.length ≤ 9223372036854775807 := by
  rcases h.2 with ⟨rfl, h0⟩ | ⟨g, cap, cur, rfl, hbs, hgg, hn, hc, _⟩
  · exact ⟨none, 0, by rw [h0], fun e => by omega, by omega⟩
  · refine ⟨some ⟨g, 0, none⟩, cap, rfl, fun _ => ⟨g, 0, rfl, fun j hj => ?_⟩, by unfold maxLen at hc; omega⟩
    have hc := h.cells (g := g) rfl
    have key : ∀ i (hi : i < 4) u, ls[j].cells[i]? = some u → w.cell? ⟨g, 0 + j * 4 + i, none⟩ = some u := by
      intro i hi u hu
      have := hc (j * 4 + i) u (by rw [flat_get hj i hi]; exact hu)
      have hadd : (⟨g, 0, none⟩ : Addr).add (j * 4 + i) = ⟨g, j * 4 + i, none⟩ := by unfold Addr.add; split <;> simp_all
      rw [hadd] at this
      rw [Nat.zero_add]
      exact this
    exact ⟨key 0 (by omega) _ rfl, key 1 (by omega) _ rfl, key 2 (by omega) _ rfl, key 3 (by omega) _ rfl⟩
end Tk
theorem Tk.ReadT.below {w w' : World} {A : Option Addr} {ls : List Tk.Tok} (h : Tk.ReadT w A ls) (hb : Below w.heap.size w w') : Tk.ReadT w' A ls := by
  intro h0
  obtain ⟨g, off, rfl, hc⟩ := h h0
  refine ⟨g, off, rfl, fun j hj => ?_⟩
  have key : ∀ o v, w.cell? ⟨g, o, none⟩ = some v → w'.cell? ⟨g, o, none⟩ = some v := fun o v hv => by
    rw [hb.cell (p := ⟨g, o, none⟩) (World.block_lt_of_cell? w _ hv)]; exact hv
  obtain ⟨h1, h2, h3, h4⟩ := hc j hj
  exact ⟨key _ _ h1, key _ _ h2, key _ _ h3, key _ _ h4⟩
end Go.Proofs.YtoomlpalkinipaaDoor
