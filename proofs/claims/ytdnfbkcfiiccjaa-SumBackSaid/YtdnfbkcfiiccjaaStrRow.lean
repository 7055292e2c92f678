/- A slice of texts that came in, told by a list of lists of bytes. No condition. -/
import Derived.Test.YtdnfbkcfiiccjaaBase
import Derived.SliceStrings
import Derived.ProofKit
set_option linter.unusedVariables false
namespace Go.Proofs.Ytdnfbkcfiiccjaa
open Go.RowKit
theorem block_of_add (a : Addr) (n : Nat) : (a.add n).block = a.block := by unfold Addr.add; split <;> rfl
/-- A slice of texts that came in. -/
structure StrRow (w : World) (A : Option Addr) (n c : Nat) (ls : List (List UInt8)) : Prop where
  len : ls.length = n
  cap : n ≤ c
  max : c ≤ maxLen
  each : ∀ l ∈ ls, l.length ≤ maxLen
  row : 0 < n → ∃ ad, A = some ad ∧ ad.block < w.heap.size ∧ ∀ j (hj : j < ls.length), w.cell? (ad.add j) = some (.string ⟨ls[j].toArray⟩)
theorem StrRow.below {w w' : World} {A : Option Addr} {n c : Nat} {ls : List (List UInt8)} (h : StrRow w A n c ls) (hb : Below w.heap.size w w') : StrRow w' A n c ls :=
  ⟨h.len, h.cap, h.max, h.each, fun hn => by
    obtain ⟨ad, hA, hlt, hc⟩ := h.row hn
    exact ⟨ad, hA, Nat.lt_of_lt_of_le hlt hb.size, fun j hj => (hb.cell (p := ad.add j) (by rw [block_of_add]; exact hlt)).trans (hc j hj)⟩⟩
theorem open_str_row {P : Program} {H : Type} {enc : TypeId × Value → H} {W : World} {base : Nat} {spare : Nat → Bool} {held : Bool} {t e : TypeId} {A : Option Addr} {n c : Nat} {d : DataW H} {ps : List MemPlace}
    (ht : P.underlying t = some (.slice e)) (he : P.underlying e = some .string) (hc : P.cellsOf e = 1)
    (h : DataW.Trod enc P W base spare held t (Value.slice A n c) d ps) : ∃ ls, StrRow W A n c ls := by
  obtain ⟨fuel, hf⟩ := h
  rcases ChangeShapes.open_strings ht he hc hf with ⟨hcs, _⟩ | ⟨a, len, cap, ss, hcs, _, hl, hm, hz, _, hcell, hws⟩
  · simp [Value.cells] at hcs
    obtain ⟨rfl, rfl, rfl⟩ := hcs
    exact ⟨[], rfl, Nat.le_refl _, by simp, by simp, by omega⟩
  · simp [Value.cells] at hcs
    obtain ⟨rfl, rfl, rfl⟩ := hcs
    have hnl : n ≤ ss.length := by rw [hz]; split <;> omega
    refine ⟨(ss.take n).map fun s => s.data.toList, by simp; omega, hl, hm, ?_, ?_⟩
    · intro l hl'
      obtain ⟨s, hs, rfl⟩ := List.mem_map.1 hl'
      have := hws s (List.mem_of_mem_take hs)
      simpa using this
    · intro hn
      refine ⟨a, rfl, ?_, ?_⟩
      · have := block_lt_of_cell (hcell 0 (by omega))
        rwa [block_of_add] at this
      · intro j hj
        have hj' : j < n := by simp at hj; omega
        rw [hcell j (by omega), List.getElem_map, List.getElem_take, List.getD_eq_getElem?_getD, List.getElem?_eq_getElem (by omega)]
        rfl
end Go.Proofs.Ytdnfbkcfiiccjaa
