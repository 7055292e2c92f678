/- wakes: a few tokens; a row of tokens as it reads. -/
import Derived.Test.YtncjlaacpabkjaaTokSame
set_option linter.unusedVariables false
namespace Go.Proofs.Ytncjlaacpabkjaa
open Go.RowKit
namespace Tk
theorem flat_drop : ∀ (ls : List Tok) (j : Nat) (h : j < ls.length), (flat ls).drop (j * 4) = ls[j].cells ++ flat (ls.drop (j + 1))
  | [], j, h => by simp at h
  | t :: ls, 0, h => by simp [flat]
  | t :: ls, j + 1, h => by
    have ih := flat_drop ls j (by simpa using h)
    have e : flat (t :: ls) = t.cells ++ flat ls := by simp [flat]
    have l4 : t.cells.length = 4 := rfl
    rw [e, List.drop_append, List.drop_of_length_le (by omega), List.nil_append, show (j + 1) * 4 - t.cells.length = j * 4 from by omega, ih]
    simp
theorem flat_get {ls : List Tok} {j : Nat} (h : j < ls.length) (i : Nat) (hi : i < 4) : (flat ls)[j * 4 + i]? = ls[j].cells[i]? := by
  have l4 : ls[j].cells.length = 4 := rfl
  rw [← List.getElem?_drop, flat_drop ls j h, List.getElem?_append_left (by omega)]
theorem row_reads {w : World} {base : Nat} {v : Value} {ls : List Tok} (h : w.ownsRow base 30 4 v ls.length (flat ls)) : ∃ A c, v = .slice A ls.length c ∧ ReadT w A ls ∧ ls.length ≤ 9223372036854775807 := by
  rcases h.2 with ⟨rfl, h0⟩ | ⟨g, cap, cur, rfl, hbs, hgg, hn, hc, _⟩
  · exact ⟨none, 0, by rw [h0], fun e => by omega, by omega⟩
  · refine ⟨some ⟨g, 0, none⟩, cap, rfl, fun _ => ⟨g, 0, rfl, fun j hj => ?_⟩, by unfold maxLen at hc; omega⟩
    have hc := h.cells (g := g) rfl
    have key : ∀ i (hi : i < 4) u, ls[j].cells[i]? = some u → w.cell? ⟨g, 0 + j * 4 + i, none⟩ = some u := by
      intro i hi u hu
      have := hc (j * 4 + i) u (by rw [flat_get hj i hi]; exact hu)
      have hadd : (⟨g, 0, none⟩ : Addr).add (j * 4 + i) = ⟨g, j * 4 + i, none⟩ := by unfold Addr.add; split <;> simp_all
      rw [hadd] at this
      rw [Nat.zero_add]
      exact this
    exact ⟨key 0 (by omega) _ rfl, key 1 (by omega) _ rfl, key 2 (by omega) _ rfl, key 3 (by omega) _ rfl⟩
/-- The text of the examples. -/
def few : ByteArray := ⟨#[97, 45, 62, 98, 46, 99, 32, 49, 48]⟩
theorem few_all : all few = ([⟨1, ⟨#[97]⟩, 0, 0⟩, ⟨3, ⟨#[45, 62]⟩, 0, 1⟩, ⟨1, ⟨#[98]⟩, 0, 3⟩, ⟨3, ⟨#[46]⟩, 0, 4⟩, ⟨1, ⟨#[99]⟩, 0, 5⟩, ⟨2, ⟨#[49, 48]⟩, 10, 7⟩], 0, 0) := by kernel_rfl
end Tk
set_option maxRecDepth 100000 in
set_option maxHeartbeats 1000000 in
theorem wakes_any (w : World) : Calls Try.prog 10 #[] w fun e w' => e = .returned (.bool true) ∧ Below w.heap.size w w' := by
  go_enter Try.func10, Try.ntmps10
  go_wp2_with fail
  refine (all_any Tk.few (by decide) _).mono ?_
  rintro e w1 ⟨v, rfl, hb, hown⟩
  rw [Tk.few_all] at hown ⊢
  obtain ⟨A, c, rfl, hr, _⟩ := Tk.row_reads (ls := [⟨1, ⟨#[97]⟩, 0, 0⟩, ⟨3, ⟨#[45, 62]⟩, 0, 1⟩, ⟨1, ⟨#[98]⟩, 0, 3⟩, ⟨3, ⟨#[46]⟩, 0, 4⟩, ⟨1, ⟨#[99]⟩, 0, 5⟩, ⟨2, ⟨#[49, 48]⟩, 10, 7⟩]) hown
  obtain ⟨g, off, rfl, hc⟩ := hr (by decide)
  obtain ⟨a0, a1, a2, a3⟩ := hc 1 (by decide)
  obtain ⟨b0, b1, b2, b3⟩ := hc 5 (by decide)
  simp only [List.getElem_cons_succ, List.getElem_cons_zero] at a0 a1 a2 a3 b0 b1 b2 b3
  clear hown hr hc
  go_wp2_with fail
  go_ret
  exact ⟨by rfl, hb⟩
end Go.Proofs.Ytncjlaacpabkjaa
