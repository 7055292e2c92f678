/- wakes: a few tokens; a row of tokens as it reads. -/
import Derived.Test.YtncjlaacpabkjaaTokRow
import Derived.Test.YtncjlaacpabkjaaTokAllP
set_option linter.unusedVariables false
namespace Go.Proofs.Ytncjlaacpabkjaa
open Go.RowKit
namespace Tk
/-- The text of the examples. -/
def few : ByteArray := ⟨#[97, 45, 62, 98, 46, 99, 32, 49, 48]⟩
theorem few_all : all few = ([⟨1, ⟨#[97]⟩, 0, 0⟩, ⟨3, ⟨#[45, 62]⟩, 0, 1⟩, ⟨1, ⟨#[98]⟩, 0, 3⟩, ⟨3, ⟨#[46]⟩, 0, 4⟩, ⟨1, ⟨#[99]⟩, 0, 5⟩, ⟨2, ⟨#[49, 48]⟩, 10, 7⟩], 0, 0) := by kernel_rfl
end Tk
set_option maxRecDepth 100000 in
set_option maxHeartbeats 1000000 in
theorem wakes_any (w : World) : Calls Try.prog 10 #[] w fun e w' => e = .returned (.bool true) ∧ Below w.heap.size w w' := by
  go_enter Try.func10, Try.ntmps10
  go_wp2_with fail
  refine (all_any Tk.few (by decide) _).mono ?_
  rintro e w1 ⟨v, rfl, hb, hown⟩
  rw [Tk.few_all] at hown ⊢
  obtain ⟨A, c, rfl, hr, _⟩ := Tk.row_reads (ls := [⟨1, ⟨#[97]⟩, 0, 0⟩, ⟨3, ⟨#[45, 62]⟩, 0, 1⟩, ⟨1, ⟨#[98]⟩, 0, 3⟩, ⟨3, ⟨#[46]⟩, 0, 4⟩, ⟨1, ⟨#[99]⟩, 0, 5⟩, ⟨2, ⟨#[49, 48]⟩, 10, 7⟩]) hown
  obtain ⟨g, off, rfl, hc⟩ := hr (by decide)
  obtain ⟨a0, a1, a2, a3⟩ := hc 1 (by decide)
  obtain ⟨b0, b1, b2, b3⟩ := hc 5 (by decide)
  simp only [List.getElem_cons_succ, List.getElem_cons_zero] at a0 a1 a2 a3 b0 b1 b2 b3
  clear hown hr hc
  go_wp2_with fail
  go_ret
  exact ⟨by rfl, hb⟩
end Go.Proofs.Ytncjlaacpabkjaa
