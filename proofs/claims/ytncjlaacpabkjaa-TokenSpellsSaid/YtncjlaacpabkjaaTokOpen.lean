/- A slice of tokens that comes in. -/
import Derived.Test.YtncjlaacpabkjaaOpen
import Derived.Test.YtncjlaacpabkjaaTokSpells
set_option linter.unusedVariables false
namespace Go.Proofs.Ytncjlaacpabkjaa
open Go.RowKit Go.ChangeShapes Go.WideShapes Go.Deep
theorem u8_nat {n : Int} (h : (Lit.int .u8 n).wf = true) : ∃ k : Nat, n = k := by
  have e : IntKind.u8.min = 0 := rfl
  have : 0 ≤ n := by simp [Lit.wf] at h; omega
  exact ⟨n.toNat, by omega⟩
theorem open_toks {H : Type} {enc : TypeId × Value → H} {w : World} {base : Nat} {spare : Nat → Bool} {held : Bool} {v : Value} {d : DataW H} {p : List MemPlace} (hv : ∃ A n c, v = .slice A n c)
    (h : DataW.Trod enc Try.prog w base spare held 22 v d p) : ∃ (A : Option Addr) (n c : Nat) (ls : List Tk.ITok), v = .slice A n c ∧ ls.length = n ∧ n ≤ 9223372036854775807 ∧ (A = none → n = 0 ∧ c = 0) ∧ Lie w A (ls.flatMap Tk.ITok.cells) := by
  obtain ⟨fuel, hf⟩ := h
  obtain ⟨A0, n0, c0, rfl⟩ := hv
  obtain ⟨A, n, c, vs, hv, hnc, hc, hA, hl, hlie, hx⟩ := open_cells Try.underlying22 Try.underlying30 (by kernel_rfl) (by kernel_rfl) (by decide) hf
  obtain ⟨ls, rfl⟩ := list_of Tk.ITok.cells vs (fun x hxm => by
    obtain ⟨hxl, hxf⟩ := hx x hxm
    obtain ⟨u0, k0, y0, e0, t0⟩ := hxf 0 _ rfl
    obtain ⟨u1, k1, y1, e1, t1⟩ := hxf 1 _ rfl
    obtain ⟨u2, k2, y2, e2, t2⟩ := hxf 2 _ rfl
    obtain ⟨u3, k3, y3, e3, t3⟩ := hxf 3 _ rfl
    obtain ⟨n0, hn0, _, w0⟩ := DataW.trod_int Try.underlying5 t0
    obtain ⟨n1, hn1, _⟩ := DataW.trod_string Try.underlying9 t1
    obtain ⟨n2, hn2, _⟩ := DataW.trod_int Try.underlying3 t2
    obtain ⟨n3, hn3, _⟩ := DataW.trod_int Try.underlying3 t3
    simp only [List.cons.injEq, and_true] at hn0 hn1 hn2 hn3
    subst hn0 hn1 hn2 hn3
    obtain ⟨k, rfl⟩ := u8_nat w0
    refine ⟨⟨k, n1, n2, n3⟩, List.ext_getElem? fun i => ?_⟩
    match i with
    | 0 => exact e0
    | 1 => exact e1
    | 2 => exact e2
    | 3 => exact e3
    | i + 4 =>
      rw [List.getElem?_eq_none (by rw [hxl]; show 4 ≤ i + 4; omega), List.getElem?_eq_none (by show 4 ≤ i + 4; omega)])
  exact ⟨A, n, c, ls, hv, by simpa using hl, by unfold maxLen at hc; omega, hA, by rw [List.flatMap_def]; exact hlie⟩
end Go.Proofs.Ytncjlaacpabkjaa
