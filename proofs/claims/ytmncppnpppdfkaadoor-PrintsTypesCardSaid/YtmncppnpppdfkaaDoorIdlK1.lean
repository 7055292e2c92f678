/- Chapter 12, plain: the parser over tokens: the rest of the tokens, and whether there was a fault. The parser: is, take, want. The parser: name. The parser: name; end. The parser: words. The parser: one with words' literal; printed by gen_idl_one.py. The parser: one with step's literal; printed by gen_idl_num.py. The parser: words. (merged by merge.py: XIdlMath XIdlA XIdlB XIdlC XIdlD XIdlE XIdlF XIdlG). No condition but the ones the theorems state. -/
import Derived.Test.YtmncppnpppdfkaaDoorKT1
import Derived.Test.YtmncppnpppdfkaaDoorK0
set_option linter.unusedVariables false
namespace Go.Proofs.YtmncppnpppdfkaaDoor
namespace Id
abbrev St := List Tk.Tok × Bool
def is (s : St) (text : ByteArray) : Bool := !s.2 && (match s.1 with
  | [] => false
  | t :: _ => !(t.kind == 2) && (t.text.toList == text.toList))
def take (s : St) (text : ByteArray) : Bool × St := if is s text then (true, (s.1.tail, s.2)) else (false, s)
def want (s : St) (text : ByteArray) : St := if is s text then (s.1.tail, s.2) else (s.1, true)
def one (s : St) (kind : Nat) (right : Tk.Tok → Bool) : Tk.Tok × St := match s with
  | (t :: r, false) => if t.kind = kind ∧ right t = true then (t, (r, false)) else (⟨0, ⟨#[]⟩, 0, 0⟩, (t :: r, true))
  | (l, _) => (⟨0, ⟨#[]⟩, 0, 0⟩, (l, true))
end Id
end Go.Proofs.YtmncppnpppdfkaaDoor
set_option linter.unusedVariables false
set_option linter.unusedSimpArgs false
namespace Go.Proofs.YtmncppnpppdfkaaDoor
open Go.RowKit
/-- A block of tokens. -/
def Id.Typed (w : World) (g : Nat) : Prop := ∃ cs fr, w.heap[g]? = some (.cells cs 96 fr)
theorem Id.Typed.lt {w : World} {g : Nat} (h : Id.Typed w g) : g < w.heap.size := by
  obtain ⟨cs, fr, h⟩ := h
  exact (Array.getElem?_eq_some_iff.1 h).1
theorem Id.Typed.below {w w' : World} {g : Nat} (h : Id.Typed w g) (hb : Below w.heap.size w w') : Id.Typed w' g := by
  have hl := h.lt
  obtain ⟨cs, fr, h⟩ := h
  exact ⟨cs, fr, (hb.block g hl).trans h⟩
theorem Id.Typed.far {w : World} {g : Nat} (h : Id.Typed w g) {p : Addr} (hp : g ≠ p.block) (u : Value) : Id.Typed (w.setCell p u) g := by
  obtain ⟨cs, fr, h⟩ := h
  exact ⟨cs, fr, (Below.heap_setCell w p u g hp).trans h⟩
theorem Id.is_cons {s : Id.St} {text : ByteArray} (h : Id.is s text = true) : ∃ t r, s = (t :: r, false) := by
  obtain ⟨l, bad⟩ := s
  cases bad
  · cases l with
    | nil => cases h
    | cons t r => exact ⟨t, r, rfl⟩
  · cases h
theorem Tk.ReadT.set' {w : World} {A : Option Addr} {ls : List Tk.Tok} (h : Tk.ReadT w A ls) {b j : Nat} (hne : ∀ ad, A = some ad → ad.block ≠ b) (v : Value) : Tk.ReadT (w.setCell ⟨b, j, none⟩ v) A ls := fun h0 => by
  obtain ⟨g, off, rfl, hc⟩ := h h0
  have hb : g ≠ b := hne _ rfl
  have k : ∀ o, (w.setCell ⟨b, j, none⟩ v).cell? ⟨g, o, none⟩ = w.cell? ⟨g, o, none⟩ := fun o => World.cell?_setCell_other _ _ _ _ (by intro e; injection e with e1; exact hb e1.symm)
  exact ⟨g, off, rfl, fun j hj => by rw [k, k, k, k]; exact hc j hj⟩
theorem Tk.ReadT.tail' {w : World} {g off : Nat} {t : Tk.Tok} {r : List Tk.Tok} (h : Tk.ReadT w (some ⟨g, off, none⟩) (t :: r)) : Tk.ReadT w (some ⟨g, off + 4, none⟩) r := fun h0 => by
  obtain ⟨g', off', e, hc⟩ := h (by simp)
  injection e with e
  injection e with e1 e2
  subst e1 e2
  refine ⟨_, _, rfl, fun j hj => ?_⟩
  have := hc (j + 1) (by simpa using hj)
  rw [show off + (j + 1) * 4 = off + 4 + j * 4 by omega] at this
  simpa using this
end Go.Proofs.YtmncppnpppdfkaaDoor
set_option linter.unusedVariables false
set_option linter.unusedSimpArgs false
namespace Go.Proofs.YtmncppnpppdfkaaDoor
open Go.RowKit
def Id.tok0 : Tk.Tok := ⟨0, ⟨#[]⟩, 0, 0⟩
end Go.Proofs.YtmncppnpppdfkaaDoor
set_option linter.unusedVariables false
set_option linter.unusedSimpArgs false
namespace Go.Proofs.YtmncppnpppdfkaaDoor
open Go.RowKit
theorem field_tok (a b c d : Value) (w : World) : Sem.run Tryd.prog (Instr.field 96 (.agg #[a, b, c, d]) 1) w = .ok b w := by kernel_rfl
def Id.name (s : Id.St) : ByteArray × Id.St := ((Id.one s 1 (fun t => Tk.isName t.text)).1.text, (Id.one s 1 (fun t => Tk.isName t.text)).2)
/-- What a word that ends a type says. -/
def Id.endW (s : ByteArray) : Nat := if s.toList = [110, 111, 110, 101] then 1 else if s.toList = [98, 111, 111, 108] then 2 else if s.toList = [105, 110, 116] then 3 else if s.toList = [116, 101, 120, 116] then 4 else 0
end Go.Proofs.YtmncppnpppdfkaaDoor
set_option linter.unusedVariables false
set_option linter.unusedSimpArgs false
namespace Go.Proofs.YtmncppnpppdfkaaDoor
open Go.RowKit
def Id.among (some : List ByteArray) (t : Tk.Tok) : Bool := some.any fun x => t.text.toList == x.toList
end Go.Proofs.YtmncppnpppdfkaaDoor
set_option linter.unusedVariables false
set_option linter.unusedSimpArgs false
namespace Go.Proofs.YtmncppnpppdfkaaDoor
open Go.RowKit
end Go.Proofs.YtmncppnpppdfkaaDoor
set_option linter.unusedVariables false
set_option linter.unusedSimpArgs false
namespace Go.Proofs.YtmncppnpppdfkaaDoor
open Go.RowKit
end Go.Proofs.YtmncppnpppdfkaaDoor
set_option linter.unusedVariables false
set_option linter.unusedSimpArgs false
namespace Go.Proofs.YtmncppnpppdfkaaDoor
open Go.RowKit
def Id.words (ws : List ByteArray) (s : Id.St) : ByteArray × Id.St := ((Id.one s 1 (Id.among ws)).1.text, (Id.one s 1 (Id.among ws)).2)
end Go.Proofs.YtmncppnpppdfkaaDoor
