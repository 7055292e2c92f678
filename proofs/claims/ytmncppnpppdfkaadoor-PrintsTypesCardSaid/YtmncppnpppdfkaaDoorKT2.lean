/- (*token.reader).next: the text's end; a word. (*token.reader).next, whatever stands there. token.All. (merged by merge.py: XTokNextA XTokNextB XTokNextC XTokNextD XTokNextE XTokNext XTokAllP). No condition but the ones the theorems state. -/
import Derived.Test.YtmncppnpppdfkaaDoorKT1
import Derived.Laws.ResultCell
set_option linter.unusedVariables false
namespace Go.Proofs.YtmncppnpppdfkaaDoor
open Go.RowKit
theorem grown_set_new {w w' : World} {r : Option Nat} (h : w.grownBy w' r) {g : Nat} (hg : w.heap.size ≤ g) (j : Nat) (v : Value) : w.grownBy (w'.setCell ⟨g, j, none⟩ v) r :=
  ⟨h.os, h.tape, h.output, by simpa using h.size, fun k hk hne => (Below.heap_setCell _ _ _ _ (by intro e; have : g = k := e.symm; omega)).trans (h.block k hk hne)⟩
theorem results_cell_tmp2 {fn : Func} {p u v : Tmp} {ty : TypeId} (h : fn.results = #[.cell p ty, .tmp u, .tmp v]) (tmps : Array Value) (P : Program) (w : World) :
    (results fn tmps).run P w =
      ((asAddr (tmps.getD p undef)).run P w).andThen fun a w₁ => ((loadVar ty a).run P w₁).andThen fun x w₂ => .ok (.tuple #[x, tmps.getD u undef, tmps.getD v undef]) w₂ := by
  simp only [results, h]
  simp [Sem.run_bind, Result.andThen]
namespace Tk
/-- A token's block. -/
def Blk (w : World) (g : Nat) (c0 c1 c2 c3 : Value) : Prop := w.heap[g]? = some (.cells #[c0, c1, c2, c3] 96 (0, 0))
theorem Blk.facts {w : World} {g : Nat} {c0 c1 c2 c3 : Value} (h : Blk w g c0 c1 c2 c3) :
    (w.cell? ⟨g, 0, none⟩ = some c0 ∧ w.cell? ⟨g, 1, none⟩ = some c1 ∧ w.cell? ⟨g, 2, none⟩ = some c2 ∧ w.cell? ⟨g, 3, none⟩ = some c3) ∧ (w.frozen? ⟨g, 0, none⟩ = false ∧ w.frozen? ⟨g, 1, none⟩ = false ∧ w.frozen? ⟨g, 2, none⟩ = false ∧ w.frozen? ⟨g, 3, none⟩ = false) :=
  ⟨⟨cell_of_row w g 0 _ _ _ h, cell_of_row w g 1 _ _ _ h, cell_of_row w g 2 _ _ _ h, cell_of_row w g 3 _ _ _ h⟩, frozen_of_row w g 0 _ _ h, frozen_of_row w g 1 _ _ h, frozen_of_row w g 2 _ _ h, frozen_of_row w g 3 _ _ h⟩
theorem Blk.lt {w : World} {g : Nat} {c0 c1 c2 c3 : Value} (h : Blk w g c0 c1 c2 c3) : g < w.heap.size := lt_of_block h
theorem Blk.grown {w w' : World} {g : Nat} {c0 c1 c2 c3 : Value} (h : Blk w g c0 c1 c2 c3) {r : Option Nat} (hg : w.grownBy w' r) (hne : some g ≠ r) : Blk w' g c0 c1 c2 c3 := by
  unfold Blk; rw [hg.block g h.lt hne]; exact h
theorem Blk.new (w : World) (c0 c1 c2 c3 : Value) : Blk (w.alloc (.cells #[c0, c1, c2, c3] 96)) w.heap.size c0 c1 c2 c3 := heap_alloc_new w _
theorem Rd.other {w : World} {b : Nat} {s : ByteArray} {k : Nat} (h : Rd w b s k) {g : Nat} (hne : g ≠ b) (j : Nat) (v : Value) : Rd (w.setCell ⟨g, j, none⟩ v) b s k := by
  unfold Rd; rw [Below.heap_setCell _ _ _ _ (by intro e; exact hne e.symm)]; exact h
theorem Rd.alloc {w : World} {b : Nat} {s : ByteArray} {k : Nat} (h : Rd w b s k) (o : Obj) : Rd (w.alloc o) b s k :=
  h.below ((Below.refl _ _).alloc (Nat.le_refl _) _)
/-- What next does. -/
def Next (s : ByteArray) (k b : Nat) (w : World) (t : Tok) (ok : Bool) (er : Nat) (k2 : Nat) (e : Ending) (w' : World) : Prop :=
  e = .returned (.tuple #[t.val, .bool ok, .int .i64 er]) ∧ w.grownBy w' (some b) ∧ ∃ k', Rd w' b s k' ∧ (er = 0 → k' = k2)
end Tk
end Go.Proofs.YtmncppnpppdfkaaDoor
set_option linter.unusedVariables false
namespace Go.Proofs.YtmncppnpppdfkaaDoor
open Go.RowKit
end Go.Proofs.YtmncppnpppdfkaaDoor
set_option linter.unusedVariables false
namespace Go.Proofs.YtmncppnpppdfkaaDoor
open Go.RowKit
namespace Tk
theorem bytesRow_get (t : ByteArray) (cap i : Nat) (h : i < t.size) : (bytesRow t cap)[i]? = some (.int .u8 (byte t i)) := by
  unfold bytesRow
  rw [Array.getElem?_append_left (by simpa using h)]
  rw [Array.getElem?_map]
  have : t.data[i]? = some t.data[i] := Array.getElem?_eq_getElem (by simpa using h)
  rw [this, byte_eq h]
  rfl
theorem byte_extract {s : ByteArray} {K E i : Nat} (hE : E ≤ s.size) (h : K + i < E) : byte (s.extract K E) i = byte s (K + i) := by
  unfold byte
  rw [Lib.extract_data]
  rw [List.getD_eq_getElem?_getD, List.getD_eq_getElem?_getD, List.getElem?_take_of_lt (by omega), List.getElem?_drop]
theorem Blk.set2 {w : World} {g : Nat} {c0 c1 c2 c3 : Value} (h : Blk w g c0 c1 c2 c3) (v : Value) : Blk (w.setCell ⟨g, 2, none⟩ v) g c0 c1 v c3 := by
  have hlt := lt_of_block h
  unfold Blk at h
  have h' : w.heap[g] = .cells #[c0, c1, c2, c3] 96 (0, 0) := by simpa [Array.getElem?_eq_getElem hlt] using h
  show (w.heap.modify g _)[g]? = _
  rw [Array.getElem?_eq_getElem (by simpa using hlt), Array.getElem_modify_self, h']
  rfl
theorem Blk.set0 {w : World} {g : Nat} {c0 c1 c2 c3 : Value} (h : Blk w g c0 c1 c2 c3) (v : Value) : Blk (w.setCell ⟨g, 0, none⟩ v) g v c1 c2 c3 := by
  have hlt := lt_of_block h
  unfold Blk at h
  have h' : w.heap[g] = .cells #[c0, c1, c2, c3] 96 (0, 0) := by simpa [Array.getElem?_eq_getElem hlt] using h
  show (w.heap.modify g _)[g]? = _
  rw [Array.getElem?_eq_getElem (by simpa using hlt), Array.getElem_modify_self, h']
  rfl
theorem Blk.set1 {w : World} {g : Nat} {c0 c1 c2 c3 : Value} (h : Blk w g c0 c1 c2 c3) (v : Value) : Blk (w.setCell ⟨g, 1, none⟩ v) g c0 v c2 c3 := by
  have hlt := lt_of_block h
  unfold Blk at h
  have h' : w.heap[g] = .cells #[c0, c1, c2, c3] 96 (0, 0) := by simpa [Array.getElem?_eq_getElem hlt] using h
  show (w.heap.modify g _)[g]? = _
  rw [Array.getElem?_eq_getElem (by simpa using hlt), Array.getElem_modify_self, h']
  rfl
theorem Blk.other {w : World} {g : Nat} {c0 c1 c2 c3 : Value} (h : Blk w g c0 c1 c2 c3) {g' : Nat} (hne : g' ≠ g) (j : Nat) (v : Value) : Blk (w.setCell ⟨g', j, none⟩ v) g c0 c1 c2 c3 := by
  unfold Blk; rw [Below.heap_setCell _ _ _ _ (by intro e; exact hne e.symm)]; exact h
theorem Blk.old {w : World} {g : Nat} {c0 c1 c2 c3 : Value} (h : Blk w g c0 c1 c2 c3) (o : Obj) : Blk (w.alloc o) g c0 c1 c2 c3 := h.grown (World.grownBy_alloc w o none) (by simp)
theorem Blk.drew {w : World} {g : Nat} {c0 c1 c2 c3 : Value} (h : Blk w g c0 c1 c2 c3) : Blk w.drew g c0 c1 c2 c3 := h
theorem Rd.drew {w : World} {b : Nat} {s : ByteArray} {k : Nat} (h : Rd w b s k) : Rd w.drew b s k := h
/-- Bytes that lie in a block. -/
def Lies (w : World) (g : Nat) (t : ByteArray) : Prop := ∀ i, i < t.size → w.cell? ⟨g, i, none⟩ = some (.int .u8 (byte t i))
theorem Lies.new (w : World) (t : ByteArray) (cap : Nat) (e : TypeId) (fr : Nat × Nat) (g : Nat) (hg : g = w.heap.size) : Lies (w.alloc (.cells (bytesRow t cap) e fr)) g t := by
  subst hg
  intro i hi
  rw [cell_of_row _ w.heap.size i _ _ _ (heap_alloc_new w _)]
  exact bytesRow_get t cap i hi
theorem Lies.other {w : World} {g : Nat} {t : ByteArray} (h : Lies w g t) {g' : Nat} (hne : g' ≠ g) (j : Nat) (v : Value) : Lies (w.setCell ⟨g', j, none⟩ v) g t := by
  intro i hi
  have e : (w.setCell ⟨g', j, none⟩ v).heap[g]? = w.heap[g]? := Below.heap_setCell _ _ _ _ (by intro e; exact hne e.symm)
  rw [World.cell?_of_block (w := w) (a := ⟨g, i, none⟩) e]
  exact h i hi
end Tk
theorem grown_drew (w : World) (r : Option Nat) : w.grownBy w.drew r := ⟨rfl, rfl, rfl, Nat.le_refl _, fun _ _ _ => rfl⟩
set_option linter.unusedSimpArgs false
end Go.Proofs.YtmncppnpppdfkaaDoor
set_option linter.unusedVariables false
namespace Go.Proofs.YtmncppnpppdfkaaDoor
open Go.RowKit
namespace Tk
def signs : ByteArray := ⟨#[123, 125, 40, 41, 59, 58, 44, 46]⟩
theorem sign_ix : ∀ x, x < 256 → (isSign x = true ↔ 0 ≤ Lib.indexByte [123, 125, 40, 41, 59, 58, 44, 46] x.toUInt8) := by decide +kernel
theorem prefix_arrow {s : ByteArray} {k : Nat} (h : k < s.size) : Lib.hasPrefix (from_ s k) [45, 62] = decide (s[k].toNat = 45 ∧ k + 1 < s.size ∧ byte s (k + 1) = 62) := by
  rw [Bool.eq_iff_iff, prefix2 45 62 h, decide_eq_true_iff]
  constructor
  · rintro ⟨h1, h2, h3⟩; exact ⟨by rw [h1]; rfl, h2, by rw [byte_eq h2, h3]; rfl⟩
  · rintro ⟨h1, h2, h3⟩; exact ⟨UInt8.toNat_inj.1 h1, h2, UInt8.toNat_inj.1 (by rw [byte_eq h2] at h3; exact h3)⟩
end Tk
end Go.Proofs.YtmncppnpppdfkaaDoor
set_option linter.unusedVariables false
namespace Go.Proofs.YtmncppnpppdfkaaDoor
open Go.RowKit
end Go.Proofs.YtmncppnpppdfkaaDoor
set_option linter.unusedVariables false
namespace Go.Proofs.YtmncppnpppdfkaaDoor
open Go.RowKit
end Go.Proofs.YtmncppnpppdfkaaDoor
set_option linter.unusedVariables false
namespace Go.Proofs.YtmncppnpppdfkaaDoor
open Go.RowKit
namespace Tk
theorem oneAt_kinds (s : ByteArray) (k : Nat) : (oneAt 0 s k).2 = (oneAt 3 s k).2 ∧ (oneAt 0 s k).1.at_ = k ∧ ((oneAt 0 s k).2 = 0 → oneAt 0 s k = oneAt 3 s k) := by
  unfold oneAt
  split
  · exact ⟨rfl, rfl, fun _ => rfl⟩
  · split
    · dsimp only
      split
      · exact ⟨rfl, rfl, fun _ => rfl⟩
      · split
        · exact ⟨rfl, rfl, fun _ => rfl⟩
        · exact ⟨rfl, rfl, fun _ => rfl⟩
    · split
      · exact ⟨rfl, rfl, fun _ => rfl⟩
      · split
        · exact ⟨rfl, rfl, fun _ => rfl⟩
        · exact ⟨rfl, rfl, fun e => by cases e⟩
theorem scan3_err {s : ByteArray} {k f : Nat} {acc : List Tok} (h : k < s.size) (he : (oneAt 0 s k).2 ≠ 0) : scan 3 s (f + 1) k acc = ([], k, (oneAt 0 s k).2) := by
  have := (oneAt_kinds s k).1
  rw [scan, if_pos h, if_pos (by rw [← this]; exact he), this]
theorem scan3_ok {s : ByteArray} {k f : Nat} {acc : List Tok} (h : k < s.size) (he : (oneAt 0 s k).2 = 0) : scan 3 s (f + 1) k acc = scan 3 s f (gapEnd false s (k + (oneAt 0 s k).1.text.size)) (acc ++ [(oneAt 0 s k).1]) := by
  have := (oneAt_kinds s k).2.2 he
  rw [scan, if_pos h, if_neg (by rw [← this]; simpa using he), ← this]
theorem scan_end {s : ByteArray} {k f d : Nat} {acc : List Tok} (h : ¬ k < s.size) : scan d s f k acc = (acc, 0, 0) := by
  cases f with
  | zero => rfl
  | succ f => rw [scan, if_neg h]
theorem row_mono {w : World} {base base' : Nat} {e : TypeId} {size : Nat} {v : Value} {n : Nat} {xs : List Value} (h : w.ownsRow base e size v n xs) (hb : base' ≤ base) : w.ownsRow base' e size v n xs := by
  refine ⟨h.1, ?_⟩
  rcases h.2 with hn | ⟨g, cap, cur, rfl, hbs, rest⟩
  · exact .inl hn
  · exact .inr ⟨g, cap, cur, rfl, by omega, rest⟩
theorem row_apart {w : World} {b : Nat} {e : TypeId} {size : Nat} {v : Value} {n : Nat} {xs : List Value} (h : w.ownsRow (b + 1) e size v n xs) : some b ≠ v.ownBlock := by
  intro e
  have := h.lt _ e.symm
  omega
end Tk
end Go.Proofs.YtmncppnpppdfkaaDoor
