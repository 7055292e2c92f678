/- The reader of chapter 11: what its block says; skip. -/
import Derived.Test.YtoomlpalkinipaaDoorTokAppend
import Derived.Test.YtoomlpalkinipaaDoorTokWalkA
import Derived.Test.YtoomlpalkinipaaDoorShelf
import Derived.Deep.QuietTactic
import Derived.BigQuiet
import Derived.Lib.Bytealg
import Derived.Lib.IndexBytes
set_option linter.unusedVariables false
namespace Go.Proofs.YtoomlpalkinipaaDoor
open Go.RowKit
/-- Worlds that grow and write to one block. -/
theorem grown_refl (w : World) (r : Option Nat) : w.grownBy w r := ⟨rfl, rfl, rfl, Nat.le_refl _, fun _ _ _ => rfl⟩
theorem grown_trans {a b c : World} {r : Option Nat} (h : a.grownBy b r) (k : b.grownBy c r) : a.grownBy c r :=
  ⟨k.os.trans h.os, k.tape.trans h.tape, k.output.trans h.output, Nat.le_trans h.size k.size, fun i hi hn => (k.block i (Nat.lt_of_lt_of_le hi h.size) hn).trans (h.block i hi hn)⟩
theorem grown_drewN (w : World) (n : Nat) (r : Option Nat) : w.grownBy (w.drewN n) r := ⟨rfl, rfl, rfl, Nat.le_refl _, fun _ _ _ => rfl⟩
theorem grown_set (w : World) (b j : Nat) (v : Value) : w.grownBy (w.setCell ⟨b, j, none⟩ v) (some b) :=
  ⟨rfl, rfl, rfl, by simp, fun k _ hne => Below.heap_setCell _ _ _ _ (by intro e; exact hne (by rw [e]))⟩
theorem grown_of_below {w w' : World} (h : Below w.heap.size w w') (r : Option Nat) : w.grownBy w' r := ⟨h.os, h.tape, h.output, h.size, fun k hk _ => h.block k hk⟩
theorem below_of_grown {w w' : World} {b B : Nat} (h : w.grownBy w' (some b)) (hB : B ≤ b) (hb : b ≤ w.heap.size ∨ B ≤ w.heap.size) : Below B w w' :=
  ⟨h.os, h.tape, h.output, h.size, fun k hk => h.block k (by have := h.size; omega) (by intro e; cases e; omega)⟩
/-- A quiet call behind draws. -/
theorem calls_q {P : Program} {f : FuncId} {args : Array Value} {w : World} {q n : Nat} {v : Value} (h : ∀ w0 : World, Calls P f args w0 fun e w' => e = .returned v ∧ w' = w0) :
    Calls P f args (w.drewN (q + n)) fun e w'' => e = .returned v ∧ ∃ m, w'' = w.drewN (q + m) :=
  (h _).mono fun _ _ ⟨he, hm⟩ => ⟨he, n, hm⟩
theorem calls_val {P : Program} {f : FuncId} {args : Array Value} {v v' : Value} (h : ∀ w0 : World, Calls P f args w0 fun e w' => e = .returned v ∧ w' = w0) (e : v = v') (w0 : World) :
    Calls P f args w0 fun e w' => e = .returned v' ∧ w' = w0 := by subst e; exact h w0
namespace Tk
/-- The reader's block. -/
def Rd (w : World) (b : Nat) (s : ByteArray) (k : Nat) : Prop := w.heap[b]? = some (.cells #[.string s, .int .i64 k] 69 (0, 0))
theorem Rd.c0 {w : World} {b : Nat} {s : ByteArray} {k : Nat} (h : Rd w b s k) : w.cell? ⟨b, 0, none⟩ = some (.string s) := by rw [cell_of_row w b 0 _ _ _ h]; rfl
theorem Rd.c1 {w : World} {b : Nat} {s : ByteArray} {k : Nat} (h : Rd w b s k) : w.cell? ⟨b, 1, none⟩ = some (.int .i64 k) := by rw [cell_of_row w b 1 _ _ _ h]; rfl
theorem Rd.f1 {w : World} {b : Nat} {s : ByteArray} {k : Nat} (h : Rd w b s k) : w.frozen? ⟨b, 1, none⟩ = false := frozen_of_row w b 1 _ _ h
theorem Rd.drewN {w : World} {b : Nat} {s : ByteArray} {k : Nat} (h : Rd w b s k) (n : Nat) : Rd (w.drewN n) b s k := h
theorem Rd.lt {w : World} {b : Nat} {s : ByteArray} {k : Nat} (h : Rd w b s k) : b < w.heap.size := lt_of_block h
theorem Rd.set {w : World} {b : Nat} {s : ByteArray} {k : Nat} (h : Rd w b s k) (j : Nat) : Rd (w.setCell ⟨b, 1, none⟩ (.int .i64 j)) b s j := by
  have hlt := lt_of_block h
  unfold Rd at h
  have h' : w.heap[b] = .cells #[.string s, .int .i64 k] 69 (0, 0) := by simpa [Array.getElem?_eq_getElem hlt] using h
  show (w.heap.modify b _)[b]? = _
  rw [Array.getElem?_eq_getElem (by simpa using hlt), Array.getElem_modify_self, h']
  rfl
theorem Rd.grown {w w' : World} {b : Nat} {s : ByteArray} {k : Nat} {r : Option Nat} (h : Rd w b s k) (hg : w.grownBy w' r) (hne : some b ≠ r) : Rd w' b s k := by
  unfold Rd; rw [hg.block b h.lt hne]; exact h
theorem Rd.below {w w' : World} {b : Nat} {s : ByteArray} {k : Nat} (h : Rd w b s k) (hg : Below w.heap.size w w') : Rd w' b s k := by
  unfold Rd; rw [hg.block b h.lt]; exact h
theorem gap_true (c : UInt8) (r : List UInt8) : gap true (c :: r) = if c.toNat = 10 then 1 + gap false r else 1 + gap true r := by rw [gap]
theorem ixb_cons (b c : UInt8) (l : List UInt8) : Lib.indexByte (b :: l) c = if b == c then 0 else if Lib.indexByte l c == -1 then -1 else Lib.indexByte l c + 1 := rfl
theorem gap_blank10 (r : List UInt8) : gap false (10 :: r) = 1 + gap false r := by rw [gap]; rfl
theorem gap_idx (l : List UInt8) : gap true l = if Lib.indexByte l 10 = -1 then l.length else (Lib.indexByte l 10).toNat + gap false (l.drop (Lib.indexByte l 10).toNat) := by
  induction l with
  | nil => rfl
  | cons c r ih =>
    have hge := Lib.indexByte_ge r 10
    rw [gap_true, ixb_cons]
    by_cases hc : c = 10
    · subst hc
      have e : ((10 : UInt8) == 10) = true := rfl
      simp only [e, if_true]
      rw [if_pos (show (10 : UInt8).toNat = 10 from rfl), if_neg (by omega)]
      simp [gap_blank10]
    · have hn : c.toNat ≠ 10 := fun e => hc (by apply UInt8.toNat_inj.1; rw [e]; rfl)
      rw [if_neg hn, ih]
      have hb : (c == 10) = false := by simpa using hc
      simp only [hb, Bool.false_eq_true, if_false]
      by_cases hm : Lib.indexByte r 10 = -1
      · simp [hm]; omega
      · rw [if_neg hm]
        have hb2 : (Lib.indexByte r 10 == -1) = false := by simpa using hm
        simp only [hb2, Bool.false_eq_true, if_false]
        rw [if_neg (by omega), show (Lib.indexByte r 10 + 1).toNat = (Lib.indexByte r 10).toNat + 1 from by omega, List.drop_succ_cons]
        omega
theorem indexByte_lt (l : List UInt8) (c : UInt8) (h : l ≠ []) : Lib.indexByte l c < l.length := by
  induction l with
  | nil => exact absurd rfl h
  | cons b r ih =>
    have hge := Lib.indexByte_ge r c
    unfold Lib.indexByte
    simp only [List.length_cons]
    split
    · omega
    · split
      · omega
      · rename_i h1 h2
        by_cases hr : r = []
        · subst hr; exact absurd rfl h2
        · have := ih hr; omega
theorem extract_list (s : ByteArray) (k : Nat) : (s.extract k s.size).data.toList = from_ s k := by
  unfold from_; rw [Lib.extract_to_end]
theorem gapEnd_idx {s : ByteArray} {k : Nat} (h : k < s.size) {j : Nat} (e : Lib.indexByte (from_ s k) 10 = (j : Int)) : gapEnd true s k = gapEnd false s (k + j) ∧ k + j < s.size := by
  have hl := indexByte_lt (from_ s k) 10 (by rw [from_cons h]; simp)
  have hlen : (from_ s k).length = s.size - k := by unfold from_; simp
  have hg := gap_idx (from_ s k)
  rw [e] at hg hl
  rw [if_neg (by omega)] at hg
  refine ⟨?_, by omega⟩
  unfold gapEnd
  rw [hg]
  simp only [Int.toNat_natCast]
  unfold from_
  rw [List.drop_drop]
  omega
theorem idx_pos {s : ByteArray} {k : Nat} (h : k < s.size) (hne : s[k] ≠ 10) {j : Nat} (e : Lib.indexByte (from_ s k) 10 = (j : Int)) : 1 ≤ j := by
  rw [from_cons h, ixb_cons] at e
  have hb : (s[k] == 10) = false := by simpa using hne
  have hge := Lib.indexByte_ge (from_ s (k + 1)) 10
  rw [if_neg (by simp [hb])] at e
  by_cases hm : Lib.indexByte (from_ s (k + 1)) 10 = -1
  · rw [if_pos (by simp [hm])] at e; omega
  · rw [if_neg (by simpa using hm)] at e; omega
theorem gapEnd_none {s : ByteArray} {k : Nat} (h : k ≤ s.size) (e : Lib.indexByte (from_ s k) 10 = -1) : gapEnd true s k = s.size := by
  have hlen : (from_ s k).length = s.size - k := by unfold from_; simp
  have hg := gap_idx (from_ s k)
  rw [if_pos e] at hg
  unfold gapEnd
  omega
theorem prefix2 {s : ByteArray} {k : Nat} (a b : UInt8) (h : k < s.size) : Lib.hasPrefix (from_ s k) [a, b] = true ↔ (s[k] = a ∧ ∃ h' : k + 1 < s.size, s[k + 1] = b) := by
  unfold Lib.hasPrefix
  rw [from_cons h]
  by_cases h' : k + 1 < s.size
  · rw [from_cons h']
    simp only [List.isPrefixOf, Bool.and_true, Bool.and_eq_true, beq_iff_eq]
    constructor
    · rintro ⟨h1, h2⟩; exact ⟨h1.symm, h', h2.symm⟩
    · rintro ⟨h1, _, h2⟩; exact ⟨h1.symm, h2.symm⟩
  · rw [from_end (by omega)]
    simp only [List.isPrefixOf, Bool.and_false]
    constructor
    · intro e; cases e
    · rintro ⟨_, h2, _⟩; exact absurd h2 h'
end Tk
end Go.Proofs.YtoomlpalkinipaaDoor
