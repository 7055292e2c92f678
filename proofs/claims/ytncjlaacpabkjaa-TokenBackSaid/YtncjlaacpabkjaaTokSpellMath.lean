/- Chapter 11, plain: the text that has some tokens. -/
import Derived.Test.YtncjlaacpabkjaaTokScanMath
set_option linter.unusedVariables false
namespace Go.Proofs.Ytncjlaacpabkjaa
open Go.RowKit
namespace Tk
/-- A token of an argument: any numbers. -/
structure ITok where
  kind : Nat
  text : ByteArray
  num : Int
  at_ : Int
/-- A token among them. -/
def Tok.int (t : Tok) : ITok := ⟨t.kind, t.text, t.num, t.at_⟩
/-- A slice of tokens, as it lies. -/
def ReadI (w : World) (A : Option Addr) (ls : List ITok) : Prop := 0 < ls.length → ∃ g off, A = some ⟨g, off, none⟩ ∧ ∀ j (hj : j < ls.length),
  w.cell? ⟨g, off + j * 4, none⟩ = some (.int .u8 ls[j].kind) ∧ w.cell? ⟨g, off + j * 4 + 1, none⟩ = some (.string ls[j].text) ∧ w.cell? ⟨g, off + j * 4 + 2, none⟩ = some (.int .i64 ls[j].num) ∧ w.cell? ⟨g, off + j * 4 + 3, none⟩ = some (.int .i64 ls[j].at_)
theorem ReadT.int {w : World} {A : Option Addr} {ls : List Tok} (h : ReadT w A ls) : ReadI w A (ls.map Tok.int) := by
  intro h0
  obtain ⟨g, off, e, hc⟩ := h (by simpa using h0)
  refine ⟨g, off, e, fun j hj => ?_⟩
  have := hc j (by simpa using hj)
  simpa [Tok.int] using this
theorem ReadI.below {w w' : World} {A : Option Addr} {ls : List ITok} (h : ReadI w A ls) (hb : Below w.heap.size w w') : ReadI w' A ls := by
  intro h0
  obtain ⟨g, off, rfl, hc⟩ := h h0
  refine ⟨g, off, rfl, fun j hj => ?_⟩
  have key : ∀ o v, w.cell? ⟨g, o, none⟩ = some v → w'.cell? ⟨g, o, none⟩ = some v := fun o v hv => by
    rw [hb.cell (p := ⟨g, o, none⟩) (World.block_lt_of_cell? w _ hv)]; exact hv
  obtain ⟨h1, h2, h3, h4⟩ := hc j hj
  exact ⟨key _ _ h1, key _ _ h2, key _ _ h3, key _ _ h4⟩
/-- Is a token just what its text says? -/
def chk (t : ITok) : Bool := decide (t.text.size ≠ 0) && decide ((oneAt 3 t.text 0).2 = 0) && decide ((oneAt 3 t.text 0).1.kind = t.kind) && ((oneAt 3 t.text 0).1.text.toList == t.text.toList) && decide (((oneAt 3 t.text 0).1.num : Int) = t.num)
/-- How many bytes the texts have, with one more each. -/
def total (l : List ITok) : Nat := (l.map fun t => t.text.size + 1).sum
/-- The texts, blanks between them. -/
def joined : List ITok → List UInt8
  | [] => []
  | t :: l => t.text.data.toList ++ l.flatMap fun u => 32 :: u.text.data.toList
/-- The text that has some tokens, or the fault. -/
def spell (l : List ITok) : ByteArray × Nat := if l.all chk then (if 65537 < total l then (empty, 3) else (⟨(joined l).toArray⟩, 0)) else (empty, 1)
theorem total_snoc (l : List ITok) (t : ITok) : total (l ++ [t]) = total l + (t.text.size + 1) := by simp [total]
theorem total_take {l : List ITok} {k : Nat} (h : k < l.length) : total (l.take (k + 1)) = total (l.take k) + (l[k].text.size + 1) := by
  rw [List.take_succ_eq_append_getElem h, total_snoc]
theorem all_take {l : List ITok} {k : Nat} (h : k < l.length) : (l.take (k + 1)).all chk = ((l.take k).all chk && chk l[k]) := by
  rw [List.take_succ_eq_append_getElem h, List.all_append]; simp
theorem total_le {l : List ITok} {B : Nat} (h : ∀ t ∈ l, t.text.size ≤ B) (k : Nat) : total (l.take k) ≤ k * (B + 1) := by
  induction k with
  | zero => simp [total]
  | succ k ih =>
    by_cases hk : k < l.length
    · rw [total_take hk, Nat.succ_mul]
      have := h l[k] (List.getElem_mem hk)
      omega
    · rw [List.take_of_length_le (by omega)] at ih ⊢
      rw [Nat.succ_mul]
      omega
theorem spell_bad {l : List ITok} {k : Nat} (h : k < l.length) (hc : chk l[k] = false) : spell l = (empty, 1) := by
  unfold spell
  rw [if_neg]
  intro e
  have := List.all_eq_true.1 e l[k] (List.getElem_mem h)
  rw [hc] at this
  cases this
theorem joined_take {l : List ITok} {k : Nat} (h : k < l.length) : joined (l.take (k + 1)) = joined (l.take k) ++ (if 0 < k then [32] else []) ++ l[k].text.data.toList := by
  cases l with
  | nil => simp at h
  | cons t r =>
    cases k with
    | zero => simp [joined]
    | succ k =>
      have hr : k < r.length := by simpa using h
      show joined (t :: r.take (k + 1)) = joined (t :: r.take k) ++ (if 0 < k + 1 then [32] else []) ++ r[k].text.data.toList
      rw [List.take_succ_eq_append_getElem hr, if_pos (by omega)]
      simp only [joined, List.flatMap_append, List.flatMap_cons, List.flatMap_nil, List.append_nil, List.append_assoc, List.cons_append, List.nil_append]
theorem joined_len : ∀ l : List ITok, (joined l).length ≤ total l
  | [] => by simp [joined, total]
  | t :: l => by
    have : ∀ r : List ITok, (r.flatMap fun u => 32 :: u.text.data.toList).length = total r := by
      intro r
      induction r with
      | nil => rfl
      | cons u r ih => simp only [List.flatMap_cons, List.length_append, ih, total, List.map_cons, List.sum_cons, List.length_cons]; simp
    unfold joined
    rw [List.length_append, this]
    simp [total]
theorem total_append (a b : List ITok) : total (a ++ b) = total a + total b := by simp [total]
theorem total_mono (l : List ITok) (k : Nat) : total (l.take k) ≤ total l := by
  have h := total_append (l.take k) (l.drop k)
  rw [List.take_append_drop] at h
  omega
theorem joined_le (l : List ITok) (k : Nat) : (joined (l.take k)).length ≤ total l := Nat.le_trans (joined_len _) (total_mono l k)
end Tk
end Go.Proofs.Ytncjlaacpabkjaa
