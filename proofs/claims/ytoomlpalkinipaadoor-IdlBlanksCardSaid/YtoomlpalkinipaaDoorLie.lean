/- Cells that lie one behind the other, whatever the elements: read by element and field, kept where what lay there stays, had of a row of the call's own. No condition. -/
import Derived.Test.YtoomlpalkinipaaDoorBase
set_option linter.unusedVariables false
namespace Go.Proofs.YtoomlpalkinipaaDoor
open Go.RowKit
theorem flat_len {α : Type} {f : α → List Value} {m : Nat} (hf : ∀ x, (f x).length = m) (ls : List α) : (ls.flatMap f).length = ls.length * m := by
  induction ls with
  | nil => simp
  | cons t l ih => rw [List.flatMap_cons, List.length_append, ih, hf, List.length_cons, Nat.succ_mul, Nat.add_comm]
theorem flat_get {α : Type} {f : α → List Value} {m : Nat} (hf : ∀ x, (f x).length = m) : ∀ (ls : List α) (j : Nat) (hj : j < ls.length) (i : Nat), i < m → (ls.flatMap f)[j * m + i]? = (f ls[j])[i]?
  | [], j, hj, _, _ => by simp at hj
  | t :: ls, 0, _, i, hi => by
    rw [List.flatMap_cons, Nat.zero_mul, Nat.zero_add, List.getElem?_append_left (by rw [hf]; exact hi)]
    rfl
  | t :: ls, j + 1, hj, i, hi => by
    rw [List.flatMap_cons, List.getElem?_append_right (by rw [hf, Nat.succ_mul]; omega), hf, show (j + 1) * m + i - m = j * m + i from by rw [Nat.succ_mul]; omega]
    exact flat_get hf ls j (by simpa using hj) i hi
theorem flat_one {α : Type} {f : α → List Value} (h : ∀ x, ∀ u ∈ f x, u.oneCell' = true) (ls : List α) : ∀ u ∈ ls.flatMap f, u.oneCell' = true := by
  intro u hu
  obtain ⟨t, _, ht⟩ := List.mem_flatMap.1 hu
  exact h t u ht
/-- The cells lie there. -/
def Lie (w : World) (A : Option Addr) (vs : List Value) : Prop := 0 < vs.length → ∃ g off, A = some ⟨g, off, none⟩ ∧ ∀ j u, vs[j]? = some u → w.cell? ⟨g, off + j, none⟩ = some u
namespace Lie
section
variable {w w' : World} {A : Option Addr} {vs : List Value}
theorem nil (w : World) (A : Option Addr) : Lie w A [] := fun h => absurd h (by simp)
theorem keep (h : Lie w A vs) (hk : ∀ p : Addr, p.block < w.heap.size → w'.cell? p = w.cell? p) : Lie w' A vs := fun h0 => by
  obtain ⟨g, off, e, hc⟩ := h h0
  exact ⟨g, off, e, fun j u hu => (hk _ (World.block_lt_of_cell? w _ (hc j u hu))).trans (hc j u hu)⟩
theorem below (h : Lie w A vs) (hb : Below w.heap.size w w') : Lie w' A vs := h.keep fun _ hp => hb.cell hp
theorem drewN (h : Lie w A vs) (n : Nat) : Lie (w.drewN n) A vs := h
theorem alloc (h : Lie w A vs) (o : Obj) : Lie (w.alloc o) A vs := h.below ((Below.refl _ _).alloc (Nat.le_refl _) _)
theorem grown (h : Lie w A vs) {row : Option Nat} (hg : w.grownBy w' row) (hr : ∀ ad, A = some ad → some ad.block ≠ row) : Lie w' A vs := fun h0 => by
  obtain ⟨g, off, e, hc⟩ := h h0
  exact ⟨g, off, e, fun j u hu => (World.cell?_of_block (hg.block g (World.block_lt_of_cell? w _ (hc j u hu)) (hr _ e))).trans (hc j u hu)⟩
theorem src (h : Lie w A vs) : ∀ ad, A = some ad → ∀ j u, vs[j]? = some u → w.cell? (ad.add j) = some u := by
  intro ad e j u hu
  obtain ⟨g, off, e2, hc⟩ := h (by have := (List.getElem?_eq_some_iff.1 hu).1; omega)
  rw [e] at e2
  injection e2 with e2
  subst e2
  have hadd : (⟨g, off, none⟩ : Addr).add j = ⟨g, off + j, none⟩ := by unfold Addr.add; split <;> simp_all
  rw [hadd]
  exact hc j u hu
theorem of_own {base : Nat} {e : TypeId} {size n : Nat} {v : Value} (h : w.ownsRow base e size v n vs) : ∃ A c, v = .slice A n c ∧ Lie w A vs ∧ n ≤ 9223372036854775807 ∧ n ≤ c ∧ (A = none → n = 0 ∧ c = 0) ∧ (∀ ad, A = some ad → base ≤ ad.block ∧ ad.block < w.heap.size ∧ ad.off = 0) := by
  rcases h.2 with ⟨rfl, h0⟩ | ⟨g, cap, cur, rfl, hbs, hgg, hn, hc, _⟩
  · exact ⟨none, 0, by rw [h0], fun e => by have := h.1; simp [h0] at this; simp [this] at e, by omega, by omega, fun _ => ⟨h0, rfl⟩, fun _ e => by cases e⟩
  · refine ⟨some ⟨g, 0, none⟩, cap, rfl, fun _ => ⟨g, 0, rfl, fun j u hu => ?_⟩, by unfold maxLen at hc; omega, hn, fun e => by (cases e), fun ad e => by injection e with e; subst e; exact ⟨hbs, (Array.getElem?_eq_some_iff.1 hgg).1, rfl⟩⟩
    have := h.cells (g := g) rfl j u hu
    have hadd : (⟨g, 0, none⟩ : Addr).add j = ⟨g, 0 + j, none⟩ := by unfold Addr.add; split <;> simp_all
    rw [hadd] at this
    exact this
theorem get {α : Type} {f : α → List Value} {m : Nat} (hf : ∀ x, (f x).length = m) {ls : List α} (h : Lie w A (ls.flatMap f)) {j : Nat} (hj : j < ls.length) (hm : 0 < m) :
    ∃ g off, A = some ⟨g, off, none⟩ ∧ ∀ i u, (f ls[j])[i]? = some u → w.cell? ⟨g, off + j * m + i, none⟩ = some u := by
  obtain ⟨g, off, e, hc⟩ := h (by rw [flat_len hf]; exact Nat.mul_pos (by omega) hm)
  refine ⟨g, off, e, fun i u hu => ?_⟩
  have hi : i < m := by rw [← hf ls[j]]; exact (List.getElem?_eq_some_iff.1 hu).1
  rw [Nat.add_assoc]
  exact hc _ u (by rw [flat_get hf ls j hj i hi]; exact hu)
/-- A part of a slice. -/
theorem drop {k : Nat} (h : Lie w A vs) (hk : k < vs.length) : ∃ g off, A = some ⟨g, off, none⟩ ∧ Lie w (some ⟨g, off + k, none⟩) (vs.drop k) := by
  obtain ⟨g, off, e, hc⟩ := h (by omega)
  exact ⟨g, off, e, fun _ => ⟨g, off + k, rfl, fun j u hu => by rw [Nat.add_assoc]; exact hc _ u (by rw [← hu, List.getElem?_drop])⟩⟩
theorem take {k : Nat} (h : Lie w A vs) : Lie w A (vs.take k) := fun h0 => by
  obtain ⟨g, off, e, hc⟩ := h (by rw [List.length_take] at h0; omega)
  refine ⟨g, off, e, fun j u hu => hc j u ?_⟩
  rw [List.getElem?_take] at hu
  split at hu
  · exact hu
  · cases hu
end
end Lie
end Go.Proofs.YtoomlpalkinipaaDoor
