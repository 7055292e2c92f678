/- Chapter 6, plain: the index; which entries are gone over from a key on; which entry a key finds. -/
import Derived.Test.YtdjccepchleacaaTabMath2
set_option linter.unusedVariables false
namespace Go.Proofs.Ytdjccepchleacaa
namespace Tb
theorem bytes_lt : ∀ (x y : List UInt8), Op.bytesLess x y = true ↔ x < y
  | [], [] => by simp [Op.bytesLess]
  | _ :: _, [] => by simp [Op.bytesLess]
  | [], _ :: _ => by simp [Op.bytesLess]
  | a :: x, b :: y => by
    have ih := bytes_lt x y
    simp only [Op.bytesLess, List.cons_lt_cons_iff, Bool.or_eq_true, Bool.and_eq_true, decide_eq_true_eq, beq_iff_eq, ih]
theorem less_iff (a b : ByteArray) : less a b = true ↔ a.toList < b.toList := by
  unfold less
  exact bytes_lt _ _
theorem less_trans {a b c : ByteArray} (h1 : less a b = true) (h2 : less b c = true) : less a c = true := by
  rw [less_iff] at *
  exact List.lt_trans h1 h2
theorem less_irrefl (a : ByteArray) : less a a = false := by
  rcases h : less a a with _ | _
  · rfl
  · rw [less_iff] at h
    exact absurd h (List.lt_irrefl _)
theorem less_total {a b : ByteArray} (h1 : less a b = false) (h2 : (a.toList == b.toList) = false) : less b a = true := by
  rw [less_iff]
  have h1' : ¬ a.toList < b.toList := fun h => by rw [← less_iff, h1] at h; cases h
  have h2' : a.toList ≠ b.toList := by simpa using h2
  rcases List.le_total b.toList a.toList with h | h
  · rcases List.le_iff_lt_or_eq.1 h with h | h
    · exact h
    · exact absurd h.symm h2'
  · rcases List.le_iff_lt_or_eq.1 h with h | h
    · exact absurd h h1'
    · exact absurd h h2'
structure Place where
  first : ByteArray
  start : Nat
  stop : Nat
def pos (l : List Ent) (i : Nat) : Nat := 12 + (body (l.take i)).length
def idx (bs : List Place) (x : Ent) (p q : Nat) : List Place :=
  match bs.getLast? with
  | none => [⟨x.key, p, q⟩]
  | some b => if b.start + 1024 < q then bs ++ [⟨x.key, p, q⟩] else bs.dropLast ++ [⟨b.first, b.start, q⟩]
/-- The index behind so many entries. -/
structure Good (l : List Ent) (m : Nat) (bs : List Place) : Prop where
  some_ : 0 < m → bs ≠ []
  none_ : m = 0 → bs = []
  last : ∀ b, bs.getLast? = some b → b.stop = pos l m
  each : ∀ i b, bs[i]? = some b → ∃ j x, j < m ∧ (i = 0 → j = 0) ∧ b.start = pos l j ∧ l[j]? = some x ∧ x.key = b.first
theorem good_nil (l : List Ent) : Good l 0 [] := ⟨by simp, by simp, by simp, by simp⟩
theorem good_step {l : List Ent} {m : Nat} {bs : List Place} (h : Good l m bs) {x : Ent} (hx : l[m]? = some x) : Good l (m + 1) (idx bs x (pos l m) (pos l (m + 1))) := by
  unfold idx
  rcases hb : bs.getLast? with _ | b
  · have hn : bs = [] := by simpa using hb
    have hm : m = 0 := by
      rcases Nat.eq_zero_or_pos m with e | e
      · exact e
      · exact absurd hn (h.some_ e)
    subst hm
    refine ⟨by simp, by simp, by simp, fun i b hi => ?_⟩
    have hi0 : i = 0 := by
      rcases Nat.eq_zero_or_pos i with e | e
      · exact e
      · rw [List.getElem?_eq_none (by simp; omega)] at hi; cases hi
    subst hi0
    simp at hi
    subst hi
    exact ⟨0, x, by omega, fun _ => rfl, rfl, hx, rfl⟩
  · have hne : bs ≠ [] := by rintro rfl; simp at hb
    have hm : 0 < m := by
      rcases Nat.eq_zero_or_pos m with e | e
      · exact absurd (h.none_ e) hne
      · exact e
    have hlen : 0 < bs.length := List.length_pos_iff.2 hne
    simp only
    split
    · refine ⟨by simp, by simp, fun c hc => ?_, fun i c hi => ?_⟩
      · simp at hc; subst hc; rfl
      · rcases Nat.lt_or_ge i bs.length with hlt | hge
        · rw [List.getElem?_append_left hlt] at hi
          obtain ⟨j, y, a1, a2, a3, a4, a5⟩ := h.each i c hi
          exact ⟨j, y, by omega, a2, a3, a4, a5⟩
        · rw [List.getElem?_append_right hge] at hi
          have : i - bs.length = 0 := by
            rcases Nat.eq_zero_or_pos (i - bs.length) with e | e
            · exact e
            · rw [List.getElem?_eq_none (by simp; omega)] at hi; cases hi
          rw [this] at hi
          simp at hi
          subst hi
          exact ⟨m, x, by omega, fun hi0 => by omega, rfl, hx, rfl⟩
    · have hlast : bs[bs.length - 1]? = some b := by rw [← List.getLast?_eq_getElem?]; exact hb
      refine ⟨by simp, by simp, fun c hc => ?_, fun i c hi => ?_⟩
      · simp at hc; subst hc; rfl
      · rcases Nat.lt_or_ge i (bs.length - 1) with hlt | hge
        · rw [List.getElem?_append_left (by rw [List.length_dropLast]; exact hlt), List.getElem?_dropLast, if_pos (by omega)] at hi
          obtain ⟨j, y, a1, a2, a3, a4, a5⟩ := h.each i c hi
          exact ⟨j, y, by omega, a2, a3, a4, a5⟩
        · rw [List.getElem?_append_right (by rw [List.length_dropLast]; exact hge), List.length_dropLast] at hi
          have h0 : i - (bs.length - 1) = 0 := by
            rcases Nat.eq_zero_or_pos (i - (bs.length - 1)) with e | e
            · exact e
            · rw [List.getElem?_eq_none (by simp; omega)] at hi; cases hi
          rw [h0] at hi
          simp at hi
          subst hi
          obtain ⟨j, y, a1, a2, a3, a4, a5⟩ := h.each (bs.length - 1) b hlast
          exact ⟨j, y, by omega, fun hi0 => a2 (by omega), a3, a4, a5⟩
/-- The entries in order. -/
def Sorted : List Ent → Prop
  | [] => True
  | x :: r => (∀ y ∈ r, less x.key y.key = true) ∧ Sorted r
theorem badF_step {x y : Ent} {r : List Ent} (h : badF (some x) (y :: r) = false) : less x.key y.key = true ∧ badF (some y) r = false := by
  unfold badF at h
  simp only [Bool.or_eq_false_iff] at h
  obtain ⟨⟨_, h3⟩, h4⟩ := h
  exact ⟨less_total h3.1 h3.2, h4⟩
theorem sorted_of : ∀ {r : List Ent} {x : Ent}, badF (some x) r = false → (∀ y ∈ r, less x.key y.key = true) ∧ Sorted r
  | [], x, _ => ⟨fun y hy => (by cases hy), trivial⟩
  | y :: r, x, h => by
    obtain ⟨h1, h2⟩ := badF_step h
    obtain ⟨i1, i2⟩ := sorted_of h2
    refine ⟨fun z hz => ?_, i1, i2⟩
    rcases List.mem_cons.1 hz with rfl | hz
    · exact h1
    · exact less_trans h1 (i1 z hz)
theorem right_sorted {l : List Ent} (h : right l = 0) : Sorted l := by
  have h3 := (right_zero h).2.2
  cases l with
  | nil => trivial
  | cons x r =>
    unfold badF at h3
    simp only [Bool.or_eq_false_iff] at h3
    exact sorted_of h3.2
/-- What is gone over from a key on. -/
def from_ (l : List Ent) (key : ByteArray) : List Ent := l.filter fun x => !less x.key key
theorem from_drop {l : List Ent} (hs : Sorted l) {j : Nat} {x : Ent} (hj : l[j]? = some x) {key : ByteArray} (hx : j = 0 ∨ less key x.key = false) : from_ l key = from_ (l.drop j) key := by
  rcases hx with rfl | hx
  · rfl
  · induction l generalizing j with
    | nil => simp at hj
    | cons y r ih =>
      cases j with
      | zero => rfl
      | succ j =>
        have hj' : r[j]? = some x := by simpa using hj
        have hyx := hs.1 x (List.mem_of_getElem? hj')
        have hyk : less y.key key = true := by
          rcases h : less y.key key with _ | _
          · exfalso
            rcases he : (y.key.toList == key.toList) with _ | _
            · rw [less_trans (less_total h he) hyx] at hx; cases hx
            · have e : y.key.toList = key.toList := by simpa using he
              rw [less_iff] at hyx
              rw [e, ← less_iff, hx] at hyx
              cases hyx
          · rfl
        have := ih hs.2 hj'
        unfold from_ at *
        rw [List.filter_cons, hyk]
        simpa using this
/-- What a key finds. -/
def get (l : List Ent) (key : ByteArray) : Option Ent := (from_ l key).head?.filter fun x => x.key.toList == key.toList
end Tb
end Go.Proofs.Ytdjccepchleacaa
