/- Chapter 6, plain: what a key finds. -/
import Derived.Test.YtdjccepchleacaaTabMath3
set_option linter.unusedVariables false
namespace Go.Proofs.Ytdjccepchleacaa
namespace Tb
theorem text_eq' {a b : ByteArray} (h : a.toList = b.toList) : a = b := by
  refine ext_list ?_
  rw [← ByteArray.toList_eq, ← ByteArray.toList_eq, h]
theorem from_empty (l : List Ent) : from_ l ByteArray.empty = l := by
  unfold from_
  rw [List.filter_eq_self]
  intro x _
  have e : ByteArray.empty.toList = [] := by decide +kernel
  unfold less
  rw [e]
  cases x.key.toList <;> rfl
theorem get_of {l : List Ent} {key : ByteArray} {x : Ent} (h : get l key = some x) : x ∈ l ∧ x.key = key := by
  unfold get at h
  rw [Option.filter_eq_some_iff] at h
  obtain ⟨h1, h2⟩ := h
  have hm : x ∈ from_ l key := List.mem_of_mem_head? h1
  unfold from_ at hm
  exact ⟨(List.mem_filter.1 hm).1, text_eq' (by simpa using h2)⟩
theorem get_mem : ∀ {l : List Ent}, Sorted l → ∀ {x : Ent}, x ∈ l → get l x.key = some x
  | [], _, x, hx => by cases hx
  | y :: r, hs, x, hx => by
    rcases List.mem_cons.1 hx with rfl | hx
    · unfold get from_
      rw [List.filter_cons, less_irrefl]
      simp [Option.filter]
    · have hyx := hs.1 x hx
      have ih := get_mem hs.2 hx
      unfold get from_ at *
      rw [List.filter_cons, hyx]
      simpa using ih
theorem get_none {l : List Ent} {key : ByteArray} (h : ∀ x ∈ l, x.key ≠ key) : get l key = none := by
  rcases hg : get l key with _ | x
  · rfl
  · obtain ⟨h1, h2⟩ := get_of hg
    exact absurd h2 (h x h1)
theorem get_iff {l : List Ent} (hs : Sorted l) (key : ByteArray) : (get l key).isSome = l.any fun x => x.key.toList == key.toList := by
  rcases hg : get l key with _ | x
  · symm
    rw [Option.isSome_none, List.any_eq_false]
    intro x hx hk
    have e : x.key = key := text_eq' (by simpa using hk)
    have := get_mem hs hx
    rw [e, hg] at this
    cases this
  · obtain ⟨h1, h2⟩ := get_of hg
    symm
    rw [Option.isSome_some, List.any_eq_true]
    exact ⟨x, h1, by rw [h2]; simp⟩
theorem lt_more : ∀ (a : List UInt8) (c : UInt8), a < a ++ [c]
  | [], c => by simp
  | b :: a, c => by
    rw [List.cons_append, List.cons_lt_cons_iff]
    exact .inr ⟨rfl, lt_more a c⟩
/-- Nothing stands between a key and that key with a nought behind it. -/
theorem lt_nought : ∀ (a z : List UInt8), a < z → ¬ z < a ++ [0]
  | [], [], h => absurd h (by simp)
  | [], c :: z, _ => by
    intro h
    rw [List.nil_append, List.cons_lt_cons_iff] at h
    rcases h with h | ⟨_, h⟩
    · exact absurd h (by simp)
    · exact absurd h (by simp)
  | b :: a, [], h => absurd h (by simp)
  | b :: a, c :: z, h => by
    intro h2
    rw [List.cons_append, List.cons_lt_cons_iff] at h2
    rw [List.cons_lt_cons_iff] at h
    rcases h with h | ⟨rfl, h⟩
    · rcases h2 with h2 | ⟨rfl, _⟩
      · exact absurd (UInt8.lt_trans h h2) (UInt8.lt_irrefl _)
      · exact absurd h (UInt8.lt_irrefl _)
    · rcases h2 with h2 | ⟨_, h2⟩
      · exact absurd h2 (UInt8.lt_irrefl _)
      · exact lt_nought a z h h2
theorem sorted_get : ∀ {l : List Ent}, Sorted l → ∀ {i j : Nat} {x y : Ent}, i < j → l[i]? = some x → l[j]? = some y → less x.key y.key = true
  | [], _, i, j, x, y, _, h, _ => by simp at h
  | z :: r, hs, 0, j + 1, x, y, _, h, h2 => by
    have e : z = x := by simpa using h
    subst e
    exact hs.1 y (List.mem_of_getElem? (i := j) (by simpa using h2))
  | z :: r, hs, i + 1, j + 1, x, y, hij, h, h2 => sorted_get hs.2 (show i < j by omega) (by simpa using h) (by simpa using h2)
/-- A key with a nought behind it is found just as the next entry's. -/
theorem get_next {l : List Ent} (hs : Sorted l) {i : Nat} {x y : Ent} (hx : l[i]? = some x) {k0 : ByteArray} (hk : k0.toList = x.key.toList ++ [0]) (hy : get l k0 = some y) : ∃ z, l[i + 1]? = some z ∧ z.key = k0 := by
  obtain ⟨h1, h2⟩ := get_of hy
  obtain ⟨j, hj, hjy⟩ := List.mem_iff_getElem.1 h1
  have hjs : l[j]? = some y := by rw [List.getElem?_eq_getElem hj, hjy]
  have hxy : x.key.toList < y.key.toList := by
    rw [h2, hk]
    exact lt_more _ _
  have hij : i < j := by
    rcases Nat.lt_trichotomy i j with h | h | h
    · exact h
    · subst h
      rw [hx] at hjs
      cases hjs
      exact absurd hxy (List.lt_irrefl _)
    · have := sorted_get hs h hjs hx
      rw [less_iff] at this
      exact absurd (List.lt_trans this hxy) (List.lt_irrefl _)
  have hil : i + 1 < l.length := by omega
  refine ⟨l[i + 1], List.getElem?_eq_getElem hil, ?_⟩
  rcases Nat.lt_or_ge (i + 1) j with h | h
  · exfalso
    have a := sorted_get hs (show i < i + 1 by omega) hx (List.getElem?_eq_getElem hil)
    have b := sorted_get hs h (List.getElem?_eq_getElem hil) hjs
    rw [less_iff] at a b
    rw [h2, hk] at b
    exact lt_nought _ _ a b
  · have e : i + 1 = j := by omega
    subst e
    rw [hjy, h2]
end Tb
end Go.Proofs.Ytdjccepchleacaa
