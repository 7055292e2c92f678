/- Chapter 6, plain: a text being opened. -/
import Derived.Test.YtdjccepchleacaaTabMath4
set_option linter.unusedVariables false
namespace Go.Proofs.Ytdjccepchleacaa
namespace Tb
theorem readE_some {s : ByteArray} {p e q : Nat} {x : Ent} (he : e ≤ s.size) (h : readE s p e = some (x, q)) : q = p + (text x).length ∧ q ≤ e ∧ x.key.size ≤ 128 ∧ x.value.size ≤ 16384 ∧ (x.gone = true → x.value.size = 0) := by
  unfold readE at h
  split at h
  · cases h
  · dsimp only at h
    rename_i h8
    generalize Sm.val4 (s.data.toList.drop p) = k at *
    generalize Sm.val4 (s.data.toList.drop (p + 4)) = v at *
    generalize hv : (if v = 2147483648 then 0 else v) = v' at *
    by_cases hb : 128 < k ∨ 16384 < v' ∨ e < p + 8 + k + v'
    · rw [if_pos hb] at h; cases h
    · rw [if_neg hb] at h
      injection h with h
      injection h with h1 h2
      subst h1
      have z1 : (s.extract (p + 8) (p + 8 + k)).size = k := by simp; omega
      have z2 : (s.extract (p + 8 + k) (p + 8 + k + v')).size = v' := by simp; omega
      rw [text_len]
      simp only [z1, z2]
      refine ⟨by omega, by omega, by omega, by omega, fun hg => ?_⟩
      have : v = 2147483648 := by simpa using hg
      rw [if_pos this] at hv
      exact hv.symm
theorem pos_snoc (pre : List Ent) (x : Ent) {j : Nat} (h : j ≤ pre.length) : pos (pre ++ [x]) j = pos pre j := by
  unfold pos
  rw [List.take_append_of_le_length h]
theorem pos_all (pre : List Ent) (x : Ent) : pos (pre ++ [x]) (pre.length + 1) = pos pre pre.length + (text x).length := by
  unfold pos
  rw [List.take_of_length_le (by simp), List.take_of_length_le (Nat.le_refl _)]
  simp only [body, List.flatMap_append, List.flatMap_cons, List.flatMap_nil, List.append_nil, List.length_append]
  omega
structure Opening (s : ByteArray) (n E : Nat) (pre : List Ent) (p : Nat) : Prop where
  at_ : p = pos pre pre.length
  le : p ≤ E
  reads : ∀ j x, pre[j]? = some x → readE s (pos pre j) E = some (x, pos pre (j + 1))
  parse : parseF s E n (s.size + 1) 12 0 = (parseF s E n (s.size + 1 - pre.length) p pre.length).map (pre ++ ·)
theorem opening_start (s : ByteArray) (n E : Nat) (h : 12 ≤ E) : Opening s n E [] 12 :=
  ⟨rfl, h, fun j x hx => by simp at hx, by simp⟩
theorem Opening.len {s : ByteArray} {n E p : Nat} {pre : List Ent} (h : Opening s n E pre p) : 12 + 8 * pre.length ≤ p := by
  rw [h.at_]
  unfold pos
  rw [List.take_of_length_le (Nat.le_refl _), body_len]
  omega
theorem Opening.stop {s : ByteArray} {n E p : Nat} {pre : List Ent} (h : Opening s n E pre p) (hE : E ≤ s.size) (hp : p < E) (hs : readE s p E = none ∨ n ≤ pre.length) : parseF s E n (s.size + 1) 12 0 = none := by
  have hl := h.len
  rw [h.parse]
  obtain ⟨f, hf⟩ : ∃ f, s.size + 1 - pre.length = f + 1 := ⟨s.size - pre.length, by omega⟩
  rw [hf]
  unfold parseF
  rw [if_pos hp]
  rcases hs with hs | hs
  · rw [hs]; rfl
  · rcases hr : readE s p E with _ | ⟨x, q⟩
    · rfl
    · simp only
      rw [if_pos hs]
      rfl
theorem Opening.step {s : ByteArray} {n E p q : Nat} {pre : List Ent} {x : Ent} (h : Opening s n E pre p) (hE : E ≤ s.size) (hp : p < E) (hr : readE s p E = some (x, q)) (hn : pre.length < n) : Opening s n E (pre ++ [x]) q := by
  have hl := h.len
  obtain ⟨e1, e2, _⟩ := readE_some hE hr
  have hpa : pos (pre ++ [x]) (pre ++ [x]).length = q := by rw [List.length_append]; show pos _ (pre.length + 1) = q; rw [pos_all, ← h.at_, e1]
  refine ⟨hpa.symm, e2, fun j y hy => ?_, ?_⟩
  · rcases Nat.lt_or_ge j pre.length with hj | hj
    · rw [List.getElem?_append_left hj] at hy
      rw [pos_snoc _ _ (by omega), pos_snoc _ _ (by omega)]
      exact h.reads j y hy
    · rw [List.getElem?_append_right hj] at hy
      have : j - pre.length = 0 := by
        rcases Nat.eq_zero_or_pos (j - pre.length) with e | e
        · exact e
        · rw [List.getElem?_eq_none (by simp; omega)] at hy; cases hy
      have hje : j = pre.length := by omega
      subst hje
      rw [Nat.sub_self] at hy
      simp at hy
      subst hy
      rw [pos_snoc _ _ (Nat.le_refl _), ← h.at_, hr]
      rw [List.length_append] at hpa
      rw [show pos (pre ++ [x]) (pre.length + 1) = q from hpa]
  · rw [h.parse]
    obtain ⟨f, hf⟩ : ∃ f, s.size + 1 - pre.length = f + 1 := ⟨s.size - pre.length, by omega⟩
    rw [hf]
    conv => lhs; unfold parseF
    rw [if_pos hp, hr]
    simp only
    rw [if_neg (by omega), List.length_append]
    rw [show s.size + 1 - (pre.length + [x].length) = f from by simp; omega]
    simp only [List.length_cons, List.length_nil, Nat.zero_add, Option.map_map]
    congr 1
    funext l
    simp
theorem Opening.done {s : ByteArray} {n E p : Nat} {pre : List Ent} (h : Opening s n E pre p) (hp : ¬ p < E) : parseF s E n (s.size + 1) 12 0 = some pre := by
  rw [h.parse]
  rcases hf : s.size + 1 - pre.length with _ | f
  · simp [parseF, if_neg hp]
  · unfold parseF
    rw [if_neg hp]
    simp
theorem good_more {pre : List Ent} {bs : List Place} (h : Good pre pre.length bs) (x : Ent) : Good (pre ++ [x]) pre.length bs := by
  refine ⟨h.some_, h.none_, fun b hb => ?_, fun i b hi => ?_⟩
  · rw [pos_snoc _ _ (Nat.le_refl _)]; exact h.last b hb
  · obtain ⟨j, y, h1, h2, h3, h4, h5⟩ := h.each i b hi
    exact ⟨j, y, h1, h2, by rw [pos_snoc _ _ (by omega)]; exact h3, by rw [List.getElem?_append_left h1]; exact h4, h5⟩
theorem good_next {pre : List Ent} {bs : List Place} (h : Good pre pre.length bs) (x : Ent) : Good (pre ++ [x]) (pre ++ [x]).length (idx bs x (pos pre pre.length) (pos (pre ++ [x]) (pre.length + 1))) := by
  have := good_step (good_more h x) (x := x) (by rw [List.getElem?_append_right (Nat.le_refl _)]; simp)
  rw [pos_snoc _ _ (Nat.le_refl _)] at this
  rw [List.length_append]
  exact this
theorem good_len {l : List Ent} : ∀ {bs : List Place} {m : Nat} (x : Ent) (p q : Nat), bs.length ≤ m → (idx bs x p q).length ≤ m + 1 := by
  intro bs m x p q h
  unfold idx
  split
  · simp
  · split
    · simp; omega
    · simp; omega
theorem good_start {l : List Ent} {m : Nat} {bs : List Place} (h : Good l m bs) (hm : m ≤ l.length) : ∀ y ∈ bs, y.start ≤ pos l l.length := by
  intro y hy
  obtain ⟨i, hi, rfl⟩ := List.getElem_of_mem hy
  obtain ⟨j, x, h1, _, h3, _, _⟩ := h.each i _ (List.getElem?_eq_getElem hi)
  rw [h3]
  unfold pos
  rw [List.take_of_length_le (Nat.le_refl _)]
  have := body_len (l.take j)
  have h2 : (body (l.take j)).length ≤ (body l).length := by
    conv => rhs; rw [← List.take_append_drop j l]
    unfold body
    rw [List.flatMap_append, List.length_append]
    omega
  omega
end Tb
end Go.Proofs.Ytdjccepchleacaa
