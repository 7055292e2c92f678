/- An argument that is a slice of structs (fields of one cell each), opened to the cells that lie there. No condition. -/
import Derived.Test.YtdjccepchleacaaLie
import Derived.Deep.Slices
import Derived.Deep.Fields
import Derived.ChangeSame
set_option linter.unusedVariables false
namespace Go.Proofs.Ytdjccepchleacaa
open Go.RowKit Go.ChangeShapes Go.WideShapes Go.Deep
theorem list_of {α β : Type} (f : α → β) : ∀ (l : List β), (∀ x ∈ l, ∃ a, x = f a) → ∃ l' : List α, l = l'.map f
  | [], _ => ⟨[], rfl⟩
  | x :: l, h => by
    obtain ⟨a, rfl⟩ := h x (by simp)
    obtain ⟨l', rfl⟩ := list_of f l fun y hy => h y (by simp [hy])
    exact ⟨a :: l', rfl⟩
theorem add_add' (a : Addr) (i j : Nat) : (a.add i).add j = a.add (i + j) := by
  unfold Addr.add
  by_cases hi : i = 0 <;> by_cases hj : j = 0 <;> simp [hi, hj, Nat.add_assoc]
theorem list_choose {n : Nat} {β : Type} (p : Nat → β → Prop) (h : ∀ i, i < n → ∃ b, p i b) : ∃ l : List β, l.length = n ∧ ∀ i (hi : i < l.length), p i l[i] := by
  induction n with
  | zero => exact ⟨[], rfl, fun i hi => absurd hi (by simp)⟩
  | succ n ih =>
    obtain ⟨l, hl, hp⟩ := ih fun i hi => h i (by omega)
    obtain ⟨b, hb⟩ := h n (by omega)
    refine ⟨l ++ [b], by simp [hl], fun i hi => ?_⟩
    rw [List.getElem_append]
    split
    · exact hp i _
    · have e : i = n := by simp at hi; omega
      subst e
      simp [hl]
      exact hb
section
variable {H : Type} {enc : TypeId × Value → H} {P : Program} {w : World} {base : Nat} {spare : Nat → Bool} {held : Bool}
/-- A slice of structs. -/
theorem open_cells {t e : TypeId} {fs : Array Field} {fuel : Nat} {v : Value} {x : DataW H × List MemPlace} (ht : P.underlying t = some (.slice e)) (he : P.underlying e = some (.struct fs))
    (hone : oneCellFields P fs = true) (hC : P.cellsOf e = fs.size) (hpos : 0 < fs.size) (h : DataW.trod enc P w base spare held fuel t [v] = some x) :
    ∃ (A : Option Addr) (n c : Nat) (vs : List (List Value)), v = .slice A n c ∧ n ≤ c ∧ c ≤ maxLen ∧ (A = none → n = 0 ∧ c = 0) ∧ vs.length = n ∧ Lie w A vs.flatten ∧
      ∀ x ∈ vs, x.length = fs.size ∧ ∀ (j : Nat) (f : Field), fs[j]? = some f → ∃ (u : Value) (k : Nat) (y : DataW H × List MemPlace), x[j]? = some u ∧ DataW.trod enc P w base spare held k f.type [u] = some y := by
  rcases open_slice ht h with ⟨hcs, _⟩ | ⟨a, len, cap, m, k, D, Pl, hcs, hb, hl, hm, hmm, _, hi⟩
  · obtain rfl : v = .slice none 0 0 := by simpa using hcs
    exact ⟨none, 0, 0, [], rfl, Nat.le_refl _, Nat.zero_le _, fun _ => ⟨rfl, rfl⟩, rfl, Lie.nil _ _, fun x hx => by simp at hx⟩
  · obtain rfl : v = .slice (some a) len cap := by simpa using hcs
    have hlm : len ≤ m := by rw [hmm]; split <;> omega
    obtain ⟨vs, hvl, hv⟩ := list_choose (n := len) (fun i (x : List Value) => x.length = fs.size ∧ (∀ j u, x[j]? = some u → w.cell? (a.add (i * fs.size + j)) = some u) ∧ ∀ (j : Nat) (f : Field), fs[j]? = some f → ∃ (u : Value) (k : Nat) (y : DataW H × List MemPlace), x[j]? = some u ∧ DataW.trod enc P w base spare held k f.type [u] = some y) (by
      intro i hil
      obtain ⟨cs', hc, ht'⟩ := hi i (by omega)
      rw [hC] at hc
      obtain ⟨ys, n', hn', hy, hlen, hyl, hf⟩ := DataW.trod_struct he ht'
      obtain ⟨_, hcl, hat⟩ := World.cells?_some hc
      refine ⟨cs', hcl, fun j u hu => ?_, fun j f hj => ?_⟩
      · have hj : j < fs.size := by rw [← hcl]; exact (List.getElem?_eq_some_iff.1 hu).1
        rw [← add_add', hat j hj, hu]
      · obtain ⟨ho, hk⟩ := hone_of hone j f hj
        have hjl : j < fs.size := (Array.getElem?_eq_some_iff.1 hj).1
        have h1 := hf j f hj
        rw [ho, hk] at h1
        have hone' : (cs'.drop j).take 1 = [cs'[j]'(by omega)] := by
          rw [List.drop_eq_getElem_cons (by omega)]
          rfl
        rw [hone'] at h1
        have hys : ys[j]? = some (ys[j]'(by omega)) := List.getElem?_eq_getElem (by omega)
        exact ⟨cs'[j]'(by omega), _, _, List.getElem?_eq_getElem (by omega), h1.trans hys⟩)
    refine ⟨some a, len, cap, vs, rfl, hl, hm, fun e => by (cases e), hvl, fun h0 => ?_, fun x hx => ?_⟩
    · have hflat : ∀ x ∈ vs, x.length = fs.size := fun x hx => by
        obtain ⟨i, hi', rfl⟩ := List.getElem_of_mem hx
        exact (hv i hi').1
      have h0' : 0 < len := by
        rcases Nat.eq_zero_or_pos len with e | e
        · subst e
          obtain rfl : vs = [] := List.length_eq_zero_iff.1 hvl
          simp at h0
        · exact e
      have hspot : a.spot = none := by
        have h3 := (hv 0 (by omega)).2.1 0 _ (List.getElem?_eq_getElem (by rw [hflat _ (List.getElem_mem _)]; exact hpos))
        rw [Nat.zero_mul, Nat.zero_add] at h3
        have ha : a.add 0 = a := by simp [Addr.add]
        rw [ha] at h3
        unfold World.cell? at h3
        split at h3
        · split at h3
          · cases h3
          · rename_i hh; simpa using hh
        · cases h3
      obtain ⟨ab, ao, asp⟩ := a
      simp only at hspot
      subst hspot
      refine ⟨ab, ao, rfl, fun j u hu => ?_⟩
      have hadd : ∀ q, (⟨ab, ao, none⟩ : Addr).add q = ⟨ab, ao + q, none⟩ := fun q => by unfold Addr.add; split <;> simp_all
      rw [← hadd]
      have key : ∀ (vs : List (List Value)) (s : Nat), (∀ x ∈ vs, x.length = fs.size) → (∀ i (hi : i < vs.length), ∀ j u, vs[i][j]? = some u → w.cell? ((⟨ab, ao, none⟩ : Addr).add ((s + i) * fs.size + j)) = some u) →
          ∀ j u, vs.flatten[j]? = some u → w.cell? ((⟨ab, ao, none⟩ : Addr).add (s * fs.size + j)) = some u := by
        intro vs
        induction vs with
        | nil => intro s _ _ j u hu; simp at hu
        | cons x vs ih =>
          intro s hx hc j u hu
          rw [List.flatten_cons] at hu
          have hxl := hx x (by simp)
          rcases Nat.lt_or_ge j x.length with hj | hj
          · rw [List.getElem?_append_left hj] at hu
            exact hc 0 (by simp) j u hu
          · rw [List.getElem?_append_right hj] at hu
            have := ih (s + 1) (fun y hy => hx y (by simp [hy])) (fun i hi j u h => by
              have := hc (i + 1) (by simpa using hi) j u h
              rwa [show s + (i + 1) = s + 1 + i from by omega] at this) (j - x.length) u hu
            rwa [hxl, Nat.succ_mul, show s * fs.size + fs.size + (j - fs.size) = s * fs.size + j from by omega] at this
      have := key vs 0 hflat (fun i hi j u h => by rw [Nat.zero_add]; exact (hv i hi).2.1 j u h) j u hu
      rwa [Nat.zero_mul, Nat.zero_add] at this
    · obtain ⟨i, hi', rfl⟩ := List.getElem_of_mem hx
      exact ⟨(hv i hi').1, (hv i hi').2.2⟩
end
end Go.Proofs.Ytdjccepchleacaa
