/- prints.Type and idl.Type, plain: what is read of a type's text is the type; what is read at all has a text. No condition but the ones the theorems state. -/
import Derived.Test.YtmncppnpppdfkaaDoorPrnT
set_option linter.unusedVariables false
set_option linter.unusedSimpArgs false
namespace Go.Proofs.YtmncppnpppdfkaaDoor
namespace Prn
open Go.Proofs.YtmncppnpppdfkaaDoor.Id Go.Proofs.YtmncppnpppdfkaaDoor.Chk
theorem type_of {s : ByteArray} {l : List Tk.Tok} {a : Nat} {x : List Srt} (ht : Tk.all s = (l, a, 0)) (hr : sorts (l, false) = (x, ([], false))) : Id.type s = (x, 0, 0) := whole_good ht hr
theorem type_ok {s : ByteArray} (h : (Id.type s).2.2 = 0) : ∃ l a x, Tk.all s = (l, a, 0) ∧ sorts (l, false) = (x, ([], false)) ∧ Id.type s = (x, 0, 0) := by
  unfold Id.type at h ⊢
  obtain ⟨⟨l, a, e⟩, ht⟩ : ∃ q, Tk.all s = q := ⟨_, rfl⟩
  by_cases he : e = 0
  · subst he
    obtain ⟨⟨x, q, b⟩, hr⟩ : ∃ w, sorts (l, false) = w := ⟨_, rfl⟩
    by_cases hb : b = true ∨ q ≠ []
    · rw [whole_bad ht hr hb] at h
      cases h
    · simp only [not_or, Bool.not_eq_true, ne_eq, Classical.not_not] at hb
      obtain ⟨rfl, rfl⟩ := hb
      exact ⟨l, a, x, ht, hr, whole_good ht hr⟩
  · unfold whole at h
    rw [ht] at h
    simp [he] at h
theorem type_text {t : List Srt} (h : okP t = true) (hl : t.length ≤ 12) : Id.type (jn (t.map sortW)) = (t, 0, 0) := by
  have ho : Owns (t.map sortT) := fun u hu => by
    obtain ⟨x, hx, rfl⟩ := List.mem_map.1 hu
    exact own_sorts h x hx
  have hsz : (jn (t.map sortW)).size ≤ 65536 := by
    rw [jn_size]
    have := jl_le (sorts_size h)
    rw [List.length_map] at this
    omega
  have ha := all_text ho (by rw [tx_sorts]; exact hsz)
  rw [tx_sorts] at ha
  have hr := sorts_ok h []
  rw [List.append_nil] at hr
  exact type_of ha (read_placed sorts_z (at_sorts t) hr)
theorem name_good {l : List Tk.Tok} (h : (name (l, false)).2.2 = false) : Tk.isName (name (l, false)).1 = true := by
  cases l with
  | nil => unfold name one at h; cases h
  | cons t r =>
    unfold name one at h ⊢
    simp only at h ⊢
    split at h
    · next hc => rw [if_pos hc]; exact hc.2
    · cases h
theorem endW_fin {w : ByteArray} (h : endW w ≠ 0) : finP ⟨endW w, ⟨#[]⟩⟩ = true := by
  unfold endW at h ⊢
  by_cases e1 : w.toList = [110, 111, 110, 101]
  · rw [if_pos e1]; decide +kernel
  · rw [if_neg e1] at h ⊢
    by_cases e2 : w.toList = [98, 111, 111, 108]
    · rw [if_pos e2]; decide +kernel
    · rw [if_neg e2] at h ⊢
      by_cases e3 : w.toList = [105, 110, 116]
      · rw [if_pos e3]; decide +kernel
      · rw [if_neg e3] at h ⊢
        by_cases e4 : w.toList = [116, 101, 120, 116]
        · rw [if_pos e4]; decide +kernel
        · rw [if_neg e4] at h
          exact absurd rfl h
theorem okP_cons {x : Srt} {l : List Srt} (h : mid x = true) (k : okP l = true) : okP (x :: l) = true := by
  cases l with
  | nil => cases k
  | cons y l =>
    show (mid x && okP (y :: l)) = true
    rw [h, k]
    rfl
theorem sortsF_okP : ∀ (f : Nat) (l : List Tk.Tok) (acc : List Srt), l.length < f → (sortsF f (l, false) acc).2.2 = false → ∃ m, (sortsF f (l, false) acc).1 = acc ++ m ∧ okP m = true
  | 0, l, acc, hl, _ => absurd hl (by simp)
  | f + 1, l, acc, hl, h => by
    rw [sortsF] at h ⊢
    simp only [Bool.false_eq_true, if_false] at h ⊢
    split at h
    · next h1 =>
      rw [if_pos h1]
      obtain ⟨t, r, e⟩ := is_cons h1
      have e : l = t :: r := (Prod.mk.inj e).1
      subst e
      simp only [List.tail_cons] at h ⊢
      obtain ⟨m, h2, h3⟩ := sortsF_okP f r _ (by simpa using hl) h
      exact ⟨⟨5, ⟨#[]⟩⟩ :: m, by rw [h2]; simp, okP_cons (by decide +kernel) h3⟩
    · next h1 =>
      rw [if_neg h1]
      split at h
      · next h2 =>
        rw [if_pos h2]
        obtain ⟨t, r, e⟩ := is_cons h2
        have e : l = t :: r := (Prod.mk.inj e).1
        subst e
        simp only [List.tail_cons] at h ⊢
        obtain ⟨m, h3, h4⟩ := sortsF_okP f r _ (by simpa using hl) h
        exact ⟨⟨6, ⟨#[]⟩⟩ :: m, by rw [h3]; simp, okP_cons (by decide +kernel) h4⟩
      · next h2 =>
        rw [if_neg h2]
        split at h
        · next h3 =>
          rw [if_pos h3]
          refine ⟨_, rfl, ?_⟩
          show finP _ = true
          refine endW_fin ?_
          cases l with
          | nil => cases h3
          | cons t r =>
            unfold ends at h3
            simp only [Bool.and_eq_true, Bool.not_eq_true', beq_eq_false_iff_ne] at h3
            exact h3.2
        · next h3 =>
          rw [if_neg h3]
          refine ⟨_, rfl, ?_⟩
          show finP ⟨7, _⟩ = true
          unfold finP
          simp only [show ¬ (7 = 1 ∨ 7 = 2 ∨ 7 = 3 ∨ 7 = 4) by decide, if_false, if_true]
          exact name_good h
theorem type_okP {s : ByteArray} (h : (Id.type s).2.2 = 0) : okP (Id.type s).1 = true := by
  obtain ⟨l, a, x, ht, hr, hx⟩ := type_ok h
  rw [hx]
  unfold sorts at hr
  obtain ⟨m, h1, h2⟩ := sortsF_okP (l.length + 1) l [] (by omega) (by rw [hr])
  rw [hr] at h1
  simp only [List.nil_append] at h1
  rw [h1]
  exact h2
/-- What is read is printed, and read again. -/
theorem type_again {s : ByteArray} (h : (Id.type s).2.2 = 0) (hl : (Id.type s).1.length ≤ 12) : Id.type (typeP (Id.type s).1) = ((Id.type s).1, 0, 0) := by
  have h1 := type_okP h
  unfold typeP
  rw [if_pos ⟨hl, h1⟩]
  exact type_text h1 hl
/-- What is printed is read as it was. -/
theorem typeP_read {t : List Srt} (h : (typeP t).toList.isEmpty = false) : Id.type (typeP t) = (t, 0, 0) := by
  by_cases hc : t.length ≤ 12 ∧ okP t = true
  · rw [show typeP t = jn (t.map sortW) from if_pos hc]
    exact type_text hc.2 hc.1
  · rw [show typeP t = ⟨#[]⟩ from if_neg hc] at h
    exact absurd h (by decide +kernel)
theorem typeP_size (t : List Srt) : (typeP t).size ≤ 65536 := by
  unfold typeP
  split
  · next hc =>
    rw [jn_size]
    have := jl_le (sorts_size hc.2)
    rw [List.length_map] at this
    omega
  · exact Nat.zero_le _
end Prn
end Go.Proofs.YtmncppnpppdfkaaDoor
