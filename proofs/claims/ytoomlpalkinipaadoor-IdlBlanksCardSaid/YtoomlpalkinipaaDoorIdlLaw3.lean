/- Chapter 12, plain: IdlBlanks. What is left is an end of what there was; the parser over tokens put apart anew. -/
import Derived.Test.YtoomlpalkinipaaDoorIdlLaw2
import Derived.Test.YtoomlpalkinipaaDoorIdlBk
set_option linter.unusedVariables false
set_option linter.unusedSimpArgs false
namespace Go.Proofs.YtoomlpalkinipaaDoor
namespace Id
theorem one_sf (s : St) (k : Nat) (p : Tk.Tok → Bool) : (one s k p).2.1 <:+ s.1 := by
  obtain ⟨l, bad⟩ := s
  unfold one
  split
  · rename_i h; injection h with h1 h2; subst h1
    split
    · exact List.suffix_cons _ _
    · exact List.suffix_refl _
  · rename_i h; injection h with h1 h2; subst h1; exact List.suffix_refl _
theorem name_sf (s : St) : (name s).2.1 <:+ s.1 := one_sf s _ _
theorem want_sf (s : St) (x : ByteArray) : (want s x).1 <:+ s.1 := by
  unfold want; split
  · exact List.tail_suffix _
  · exact List.suffix_refl _
theorem take_sf (s : St) (x : ByteArray) : (take s x).2.1 <:+ s.1 := by
  unfold take; split
  · exact List.tail_suffix _
  · exact List.suffix_refl _
theorem sortsF_sf : ∀ (f : Nat) (s : St) (acc : List Srt), (sortsF f s acc).2.1 <:+ s.1
  | 0, s, acc => List.suffix_refl _
  | f + 1, s, acc => by
    unfold sortsF
    split
    · exact List.suffix_refl _
    · split
      · exact List.IsSuffix.trans (sortsF_sf f _ _) (List.tail_suffix _)
      · split
        · exact List.IsSuffix.trans (sortsF_sf f _ _) (List.tail_suffix _)
        · split
          · exact List.tail_suffix _
          · exact name_sf s
theorem sorts_sf (s : St) : (sorts s).2.1 <:+ s.1 := sortsF_sf _ _ _
theorem field_sf (s : St) : (field s).2.1 <:+ s.1 := List.IsSuffix.trans (want_sf _ _) (List.IsSuffix.trans (sorts_sf _) (List.IsSuffix.trans (want_sf _ _) (name_sf _)))
theorem arg_sf (s : St) : (arg s).2.1 <:+ s.1 := List.IsSuffix.trans (want_sf _ _) (List.IsSuffix.trans (name_sf _) (want_sf _ _))
theorem num_sf (s : St) : (num s).2.1 <:+ s.1 := one_sf s _ _
theorem step_sf (s : St) : (step s).2.1 <:+ s.1 := List.IsSuffix.trans (want_sf _ _) (List.IsSuffix.trans (num_sf _) (List.IsSuffix.trans (want_sf _ _) (List.IsSuffix.trans (name_sf _) (List.IsSuffix.trans (want_sf _ _) (List.IsSuffix.trans (name_sf _) (want_sf _ _))))))
theorem words_sf (ws : List ByteArray) (s : St) : (words ws s).2.1 <:+ s.1 := one_sf s _ _
theorem method_sf (s : St) : (method s).2.1 <:+ s.1 := by
  unfold method
  dsimp only
  have h1 := words_sf [wGive, wTake, wNote] s
  generalize words [wGive, wTake, wNote] s = a at *
  have h2 := (name_sf a.2).trans h1
  generalize name a.2 = b at *
  have h3 := (arg_sf b.2).trans h2
  generalize arg b.2 = c at *
  have h4 := (want_sf c.2 sArrow).trans h3
  generalize want c.2 sArrow = s4 at *
  have h5 := (words_sf [wInt, wNone] s4).trans h4
  generalize words [wInt, wNone] s4 = d at *
  have h6 := (take_sf d.2 wUndo).trans h5
  generalize take d.2 wUndo = t at *
  split
  · exact (want_sf _ _).trans ((name_sf _).trans h6)
  · exact (want_sf _ _).trans h6
theorem withinF_sf {α : Type} {read : St → α × St} (hr : ∀ s, (read s).2.1 <:+ s.1) : ∀ (f : Nat) (s : St) (acc : List α), (withinF read f s acc).2.1 <:+ s.1
  | 0, s, acc => List.suffix_refl _
  | f + 1, s, acc => by
    unfold withinF
    split
    · exact List.suffix_refl _
    · split
      · exact List.tail_suffix _
      · exact List.IsSuffix.trans (withinF_sf hr f _ _) (hr s)
theorem within_sf {α : Type} {read : St → α × St} (hr : ∀ s, (read s).2.1 <:+ s.1) (s : St) : (within read s).2.1 <:+ s.1 := List.IsSuffix.trans (withinF_sf hr _ _ _) (want_sf _ _)
theorem record_sf (c : Bool) (s : St) : (record c s).2.1 <:+ s.1 := List.IsSuffix.trans (within_sf field_sf _) (name_sf s)
theorem service_sf (s : St) : (service s).2.1 <:+ s.1 := List.IsSuffix.trans (within_sf method_sf _) (name_sf s)
theorem saga_sf (s : St) : (saga s).2.1 <:+ s.1 := List.IsSuffix.trans (within_sf step_sf _) (List.IsSuffix.trans (arg_sf _) (name_sf s))
theorem round_sf (s : St) : (round s).2.1 <:+ s.1 := by
  unfold round
  dsimp only
  split
  · exact List.IsSuffix.trans (record_sf false (words decls s).2) (words_sf decls s)
  · split
    · exact List.IsSuffix.trans (record_sf true (words decls s).2) (words_sf decls s)
    · split
      · exact (service_sf _).trans (words_sf _ _)
      · split
        · exact (saga_sf _).trans (words_sf _ _)
        · exact words_sf _ _
theorem schemaF_sf : ∀ (f : Nat) (s : St) (x : Sch), (schemaF f s x).2.1 <:+ s.1
  | 0, s, x => List.suffix_refl _
  | f + 1, s, x => by
    rw [schemaF_round]
    split
    · exact List.suffix_refl _
    · exact (schemaF_sf f _ _).trans (round_sf s)
theorem schema_sf (s : St) : (schema s).2.1 <:+ s.1 := by
  unfold schema
  exact (schemaF_sf _ _ _).trans ((want_sf _ _).trans ((name_sf _).trans (want_sf _ _)))
theorem spaced_z : ∀ (l : List Tk.Tok) (k : Nat), (Tk.spaced l k).map z = l.map z
  | [], _ => rfl
  | t :: l, k => by simp [Tk.spaced, spaced_z l, z]
theorem suffix_drop {α : Type} {r l : List α} (h : r <:+ l) : r = l.drop (l.length - r.length) := by
  obtain ⟨p, rfl⟩ := h
  simp
def fin (n : Nat) (x : Sch) (b : Bool) : List Tk.Tok → Sch × Nat × Nat
  | [] => if b then (Sch.zero, n, 120) else (x, 0, 0)
  | t :: _ => (Sch.zero, t.at_, 120)
theorem parse_fin {s : ByteArray} {l r : List Tk.Tok} {a0 : Nat} {x : Sch} {b : Bool} (hs : Tk.all s = (l, a0, 0)) (hr : schema (l, false) = (x, r, b)) : parse s = fin s.size x b r := by
  unfold parse whole
  rw [hs]
  simp only [ne_eq, not_true_eq_false, if_false]
  rw [hr]
  cases r <;> rfl
/-- A text whose tokens are put apart anew. -/
theorem blanks {s c : ByteArray} {l : List Tk.Tok} {a0 : Nat} (hs : Tk.all s = (l, a0, 0)) (hc : c.data.toList = Tk.apartL l) (hsz : c.size ≤ 65536) :
    (parse c).1 = (parse s).1 ∧ (parse c).2.2 = (parse s).2.2 ∧ ((parse s).2.2 = 0 → (parse s).2.1 = 0 ∧ (parse c).2.1 = 0) ∧ Tk.all c = (Tk.spaced l 0, 0, 0) ∧
      ((parse s).2.2 ≠ 0 → Tk.number l (parse s).2.1 = Tk.number (Tk.spaced l 0) (parse c).2.1) := by
  have hap : Tk.Apart s 0 l := by have := Tk.all_apart (s := s) (by rw [hs]); rwa [hs] at this
  have hcs := Tk.all_spaced hap.owns hc hsz
  have hcl : c.size = (Tk.apartL l).length := by rw [← hc]; simp
  have hz := schema_z (l, false)
  have hz2 := schema_z (Tk.spaced l 0, false)
  have e : zs (Tk.spaced l 0, false) = zs (l, false) := by unfold zs; simp [spaced_z]
  rw [e, hz] at hz2
  have h1 := schema_sf (l, false)
  have h2 := schema_sf (Tk.spaced l 0, false)
  obtain ⟨⟨x, r, b⟩, hr⟩ : ∃ q, schema (l, false) = q := ⟨_, rfl⟩
  obtain ⟨⟨x', r', b'⟩, hr'⟩ : ∃ q, schema (Tk.spaced l 0, false) = q := ⟨_, rfl⟩
  rw [hr, hr'] at hz2
  rw [hr] at h1
  rw [hr'] at h2
  simp only [zs, Prod.mk.injEq] at hz2 h1 h2
  obtain ⟨rfl, hm, rfl⟩ := hz2
  have hlen : r'.length = r.length := by have := congrArg List.length hm; simpa using this.symm
  have hd1 := suffix_drop h1
  have hd2 := suffix_drop h2
  rw [Tk.spaced_len, hlen] at hd2
  have hps := parse_fin hs hr
  have hpc := parse_fin hcs hr'
  have hlo : ∀ {m : List Tk.Tok} {e : Nat}, Tk.Apart s e m → ∀ t ∈ m, t.at_ < s.size := by
    intro m
    induction m with
    | nil => intro e _ t ht; simp at ht
    | cons u m ih =>
      intro e ha t ht
      rcases List.mem_cons.1 ht with rfl | ht
      · have := ha.1.2.1; have := ha.1.2.2.1; omega
      · exact ih ha.2 t ht
  cases r with
  | nil =>
    have : r' = [] := List.length_eq_zero_iff.1 (by simpa using hlen)
    subst this
    rw [hps, hpc]
    unfold fin
    cases b
    · simp
      exact hcs
    · simp
      refine ⟨hcs, ?_⟩
      rw [Tk.number_none (fun t ht => by have := hlo hap t ht; omega), Tk.number_none (fun t ht => ?_), Tk.spaced_len]
      obtain ⟨i, hi, rfl⟩ := List.getElem_of_mem ht
      have := Tk.spaced_lt l 0 i hi
      omega
  | cons t q =>
    cases r' with
    | nil => simp at hlen
    | cons t' q' =>
      rw [hps, hpc]
      unfold fin
      have hle : (t :: q).length ≤ l.length := h1.length_le
      have hi : l.length - (t :: q).length < l.length := by simp only [List.length_cons] at hle ⊢; omega
      have hi' : l.length - (t :: q).length < (Tk.spaced l 0).length := by rw [Tk.spaced_len]; exact hi
      have et : t = l[l.length - (t :: q).length] := by
        have := hd1
        rw [List.drop_eq_getElem_cons hi] at this
        exact (List.cons.inj this).1
      have et' : t' = (Tk.spaced l 0)[l.length - (t :: q).length] := by
        have := hd2
        rw [List.drop_eq_getElem_cons hi'] at this
        exact (List.cons.inj this).1
      refine ⟨rfl, rfl, by simp, hcs, fun _ => ?_⟩
      generalize l.length - (t :: q).length = i at *
      rw [et, et', Tk.number_apart i hi hap, Tk.number_spaced l 0 i hi']
end Id
end Go.Proofs.YtoomlpalkinipaaDoor
