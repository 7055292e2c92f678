/- check, plain: what a right schema has. No condition. -/
import Derived.Test.YtmncppnpppdfkaaDoorKC4
set_option linter.unusedVariables false
set_option linter.unusedSimpArgs false
namespace Go.Proofs.YtmncppnpppdfkaaDoor
namespace Chk
open Go.Proofs.YtmncppnpppdfkaaDoor.Id
theorem run_some (e : Nat) (p : ByteArray × Nat) : ∀ l : List Test, run e l (some p) = some p
  | [] => rfl
  | t :: l => by
    have : at_ t.1 t.2 e (some p) = some p := by unfold at_; cases t.1 <;> rfl
    show run e l (at_ t.1 t.2 e (some p)) = some p
    rw [this]
    exact run_some e p l
theorem run_none {e : Nat} : ∀ {l : List Test}, run e l none = none ↔ ∀ t ∈ l, t.1 = true
  | [] => by simp [run]
  | t :: l => by
    show run e l (at_ t.1 t.2 e none) = none ↔ _
    cases h : t.1
    · have : at_ false t.2 e none = some (t.2, e) := rfl
      rw [this, run_some]
      simp [h]
    · have : at_ true t.2 e none = none := rfl
      rw [this, run_none]
      simp [h]
theorem run_code {e : Nat} : ∀ {l : List Test} {p : ByteArray × Nat}, run e l none = some p → p.2 = e
  | [], p, h => by cases h
  | t :: l, p, h => by
    replace h : run e l (at_ t.1 t.2 e none) = some p := h
    cases ht : t.1
    · have : at_ t.1 t.2 e none = some (t.2, e) := by rw [ht]; rfl
      rw [this, run_some] at h
      injection h with h
      rw [← h]
    · have : at_ t.1 t.2 e none = none := by rw [ht]; rfl
      rw [this] at h
      exact run_code h
def Right (x : Sch) : Prop := ∀ f ∈ flts x, f = none
theorem first_ok : ∀ {l : List Flt}, (∀ f ∈ l, ∀ p, f = some p → p.2 ≠ 0) → (first l).2 = 0 → ∀ f ∈ l, f = none
  | [], _, _ => by simp
  | none :: l, h, h0 => by
    intro f hf
    rcases List.mem_cons.1 hf with rfl | hf
    · rfl
    · exact first_ok (l := l) (fun g hg => h g (by simp [hg])) h0 f hf
  | some p :: l, h, h0 => absurd h0 (h _ (by simp) p rfl)
theorem first_none : ∀ {l : List Flt}, (∀ f ∈ l, f = none) → first l = (⟨#[]⟩, 0)
  | [], _ => rfl
  | none :: l, h => first_none (l := l) (fun f hf => h f (by simp [hf]))
  | some p :: l, h => by have := h (some p) (by simp); cases this
theorem check_ok {x : Sch} (h : (check x).2 = 0) : Right x := by
  refine first_ok (fun f hf p hp => ?_) h
  unfold flts at hf
  simp only [List.mem_cons, List.not_mem_nil, or_false] at hf
  rcases hf with h | h | h | h | h | h | h | h | h | h <;> (rw [h] at hp; rw [run_code hp]; decide)
theorem check_right {x : Sch} (h : Right x) : check x = (⟨#[]⟩, 0) := first_none h
theorem right_iff {x : Sch} : Right x ↔ (∀ t ∈ namesT x, t.1 = true) ∧ (∀ t ∈ countsT x, t.1 = true) ∧ (∀ t ∈ doublesT x, t.1 = true) ∧ (∀ t ∈ typesT x, t.1 = true) ∧ (∀ t ∈ bottomsT x, t.1 = true) ∧ (∀ t ∈ effectsT x, t.1 = true) ∧ (∀ t ∈ undosT x, t.1 = true) ∧ (∀ t ∈ sagasT x, t.1 = true) ∧ (∀ t ∈ stepsT x, t.1 = true) ∧ (∀ t ∈ waysT x, t.1 = true) := by
  unfold Right flts
  simp only [List.mem_cons, List.not_mem_nil, or_false, forall_eq_or_imp, forall_eq, run_none]
/-- Names that all differ, and from those seen. -/
def Dist : List ByteArray → List ByteArray → Prop
  | _, [] => True
  | seen, a :: l => seenB seen a = false ∧ Dist (seen ++ [a]) l
theorem dist_app : ∀ {seen A B : List ByteArray}, Dist seen (A ++ B) ↔ Dist seen A ∧ Dist (seen ++ A) B
  | seen, [], B => by simp [Dist]
  | seen, a :: A, B => by
    show (_ ∧ Dist (seen ++ [a]) (A ++ B)) ↔ _
    rw [dist_app]
    show _ ↔ (_ ∧ Dist (seen ++ [a]) A) ∧ Dist (seen ++ (a :: A)) B
    rw [List.append_assoc, List.singleton_append, and_assoc]
theorem dblG_dist : ∀ {gs : List Sag} {seen : List ByteArray}, (∀ t ∈ dblG gs seen, t.1 = true) ↔ Dist seen (gs.map (·.name))
  | [], seen => by simp [dblG, Dist]
  | g :: gs, seen => by
    unfold dblG
    simp only [List.mem_cons, forall_eq_or_imp, List.map_cons, Dist, Bool.not_eq_true']
    rw [dblG_dist]
theorem dblV_dist : ∀ {vs : List Svc} {gs : List Sag} {seen : List ByteArray}, (∀ t ∈ dblV vs gs seen, t.1 = true) ↔ Dist seen (vs.map (·.name) ++ gs.map (·.name)) ∧ ∀ v ∈ vs, ∀ t ∈ dblP v.name (v.methods.map (·.name)) [], t.1 = true
  | [], gs, seen => by
    unfold dblV
    rw [dblG_dist]
    simp
  | v :: vs, gs, seen => by
    unfold dblV
    simp only [List.mem_cons, forall_eq_or_imp, List.map_cons, List.mem_append, Bool.not_eq_true']
    have h1 : (∀ t : Test, t ∈ dblP v.name (v.methods.map (·.name)) [] ∨ t ∈ dblV vs gs (seen ++ [v.name]) → t.1 = true) ↔ (∀ t ∈ dblP v.name (v.methods.map (·.name)) [], t.1 = true) ∧ ∀ t ∈ dblV vs gs (seen ++ [v.name]), t.1 = true := ⟨fun h => ⟨fun t ht => h t (.inl ht), fun t ht => h t (.inr ht)⟩, fun h t ht => ht.elim (h.1 t) (h.2 t)⟩
    rw [h1, dblV_dist]
    show _ ↔ (_ ∧ Dist _ _) ∧ _
    exact ⟨fun ⟨a, b, c, d⟩ => ⟨⟨a, c⟩, b, d⟩, fun ⟨⟨a, c⟩, b, d⟩ => ⟨a, b, c, d⟩⟩
theorem dblR_dist : ∀ {rs : List Rec} {vs : List Svc} {gs : List Sag} {seen : List ByteArray}, (∀ t ∈ dblR rs vs gs seen, t.1 = true) ↔ Dist seen (rs.map (·.name) ++ (vs.map (·.name) ++ gs.map (·.name))) ∧ (∀ r ∈ rs, ∀ t ∈ dblP r.name (r.fields.map (·.name)) [], t.1 = true) ∧ ∀ v ∈ vs, ∀ t ∈ dblP v.name (v.methods.map (·.name)) [], t.1 = true
  | [], vs, gs, seen => by
    unfold dblR
    rw [dblV_dist]
    simp
  | r :: rs, vs, gs, seen => by
    unfold dblR
    simp only [List.mem_cons, forall_eq_or_imp, List.map_cons, List.mem_append, Bool.not_eq_true']
    have h1 : (∀ t : Test, t ∈ dblP r.name (r.fields.map (·.name)) [] ∨ t ∈ dblR rs vs gs (seen ++ [r.name]) → t.1 = true) ↔ (∀ t ∈ dblP r.name (r.fields.map (·.name)) [], t.1 = true) ∧ ∀ t ∈ dblR rs vs gs (seen ++ [r.name]), t.1 = true := ⟨fun h => ⟨fun t ht => h t (.inl ht), fun t ht => h t (.inr ht)⟩, fun h t ht => ht.elim (h.1 t) (h.2 t)⟩
    rw [h1, dblR_dist]
    show _ ↔ (_ ∧ Dist _ _) ∧ _
    exact ⟨fun ⟨a, b, c, d, e⟩ => ⟨⟨a, c⟩, ⟨b, d⟩, e⟩, fun ⟨⟨a, c⟩, ⟨b, d⟩, e⟩ => ⟨a, b, c, d, e⟩⟩
theorem dist_not {a : ByteArray} : ∀ {seen l : List ByteArray}, Dist seen l → a ∈ l → seenB seen a = false
  | seen, b :: l, h, ha => by
    rcases List.mem_cons.1 ha with rfl | ha
    · exact h.1
    · have := dist_not h.2 ha
      rw [seen_more] at this
      simp at this
      exact this.1
/-- Of names that differ the one looked for is found. -/
theorem find_self {α : Type} (nm : α → ByteArray) : ∀ {l : List α} {seen : List ByteArray}, Dist seen (l.map nm) → ∀ {r : α}, r ∈ l → l.find? (fun y => (nm y).toList == (nm r).toList) = some r
  | a :: l, seen, h, r, hr => by
    rw [List.find?_cons]
    rcases List.mem_cons.1 hr with rfl | hr
    · simp
    · have h1 := dist_not h.2 (List.mem_map.2 ⟨r, hr, rfl⟩)
      rw [seen_more] at h1
      have h2 : ((nm a).toList == (nm r).toList) = false := by
        cases h3 : ((nm a).toList == (nm r).toList)
        · rfl
        · rw [h3] at h1; simp at h1
      rw [h2]
      exact find_self nm h.2 hr
theorem right_find {x : Sch} (h : Right x) {r : Rec} (hr : r ∈ x.records) : find x r.name = some r := by
  have h1 := (dblR_dist.1 (right_iff.1 h).2.2.1).1
  exact find_self (·.name) (dist_app.1 h1).1 hr
theorem right_saga {x : Sch} (h : Right x) {g : Sag} (hg : g ∈ x.sagas) : sagaOf x g.name = some g := by
  have h1 := (dblR_dist.1 (right_iff.1 h).2.2.1).1
  exact find_self (·.name) (dist_app.1 (dist_app.1 h1).2).2 hg
theorem meth_mem {x : Sch} {a b : ByteArray} {m : Mth} (h : meth x a b = some m) : ∃ v ∈ x.services, v.name.toList = a.toList ∧ m ∈ v.methods := by
  unfold meth at h
  split at h
  · cases h
  · rename_i v hv
    exact ⟨v, List.mem_of_find?_eq_some hv, by simpa using List.find?_some hv, List.mem_of_find?_eq_some h⟩
theorem meth_congr {x : Sch} {a a' b : ByteArray} (h : a.toList = a'.toList) : meth x a b = meth x a' b := by
  unfold meth
  rw [h]
/-- Each step's method is there, takes what the saga takes; if it is not the last one, it can be undone. -/
theorem right_step {x : Sch} (h : Right x) {g : Sag} (hg : g ∈ x.sagas) {k : Nat} (hk : k < g.steps.length) : ∃ m, meth x g.steps[k].service g.steps[k].method = some m ∧ m.arg.toList = g.arg.toList ∧
    (k + 1 < g.steps.length → ∃ u, meth x g.steps[k].service m.undo = some u ∧ u.arg.toList = m.arg.toList ∧ u.undo.toList.isEmpty = true ∧ u.effect.toList = (contrary m.effect).toList ∧ (contrary m.effect).toList.isEmpty = false) := by
  obtain ⟨_, _, _, _, _, he, hu, _, hs, hw⟩ := right_iff.1 h
  have hz : (g.steps[k], k) ∈ g.steps.zipIdx := by
    rw [List.mem_iff_getElem]
    exact ⟨k, by rw [List.length_zipIdx]; exact hk, by rw [List.getElem_zipIdx, Nat.zero_add]⟩
  have h1 := hs (stepOk x g.arg g.steps[k], nth g.name k) (List.mem_flatMap.2 ⟨g, hg, List.mem_flatMap.2 ⟨_, hz, by simp [stepsP]⟩⟩)
  have h2 := hw (wayOk x g.steps.length (g.steps[k], k), nth g.name k) (List.mem_flatMap.2 ⟨g, hg, List.mem_flatMap.2 ⟨_, hz, by simp [waysP]⟩⟩)
  simp only at h1 h2
  unfold stepOk at h1
  split at h1
  · cases h1
  · rename_i m hm
    unfold stepOf at h1
    simp only [Bool.and_eq_true, beq_iff_eq] at h1
    refine ⟨m, hm, h1.1.1, fun hlt => ?_⟩
    unfold wayOk at h2
    rw [hm] at h2
    have hne : (k + 1 == g.steps.length) = false := by rw [beq_eq_false_iff_ne]; omega
    simp only [hne, Bool.false_or, Option.getD_some, Bool.not_eq_true'] at h2
    obtain ⟨v, hv, hvn, hmv⟩ := meth_mem hm
    have h3 := hu (m.undo.toList.isEmpty || undoOk x v.name m, part v.name m.name) (List.mem_flatMap.2 ⟨v, hv, List.mem_flatMap.2 ⟨m, hmv, by simp [undosM]⟩⟩)
    have h4 := he (!(contrary m.effect).toList.isEmpty && order x m.arg, part v.name m.name) (List.mem_flatMap.2 ⟨v, hv, List.mem_flatMap.2 ⟨m, hmv, by simp [effectsM]⟩⟩)
    simp only [h2, Bool.false_or] at h3
    simp only [Bool.and_eq_true, Bool.not_eq_true'] at h4
    unfold undoOk at h3
    split at h3
    · cases h3
    · rename_i u hum
      unfold undoOf at h3
      simp only [Bool.and_eq_true, beq_iff_eq] at h3
      exact ⟨u, by rw [← meth_congr hvn]; exact hum, h3.1.1.1, h3.1.1.2, h3.2, h4.1⟩
end Chk
end Go.Proofs.YtmncppnpppdfkaaDoor
