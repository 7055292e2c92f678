/- A region that draws its order and has no guards: each operation, in whatever world of the class in which what it leans on holds of its temporaries, leaves in its temporary a value of which its own property holds, in a world of the class that has only grown; the properties outlive growth. Then, whatever the order, all hold at the end. No condition but the theorem's own. -/
import Derived.Test.YtjhejnhjpjmnmaaDoorBase
set_option linter.unusedVariables false
namespace Go.Proofs.YtjhejnhjpjmnmaaDoor
open Go.RowKit Go.BigFrame
namespace Mono
/-- The temporaries that an operation leans on. -/
def leans (ops : Array Oper) (o : Oper) : List Tmp := o.after.toList.filterMap fun e => if Region.binds .any e then (ops[e.on]?).bind (·.dst) else none
/-- No guards; each leans on elder ones; each temporary is written once. -/
def fineB (ops : Array Oper) : Bool :=
  (List.range ops.size).all fun i => match ops[i]? with
    | none => true
    | some o => o.guard.isNone && o.after.all (fun e => decide (e.on < i)) && (match o.dst with
      | none => true
      | some d => (List.range ops.size).all fun j => decide (j = i) || (match ops[j]? with | none => true | some o' => decide (o'.dst ≠ some d)))
theorem fine_spec {ops : Array Oper} (h : fineB ops = true) {i : Nat} {o : Oper} (hi : ops[i]? = some o) :
    o.guard = none ∧ (∀ e ∈ o.after, e.on < i) ∧ ∀ d, o.dst = some d → ∀ j o', ops[j]? = some o' → j ≠ i → o'.dst ≠ some d := by
  have hlt : i < ops.size := (Array.getElem?_eq_some_iff.1 hi).1
  have h1 := List.all_eq_true.1 h i (List.mem_range.2 hlt)
  simp only [hi, Bool.and_eq_true] at h1
  obtain ⟨⟨h2, h3⟩, h4⟩ := h1
  refine ⟨by simpa using h2, fun e he => ?_, fun d hd j o' hj hne => ?_⟩
  · rw [Array.all_eq_true_iff_forall_mem] at h3
    simpa using h3 e he
  · simp only [hd] at h4
    have hjl : j < ops.size := (Array.getElem?_eq_some_iff.1 hj).1
    have h5 := List.all_eq_true.1 h4 j (List.mem_range.2 hjl)
    simp only [hj, Bool.or_eq_true, decide_eq_true_eq] at h5
    exact h5.resolve_left hne
section
variable {P : Program} {ops : Array Oper} {C : World → Prop} {G : Tmp → Value → World → Prop} {Q : Exit → Act → World → Prop}
/-- What is asked of one operation. -/
def Step (P : Program) (ops : Array Oper) (C : World → Prop) (G : Tmp → Value → World → Prop) (a0 : Act) (Q : Exit → Act → World → Prop) (o : Oper) : Prop :=
  ∀ a w, C w → (∀ d ∈ leans ops o, G d (a.eval (.tmp d)) w) → (∀ d, (∀ o' ∈ ops.toList, o'.dst ≠ some d) → a.eval (.tmp d) = a0.eval (.tmp d)) →
    o.wp P a w (fun a' w' => ∃ v, a' = a.put o.dst v ∧ (∀ d, o.dst = some d → G d v w') ∧ C w' ∧ Below w.heap.size w w') Q
/-- How it stands when some have come up. -/
structure Inv (ops : Array Oper) (C : World → Prop) (G : Tmp → Value → World → Prop) (a0 : Act) (listed : Array Bool) (a : Act) (w : World) : Prop where
  cls : C w
  got : ∀ (i : Nat) (o : Oper) (d : Tmp), ops[i]? = some o → listed.getD i false = true → o.dst = some d → G d (a.eval (.tmp d)) w
  old : ∀ d : Nat, (∀ (i : Nat) (o : Oper), ops[i]? = some o → listed.getD i false = true → o.dst ≠ some d) → a.tmps[d]? = a0.tmps[d]?
  size : a.tmps.size = a0.tmps.size
  defers : a.defers = a0.defers
theorem getD_set (l : Array Bool) (i j : Nat) (h : (l.setIfInBounds i true).getD j false = true) : j = i ∨ l.getD j false = true := by
  by_cases e : j = i
  · exact .inl e
  · refine .inr ?_
    rw [Array.getD_eq_getD_getElem?, Array.getElem?_setIfInBounds_ne (by omega)] at h
    rwa [Array.getD_eq_getD_getElem?]
theorem all_listed {listed : Array Bool} (hs : listed.size = ops.size) (hf : fineB ops = true) (hr : Region.ready .any ops listed = []) : ∀ i, i < ops.size → listed.getD i false = true := by
  intro i
  induction i using Nat.strongRecOn with
  | _ i ih =>
    intro hi
    rcases hb : listed.getD i false with _ | _
    · exfalso
      have ho : ops[i]? = some ops[i] := Array.getElem?_eq_getElem hi
      have hm : i ∈ Region.ready .any ops listed := mem_ready.2 ⟨by
        rw [Array.getD_eq_getD_getElem?, Array.getElem?_eq_getElem (by omega)] at hb ⊢
        exact hb, _, ho, fun e he _ => ih e.on ((fine_spec hf ho).2.1 e he) (by have := (fine_spec hf ho).2.1 e he; omega)⟩
      rw [hr] at hm
      cases hm
    · rfl
theorem any (hf : fineB ops = true) (hG : ∀ d v w w', G d v w → C w' → Below w.heap.size w w' → G d v w') (a0 : Act) (hd : ∀ (i : Nat) (o : Oper) (d : Tmp), ops[i]? = some o → o.dst = some d → d < a0.tmps.size)
    (hst : ∀ o ∈ ops.toList, Step P ops C G a0 Q o) (hQ : ∀ a w, C w → (∀ (i : Nat) (o : Oper) (d : Tmp), ops[i]? = some o → o.dst = some d → G d (a.eval (.tmp d)) w) → (∀ d : Nat, (∀ (i : Nat) (o : Oper), ops[i]? = some o → o.dst ≠ some d) → a.tmps[d]? = a0.tmps[d]?) → a.tmps.size = a0.tmps.size → a.defers = a0.defers → Q .normal a w) :
    ∀ (fuel : Nat) (listed : Array Bool) (a : Act) (w : World), listed.size = ops.size → (listed.toList.filter (!·)).length ≤ fuel → Inv ops C G a0 listed a w → wpAny P .any ops Q fuel listed a w := by
  have fin : ∀ (listed : Array Bool) (a : Act) (w : World), listed.size = ops.size → Inv ops C G a0 listed a w → Region.ready .any ops listed = [] → Q .normal a w := fun listed a w hs hI hr => by
    have hall := all_listed hs hf hr
    exact hQ a w hI.cls (fun i o d ho hdd => hI.got i o d ho (hall i (Array.getElem?_eq_some_iff.1 ho).1) hdd) (fun d hn => hI.old d fun i o ho _ => hn i o ho) hI.size hI.defers
  intro fuel
  induction fuel with
  | zero =>
    intro listed a w hs hn hI
    have hr : Region.ready .any ops listed = [] := by
      rcases hq : Region.ready .any ops listed with _ | ⟨i, r⟩
      · rfl
      · exfalso
        have hi : i ∈ Region.ready .any ops listed := by rw [hq]; simp
        obtain ⟨hun, o, ho, _⟩ := mem_ready.1 hi
        have hlt : i < listed.size := by rw [hs]; exact (Array.getElem?_eq_some_iff.1 ho).1
        rw [Array.getD_eq_getD_getElem?, Array.getElem?_eq_getElem hlt] at hun
        have hm : listed[i] ∈ listed.toList.filter (!·) := by
          rw [List.mem_filter]
          exact ⟨by simp, by simpa using hun⟩
        have := List.length_pos_of_mem hm
        omega
    exact ⟨hr, fin listed a w hs hI hr⟩
  | succ fuel ih =>
    intro listed a w hs hn hI
    refine ⟨fin listed a w hs hI, fun i hi => ?_⟩
    obtain ⟨hun, o, ho, hdeps⟩ := mem_ready.1 hi
    obtain ⟨hg, hb, hone⟩ := fine_spec hf ho
    have hlt : i < listed.size := by rw [hs]; exact (Array.getElem?_eq_some_iff.1 ho).1
    rw [Array.getD_eq_getD_getElem?, Array.getElem?_eq_getElem hlt] at hun
    simp only [Option.getD_some] at hun
    unfold wpOp
    simp only [ho]
    have hw : Region.wanted o (yielded ops a.tmps) = true := by unfold Region.wanted; rw [hg]
    rw [if_pos hw]
    refine .inl (Oper.wp_mono ?_ (hst o (Array.mem_toList_iff.2 (Array.mem_of_getElem? ho)) a w hI.cls ?_ ?_))
    · rintro a' w' ⟨v, rfl, hv, hC', hbel⟩
      refine ih _ _ _ (by simpa using hs) ?_ ?_
      · have e : (listed.setIfInBounds i true).toList = listed.toList.set i true := by simp
        rw [e]
        have hlt2 : i < listed.toList.length := by rw [Array.length_toList]; exact hlt
        have h0 : listed.toList[i] = false := by rw [Array.getElem_toList]; exact hun
        have h1 : listed.toList = listed.toList.take i ++ (false :: listed.toList.drop (i + 1)) := by
          rw [← h0, ← List.drop_eq_getElem_cons hlt2, List.take_append_drop]
        have h2 : listed.toList.set i true = listed.toList.take i ++ (true :: listed.toList.drop (i + 1)) := by
          rw [List.set_eq_take_append_cons_drop, if_pos hlt2]
        rw [h1] at hn
        rw [h2]
        simp only [List.filter_append, List.length_append, List.filter_cons, Bool.not_false, Bool.not_true, if_true, List.length_cons] at hn ⊢
        simp only [Bool.false_eq_true, if_false]
        omega
      · refine ⟨hC', fun j oj d hj hlj hdj => ?_, fun d hnd => ?_, ?_, ?_⟩
        · by_cases hji : j = i
          · subst hji
            rw [ho] at hj
            cases hj
            have hds := hd _ _ _ ho hdj
            have he : (a.put o.dst v).eval (.tmp d) = v := by
              rw [hdj]
              show (a.tmps.setIfInBounds d v).getD d undef = v
              rw [Array.getD_eq_getD_getElem?, Array.getElem?_setIfInBounds_self_of_lt (by rw [hI.size]; exact hds)]
              rfl
            rw [he]
            exact hv d hdj
          · replace hlj := (getD_set _ _ _ hlj).resolve_left hji
            have he : (a.put o.dst v).eval (.tmp d) = a.eval (.tmp d) := Act.eval_put fun e he hx => by
              injection hx with hx
              subst hx
              exact (hone _ he j oj hj hji) hdj
            rw [he]
            exact hG d _ _ _ (hI.got j oj d hj hlj hdj) hC' hbel
        · have hnd' : ∀ i' o', ops[i']? = some o' → listed.getD i' false = true → o'.dst ≠ some d := fun i' o' ho' hl' => hnd i' o' ho' (by
            by_cases e : i' = i
            · subst e
              rw [Array.getD_eq_getD_getElem?, Array.getElem?_setIfInBounds_self_of_lt hlt]
              rfl
            · rw [Array.getD_eq_getD_getElem?, Array.getElem?_setIfInBounds_ne (by omega), ← Array.getD_eq_getD_getElem?]
              exact hl')
          have hod : o.dst ≠ some d := hnd i o ho (by rw [Array.getD_eq_getD_getElem?, Array.getElem?_setIfInBounds_self_of_lt hlt]; rfl)
          rw [← hI.old d hnd']
          unfold Act.put
          split
          · rename_i e he
            show (a.tmps.setIfInBounds e v)[d]? = _
            rw [Array.getElem?_setIfInBounds_ne (by rintro rfl; exact hod he)]
          · rfl
        · rw [← hI.size]
          unfold Act.put
          split <;> simp
        · rw [← hI.defers]
          unfold Act.put
          split <;> rfl
    · intro d hdl
      unfold leans at hdl
      rw [List.mem_filterMap] at hdl
      obtain ⟨e, he, hed⟩ := hdl
      split at hed
      · rename_i hbe
        have hl := hdeps e (by simpa using he) hbe
        rcases hoe : ops[e.on]? with _ | oe
        · rw [hoe] at hed; cases hed
        · rw [hoe] at hed
          exact hI.got e.on oe d hoe hl hed
      · cases hed
    · intro d hnd
      have := hI.old d fun i' o' ho' _ => hnd o' (Array.mem_toList_iff.2 (Array.mem_of_getElem? ho'))
      show a.tmps.getD d undef = a0.tmps.getD d undef
      rw [Array.getD_eq_getD_getElem?, Array.getD_eq_getD_getElem?, this]
theorem filter_rep : ∀ n : Nat, ((List.replicate n false).filter (!·)).length = n
  | 0 => rfl
  | n + 1 => by rw [List.replicate_succ, List.filter_cons]; simp
/-- The whole region. -/
theorem wp_region {id : Nat} {l : List Oper} {a0 : Act} {w : World} (hm : P.follows .mixedOrders = true) (hf : fineB l.toArray = true) (hG : ∀ d v w w', G d v w → C w' → Below w.heap.size w w' → G d v w') (n : Nat) (hn : a0.tmps.size = n) (hdB : (l.all fun o => match o.dst with | none => true | some d => decide (d < n)) = true) (hC : C w.drew)
    (hst : ∀ o ∈ l, Step P l.toArray C G a0 Q o) (hQ : ∀ a w', C w' → (∀ o ∈ l, ∀ d : Tmp, o.dst = some d → G d (a.eval (.tmp d)) w') → (∀ d : Nat, (∀ o ∈ l, o.dst ≠ some d) → a.tmps[d]? = a0.tmps[d]?) → a.tmps.size = a0.tmps.size → a.defers = a0.defers → Q .normal a w') :
    (Code.region id l.toArray true).wp P Q a0 w := by
  have hd : ∀ o ∈ l, ∀ d : Tmp, o.dst = some d → d < a0.tmps.size := fun o ho d hdd => by
    have h1 := List.all_eq_true.1 hdB o ho
    simp only [hdd, decide_eq_true_eq] at h1
    rw [hn]
    exact h1
  have mem : ∀ (i : Nat) (o : Oper), l.toArray[i]? = some o → o ∈ l := fun i o h => by simpa using Array.mem_of_getElem? h
  refine wp_region_any hm (any hf hG a0 (fun i o d ho hdd => hd o (mem i o ho) d hdd) (fun o ho => hst o (by simpa using ho)) ?_ _ _ _ _ (by simp) ?_ ?_)
  · intro a w' hC' h1 h2 h3 h4
    refine hQ a w' hC' (fun o ho d hdd => ?_) (fun d hn => h2 d fun i o ho => hn o (mem i o ho)) h3 h4
    obtain ⟨i, hi, rfl⟩ := List.mem_iff_getElem.1 ho
    exact h1 i _ d (by simp [hi]) hdd
  · simp only [Array.toList_replicate]
    rw [filter_rep]
    exact Nat.le_refl _
  · refine ⟨hC, fun i o d ho hl hdd => ?_, fun d _ => rfl, rfl, rfl⟩
    exfalso
    have hlt : i < l.toArray.size := (Array.getElem?_eq_some_iff.1 ho).1
    rw [Array.getD_eq_getD_getElem?, Array.getElem?_replicate, if_pos hlt] at hl
    cases hl
/-- An operation that hands back a value and leaves the world. -/
theorem step_value {a0 : Act} {o : Oper} {d : Tmp} (c : Value) (hd : o.dst = some d) (hc : ∀ w, G d c w)
    (h : ∀ (a : Act) (w : World), C w → (∀ d ∈ leans ops o, G d (a.eval (.tmp d)) w) → (∀ d, (∀ o' ∈ ops.toList, o'.dst ≠ some d) → a.eval (.tmp d) = a0.eval (.tmp d)) → (execOp a.eval o).run P w = .ok (.value c) w) : Step P ops C G a0 Q o := fun a w hC H H0 => by
  have h1 := h a w hC H H0
  unfold Oper.wp
  rw [h1]
  exact ⟨c, rfl, fun d' hd' => by rw [hd] at hd'; cases hd'; exact hc w, hC, Below.refl _ _⟩
/-- A call that hands back a value and leaves what lay there. -/
theorem step_call {a0 : Act} {o : Oper} {d : Tmp} (c : Value) (hd : o.dst = some d) (hc : ∀ w, G d c w) (f : FuncId) (args : Array Value) (hC2 : ∀ w w', C w → Below w.heap.size w w' → C w')
    (hcall : ∀ w, C w → Calls P f args w fun e w' => e = .returned c ∧ Below w.heap.size w w')
    (h : ∀ (a : Act) (w : World), C w → (∀ d ∈ leans ops o, G d (a.eval (.tmp d)) w) → (∀ d, (∀ o' ∈ ops.toList, o'.dst ≠ some d) → a.eval (.tmp d) = a0.eval (.tmp d)) → (execOp a.eval o).run P w = .ok (.enter f args) w) : Step P ops C G a0 Q o := fun a w hC H H0 => by
  have h1 := h a w hC H H0
  unfold Oper.wp
  rw [h1]
  refine (hcall w hC).mono fun e w' he => ?_
  obtain ⟨rfl, hb⟩ := he
  exact ⟨c, rfl, fun d' hd' => by rw [hd] at hd'; cases hd'; exact hc w', hC2 w w' hC hb, hb⟩
/-- The temporaries written, one behind the other. -/
def fill (a0 : Act) (vals : Tmp → Value) (ds : List Tmp) : Act := ds.foldl (fun a d => a.put (some d) (vals d)) a0
theorem fill_spec (vals : Tmp → Value) : ∀ (ds : List Tmp) (a0 : Act), (fill a0 vals ds).tmps.size = a0.tmps.size ∧ (fill a0 vals ds).defers = a0.defers ∧
    ∀ d : Nat, d < a0.tmps.size → (fill a0 vals ds).tmps[d]? = if d ∈ ds then some (vals d) else a0.tmps[d]?
  | [], a0 => ⟨rfl, rfl, fun d _ => by simp [fill]⟩
  | e :: ds, a0 => by
    have hz : (a0.put (some e) (vals e)).tmps.size = a0.tmps.size := by unfold Act.put; simp
    obtain ⟨h1, h2, h3⟩ := fill_spec vals ds (a0.put (some e) (vals e))
    refine ⟨h1.trans hz, h2, fun d hd => ?_⟩
    have h4 := h3 d (by rw [hz]; exact hd)
    have e4 : fill a0 vals (e :: ds) = fill (a0.put (some e) (vals e)) vals ds := rfl
    rw [e4, h4]
    by_cases hm : d ∈ ds
    · rw [if_pos hm, if_pos (List.mem_cons_of_mem _ hm)]
    · rw [if_neg hm]
      by_cases hde : d = e
      · subst hde
        rw [if_pos List.mem_cons_self]
        show (a0.tmps.setIfInBounds d (vals d))[d]? = _
        rw [Array.getElem?_setIfInBounds_self_of_lt hd]
      · rw [if_neg (by simp [hde, hm])]
        show (a0.tmps.setIfInBounds e (vals e))[d]? = _
        rw [Array.getElem?_setIfInBounds_ne (by omega)]
/-- The whole region; behind it a frame written out but for the temporaries' values. -/
theorem wp_fill {id : Nat} {l : List Oper} {a0 : Act} {w : World} (ds : List Tmp) (hm : P.follows .mixedOrders = true) (hf : fineB l.toArray = true) (hG : ∀ d v w w', G d v w → C w' → Below w.heap.size w w' → G d v w') (n : Nat) (hn : a0.tmps.size = n) (hdB : (l.all fun o => match o.dst with | none => true | some d => decide (d < n)) = true) (hds : l.filterMap (·.dst) = ds) (hC : C w.drew)
    (hst : ∀ o ∈ l, Step P l.toArray C G a0 Q o) (hQ : ∀ (vals : Tmp → Value) w', C w' → (∀ d ∈ ds, G d (vals d) w') → Q .normal (fill a0 vals ds) w') :
    (Code.region id l.toArray true).wp P Q a0 w := by
  refine wp_region hm hf hG n hn hdB hC hst fun a w' hC' h1 h2 h3 h4 => ?_
  subst hds
  have e : a = fill a0 (fun d => a.eval (.tmp d)) (l.filterMap (·.dst)) := by
    obtain ⟨f1, f2, f3⟩ := fill_spec (fun d => a.eval (.tmp d)) (l.filterMap (·.dst)) a0
    have ht : a.tmps = (fill a0 (fun d => a.eval (.tmp d)) (l.filterMap (·.dst))).tmps := by
      refine Array.ext_getElem? fun d => ?_
      rcases Nat.lt_or_ge d a0.tmps.size with hd | hd
      · rw [f3 d hd]
        by_cases hmem : d ∈ l.filterMap (·.dst)
        · rw [if_pos hmem]
          show a.tmps[d]? = some (a.tmps.getD d undef)
          rw [Array.getD_eq_getD_getElem?, Array.getElem?_eq_getElem (by omega)]
          rfl
        · rw [if_neg hmem]
          exact h2 d fun o ho hod => hmem (List.mem_filterMap.2 ⟨o, ho, hod⟩)
      · rw [Array.getElem?_eq_none (by omega), Array.getElem?_eq_none (by omega)]
    have hdf := h4.trans f2.symm
    generalize fill a0 (fun d => a.eval (.tmp d)) (l.filterMap (·.dst)) = b at *
    cases a; cases b
    simp_all
  rw [e]
  exact hQ _ w' hC' fun d hd => by
    obtain ⟨o, ho, hod⟩ := List.mem_filterMap.1 hd
    exact h1 o ho d hod
end
end Mono
end Go.Proofs.YtjhejnhjpjmnmaaDoor
