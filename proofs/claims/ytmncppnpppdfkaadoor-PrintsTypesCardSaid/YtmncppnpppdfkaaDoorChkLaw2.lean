/- check, plain: a right schema is right without its last saga, and with its records turned about. No condition. -/
import Derived.Test.YtmncppnpppdfkaaDoorChkLaw
set_option linter.unusedVariables false
set_option linter.unusedSimpArgs false
namespace Go.Proofs.YtmncppnpppdfkaaDoor
namespace Chk
open Go.Proofs.YtmncppnpppdfkaaDoor.Id
def apart (a b : ByteArray) : Prop := (a.toList == b.toList) = false
theorem apart_symm {a b : ByteArray} (h : apart a b) : apart b a := by
  unfold apart at *
  rw [beq_eq_false_iff_ne] at *
  exact fun e => h e.symm
theorem seen_false {seen : List ByteArray} {s : ByteArray} : seenB seen s = false ↔ ∀ y ∈ seen, apart y s := by
  unfold seenB apart
  rw [List.any_eq_false]
  simp
theorem dist_iff : ∀ {l seen : List ByteArray}, Dist seen l ↔ l.Pairwise apart ∧ ∀ y ∈ seen, ∀ a ∈ l, apart y a
  | [], seen => by simp [Dist]
  | b :: l, seen => by
    show (_ ∧ Dist _ _) ↔ _
    rw [dist_iff, seen_false, List.pairwise_cons]
    constructor
    · rintro ⟨h1, h2, h3⟩
      refine ⟨⟨fun a ha => h3 b (by simp) a ha, h2⟩, fun y hy a ha => ?_⟩
      rcases List.mem_cons.1 ha with rfl | ha
      · exact h1 y hy
      · exact h3 y (by simp [hy]) a ha
    · rintro ⟨⟨h1, h2⟩, h3⟩
      refine ⟨fun y hy => h3 y hy b (by simp), h2, fun y hy a ha => ?_⟩
      rcases List.mem_append.1 hy with hy | hy
      · exact h3 y hy a (by simp [ha])
      · simp at hy; subst hy; exact h1 a ha
/-- Without its last saga, its records turned about. -/
def fewer (x : Sch) : Sch := { x with records := x.records.reverse, sagas := x.sagas.dropLast }
theorem mem_drop {α : Type} {l : List α} {a : α} (h : a ∈ l.dropLast) : a ∈ l := List.dropLast_subset l h
theorem fewer_find {x : Sch} (h : Right x) (n : ByteArray) : find (fewer x) n = find x n := by
  have h1 := (dist_iff.1 (dist_app.1 (dblR_dist.1 (right_iff.1 h).2.2.1).1).1).1
  have h2 : (x.records.reverse.map (·.name)).Pairwise apart := by
    rw [List.map_reverse, List.pairwise_reverse]
    exact h1.imp (fun hab => apart_symm hab)
  have h3 : Dist [] (x.records.reverse.map (·.name)) := dist_iff.2 ⟨h2, by simp⟩
  unfold find fewer
  simp only
  cases hf : x.records.find? (fun r => r.name.toList == n.toList) with
  | none =>
    rw [List.find?_eq_none] at hf ⊢
    exact fun r hr => hf r (List.mem_reverse.1 hr)
  | some r =>
    have hm := List.mem_of_find?_eq_some hf
    have hn : r.name.toList = n.toList := by simpa using List.find?_some hf
    rw [← hn]
    exact find_self (·.name) h3 (List.mem_reverse.2 hm)
theorem fewer_order {x : Sch} (h : Right x) (n : ByteArray) : order (fewer x) n = order x n := by unfold order; rw [fewer_find h]
theorem fewer_okT {x : Sch} (h : Right x) : ∀ t : List Srt, okT (fewer x) t = okT x t
  | [] => rfl
  | [s] => by show fin (fewer x) s = fin x s; unfold fin; rw [fewer_find h]
  | s :: y :: l => by show (mid s && okT (fewer x) (y :: l)) = (mid s && okT x (y :: l)); rw [fewer_okT h (y :: l)]
theorem fewer_right {x : Sch} (h : Right x) (t : List Srt) : right (fewer x) t = right x t := by unfold right; rw [fewer_okT h]
open Classical in
theorem fewer_val (x : Sch) (s : ByteArray) : valB (fewer x).records s = valB x.records s := by
  rw [Bool.eq_iff_iff]
  unfold valB
  rw [decide_eq_true_eq, decide_eq_true_eq]
  exact ⟨fun hv P hP => hv P (fun r hr => hP r (List.mem_reverse.1 hr)), fun hv P hP => hv P (fun r hr => hP r (List.mem_reverse.2 hr))⟩
theorem right_fewer {x : Sch} (h : Right x) : Right (fewer x) := by
  obtain ⟨a1, a2, a3, a4, a5, a6, a7, a8, a9, a10⟩ := right_iff.1 h
  refine right_iff.2 ⟨fun t ht => a1 t ?_, fun t ht => ?_, ?_, fun t ht => ?_, fun t ht => ?_, fun t ht => ?_, fun t ht => a7 t ht, fun t ht => ?_, fun t ht => ?_, fun t ht => ?_⟩
  · unfold namesT fewer at *
    simp only [List.mem_cons, List.mem_append, List.mem_flatMap] at ht ⊢
    rcases ht with h | ⟨r, hr, h⟩ | h | ⟨g, hg, h⟩
    · exact .inl h
    · exact .inr (.inl ⟨r, List.mem_reverse.1 hr, h⟩)
    · exact .inr (.inr (.inl h))
    · exact .inr (.inr (.inr ⟨g, mem_drop hg, h⟩))
  · unfold countsT fewer at ht
    simp only [List.mem_cons, List.mem_append, List.mem_flatMap] at ht
    rcases ht with rfl | ⟨r, hr, h⟩ | h | ⟨g, hg, h⟩
    · have := a2 _ (List.mem_cons_self ..)
      simp only [decide_eq_true_eq, List.length_reverse, List.length_dropLast] at this ⊢
      omega
    · exact a2 t (by unfold countsT; simp only [List.mem_cons, List.mem_append, List.mem_flatMap]; exact .inr (.inl ⟨r, List.mem_reverse.1 hr, h⟩))
    · exact a2 t (by unfold countsT; simp only [List.mem_cons, List.mem_append, List.mem_flatMap]; exact .inr (.inr (.inl h)))
    · exact a2 t (by unfold countsT; simp only [List.mem_cons, List.mem_append, List.mem_flatMap]; exact .inr (.inr (.inr ⟨g, mem_drop hg, h⟩)))
  · obtain ⟨d1, d2, d3⟩ := dblR_dist.1 a3
    refine dblR_dist.2 ⟨?_, fun r hr => d2 r (List.mem_reverse.1 hr), d3⟩
    have p := (dist_iff.1 d1).1
    refine dist_iff.2 ⟨?_, by simp⟩
    rw [List.pairwise_append] at p ⊢
    obtain ⟨p1, p2, p3⟩ := p
    refine ⟨?_, ?_, ?_⟩
    · show ((x.records.reverse).map (·.name)).Pairwise apart
      rw [List.map_reverse, List.pairwise_reverse]
      exact p1.imp (fun hab => apart_symm hab)
    · refine p2.sublist (List.Sublist.append (List.Sublist.refl _) ?_)
      exact (List.dropLast_sublist _).map _
    · intro a ha b hb
      refine p3 a ?_ b ?_
      · obtain ⟨r, hr, rfl⟩ := List.mem_map.1 ha
        exact List.mem_map.2 ⟨r, List.mem_reverse.1 hr, rfl⟩
      · rcases List.mem_append.1 hb with hb | hb
        · exact List.mem_append.2 (.inl hb)
        · obtain ⟨g, hg, rfl⟩ := List.mem_map.1 hb
          exact List.mem_append.2 (.inr (List.mem_map.2 ⟨g, mem_drop hg, rfl⟩))
  · unfold typesT at ht
    rcases List.mem_append.1 ht with ht | ht
    · obtain ⟨r, hr, ht⟩ := List.mem_flatMap.1 ht
      refine a4 t (List.mem_append.2 (.inl (List.mem_flatMap.2 ⟨r, List.mem_reverse.1 hr, ?_⟩)))
      obtain ⟨y, hy, ht⟩ := List.mem_flatMap.1 ht
      refine List.mem_flatMap.2 ⟨y, hy, ?_⟩
      unfold typesF at *
      rw [fewer_right h] at ht
      exact ht
    · exact a4 t (List.mem_append.2 (.inr ht))
  · obtain ⟨r, hr, ht⟩ := List.mem_flatMap.1 ht
    refine a5 t (List.mem_flatMap.2 ⟨r, List.mem_reverse.1 hr, ?_⟩)
    unfold bottomsR at *
    rw [fewer_val] at ht
    exact ht
  · obtain ⟨v, hv, ht⟩ := List.mem_flatMap.1 ht
    refine a6 t (List.mem_flatMap.2 ⟨v, hv, ?_⟩)
    obtain ⟨m, hm, ht⟩ := List.mem_flatMap.1 ht
    refine List.mem_flatMap.2 ⟨m, hm, ?_⟩
    unfold effectsM at *
    rw [fewer_order h] at ht
    exact ht
  · obtain ⟨g, hg, ht⟩ := List.mem_flatMap.1 ht
    refine a8 t (List.mem_flatMap.2 ⟨g, mem_drop hg, ?_⟩)
    rw [fewer_order h] at ht
    exact ht
  · obtain ⟨g, hg, ht⟩ := List.mem_flatMap.1 ht
    exact a9 t (List.mem_flatMap.2 ⟨g, mem_drop hg, ht⟩)
  · obtain ⟨g, hg, ht⟩ := List.mem_flatMap.1 ht
    exact a10 t (List.mem_flatMap.2 ⟨g, mem_drop hg, ht⟩)
end Chk
end Go.Proofs.YtmncppnpppdfkaaDoor
