/- redressref13: Decls, Parts, doubles (printed by gen_rchk3.py). No condition. -/
import Derived.Test.YtmncppnpppdfkaaDoorChkR2
set_option linter.unusedVariables false
set_option linter.unusedSimpArgs false
namespace Go.Proofs.YtmncppnpppdfkaaDoor
open Go.RowKit Go.BigFrame
theorem take_of_drop {α : Type} {l m : List α} {k : Nat} {a : α} (h : l.drop k = a :: m) : l.take (k + 1) = l.take k ++ [a] := by
  rw [List.take_add, h]
  rfl
theorem getElem_of_drop {α : Type} {l m : List α} {k : Nat} {a : α} (hk : k < l.length) (h : l.drop k = a :: m) : l[k] = a := by
  rw [List.drop_eq_getElem_cons hk] at h
  injection h
theorem ne_schema_string : 26 ≠ 9 := by decide
namespace Chk
open Go.Proofs.YtmncppnpppdfkaaDoor.Id
def decls (x : Sch) : List ByteArray := (declsP x).map (·.1)
theorem decls_eq (x : Sch) : decls x = x.records.map (·.name) ++ (x.services.map (·.name) ++ x.sagas.map (·.name)) := by
  unfold decls declsP
  simp [List.map_append, List.map_map, Function.comp_def]
def partsAt (x : Sch) (i : Nat) : List ByteArray := if h : i < x.records.length then x.records[i].fields.map (·.name) else if h : i - x.records.length < x.services.length then x.services[i - x.records.length].methods.map (·.name) else []
theorem parts_eq {x : Sch} {i : Nat} (h : i < (declsP x).length) : (declsP x)[i].2 = partsAt x i := by
  unfold declsP at h ⊢
  unfold partsAt
  split
  next h1 => rw [List.getElem_append_left (by simpa using h1)]; simp
  next h1 =>
    rw [List.getElem_append_right (by simpa using h1)]
    split
    next h2 => rw [List.getElem_append_left (by simpa using h2)]; simp
    next h2 => rw [List.getElem_append_right (by simpa using h2)]; simp
theorem declsP_ok {x : Sch} (h : Fine x) : ∀ p ∈ declsP x, p.1.size ≤ 1000 ∧ p.2.length ≤ 99 ∧ ∀ q ∈ p.2, q.size ≤ 1000 := by
  intro p hp
  unfold declsP at hp
  simp only [List.mem_append, List.mem_map] at hp
  rcases hp with ⟨r, hr, rfl⟩ | ⟨r, hr, rfl⟩ | ⟨r, hr, rfl⟩
  · obtain ⟨a, b, c⟩ := h.re r hr
    refine ⟨a, by simpa using b, fun q hq => ?_⟩
    obtain ⟨f, hf, rfl⟩ := List.mem_map.1 hq
    exact (c f hf).1
  · obtain ⟨a, b, c⟩ := h.sv r hr
    refine ⟨a, by simpa using b, fun q hq => ?_⟩
    obtain ⟨f, hf, rfl⟩ := List.mem_map.1 hq
    exact (c f hf).1
  · exact ⟨(h.sa r hr).1, by simp, fun q hq => by cases hq⟩
theorem declsP_len {x : Sch} (h : Fine x) : (declsP x).length ≤ 3000 := by
  have := h.recs
  have := h.svcs
  have := h.sags
  unfold declsP
  simp
  omega
end Chk
end Go.Proofs.YtmncppnpppdfkaaDoor
