/- Two schemas are the same just if they are equal; equal texts, equal schemas. Plain. No condition but the ones the theorems state. -/
import Derived.Test.YtmncppnpppdfkaaDoorPrnBack
set_option linter.unusedVariables false
set_option linter.unusedSimpArgs false
namespace Go.Proofs.YtmncppnpppdfkaaDoor
namespace Prn
open Go.Proofs.YtmncppnpppdfkaaDoor.Id Go.Proofs.YtmncppnpppdfkaaDoor.Chk
theorem sameF_eq {α : Type} {eq : α → α → Bool} (h : ∀ x y, eq x y = true → x = y) : ∀ {a b : List α}, sameF eq a b = true → a = b
  | [], [], _ => rfl
  | [], _ :: _, h' => by cases h'
  | _ :: _, [], h' => by cases h'
  | x :: a, y :: b, h' => by
    unfold sameF at h'
    rw [Bool.and_eq_true] at h'
    rw [h x y h'.1, sameF_eq h h'.2]
theorem srtEq_eq (x y : Srt) (h : srtEq x y = true) : x = y := by
  obtain ⟨a, b⟩ := x
  obtain ⟨c, d⟩ := y
  unfold srtEq at h
  simp only [Bool.and_eq_true, beq_iff_eq] at h
  rw [h.1, Tk.text_eq h.2]
theorem mthEq_eq (x y : Mth) (h : mthEq x y = true) : x = y := by
  obtain ⟨a, b, c, d, e⟩ := x
  obtain ⟨a', b', c', d', e'⟩ := y
  unfold mthEq at h
  simp only [Bool.and_eq_true, beq_iff_eq] at h
  obtain ⟨⟨⟨⟨h1, h2⟩, h3⟩, h4⟩, h5⟩ := h
  rw [Tk.text_eq h1, Tk.text_eq h2, h3, Tk.text_eq h4, Tk.text_eq h5]
theorem stpEq_eq (x y : Stp) (h : stpEq x y = true) : x = y := by
  obtain ⟨a, b, c⟩ := x
  obtain ⟨a', b', c'⟩ := y
  unfold stpEq at h
  simp only [Bool.and_eq_true, beq_iff_eq] at h
  rw [Tk.text_eq h.1.1, Tk.text_eq h.1.2, h.2]
theorem fldEq_eq (x y : Fld) (h : fldEq x y = true) : x = y := by
  obtain ⟨a, b⟩ := x
  obtain ⟨c, d⟩ := y
  unfold fldEq at h
  simp only [Bool.and_eq_true, beq_iff_eq] at h
  rw [Tk.text_eq h.1, sameF_eq srtEq_eq h.2]
theorem recEq_eq (x y : Rec) (h : recEq x y = true) : x = y := by
  obtain ⟨a, b, c⟩ := x
  obtain ⟨a', b', c'⟩ := y
  unfold recEq at h
  simp only [Bool.and_eq_true, beq_iff_eq] at h
  rw [Tk.text_eq h.1.1, h.1.2, sameF_eq fldEq_eq h.2]
theorem svcEq_eq (x y : Svc) (h : svcEq x y = true) : x = y := by
  obtain ⟨a, b⟩ := x
  obtain ⟨c, d⟩ := y
  unfold svcEq at h
  simp only [Bool.and_eq_true, beq_iff_eq] at h
  rw [Tk.text_eq h.1, sameF_eq mthEq_eq h.2]
theorem sagEq_eq (x y : Sag) (h : sagEq x y = true) : x = y := by
  obtain ⟨a, b, c⟩ := x
  obtain ⟨a', b', c'⟩ := y
  unfold sagEq at h
  simp only [Bool.and_eq_true, beq_iff_eq] at h
  rw [Tk.text_eq h.1.1, Tk.text_eq h.1.2, sameF_eq stpEq_eq h.2]
theorem schEq_eq {x y : Sch} (h : schEq x y = true) : x = y := by
  obtain ⟨a, b, c, d⟩ := x
  obtain ⟨a', b', c', d'⟩ := y
  unfold schEq at h
  simp only [Bool.and_eq_true, beq_iff_eq] at h
  obtain ⟨⟨⟨h1, h2⟩, h3⟩, h4⟩ := h
  rw [Tk.text_eq h1, sameF_eq recEq_eq h2, sameF_eq svcEq_eq h3, sameF_eq sagEq_eq h4]
/-- One text, one schema. -/
theorem text_same {x y : Sch} {s t : ByteArray} (hs : text x = (s, 0)) (ht : text y = (t, 0)) : (s.toList == t.toList) = schEq x y := by
  rw [Bool.eq_iff_iff]
  refine ⟨fun h => ?_, fun h => ?_⟩
  · have e : s = t := Tk.text_eq (by simpa using h)
    subst e
    have h1 := text_parse hs
    rw [text_parse ht] at h1
    injection h1 with h1
    rw [h1]
    exact schEq_refl _
  · have e := schEq_eq h
    subst e
    rw [hs] at ht
    injection ht with ht
    rw [ht]
    simp
end Prn
end Go.Proofs.YtmncppnpppdfkaaDoor
