import Derived.Test.YtdjccepchleacaaSumLaws3
set_option linter.unusedVariables false
namespace Go.Proofs.Ytdjccepchleacaa
open Go.RowKit Go.BigFrame
attribute [local go_sem] bl_imp
namespace Sm
theorem nextR_zero (n : Nat) : nextR (List.replicate n 0) 0 = none := by
  cases h : nextR (List.replicate n 0) 0 with
  | none => rfl
  | some b =>
    exfalso
    obtain ⟨m, hm0, hb1, hb2, hb3, hb4⟩ := nextR_some h
    obtain rfl : m = 0 := by omega
    rw [List.length_replicate] at hb2
    rw [List.drop_zero] at hb3
    have hv : val4 (List.replicate n (0 : UInt8)) = 0 := by
      unfold val4
      have g : ∀ i, ((List.replicate n (0 : UInt8)).getD i 0) = 0 := by
        intro i
        rw [List.getD_eq_getElem?_getD, List.getElem?_replicate]
        split <;> rfl
      rw [g, g, g, g]; rfl
    have hbl : b.length = 0 := by
      have h1 := val4_frame b [] hb1
      rw [List.append_nil, ← hb3] at h1
      rw [← h1]
      have g : ∀ i, (((List.replicate n (0 : UInt8)).take (8 + b.length)).getD i 0) = 0 := by
        intro i
        rw [List.take_replicate, List.getD_eq_getElem?_getD, List.getElem?_replicate]
        split <;> rfl
      unfold val4
      rw [g, g, g, g]; rfl
    obtain rfl : b = [] := List.eq_nil_of_length_eq_zero hbl
    have hz : (List.replicate n (0 : UInt8)).take (8 + ([] : List UInt8).length) = List.replicate 8 0 := by
      rw [List.take_replicate]; congr 1; simp; omega
    rw [hz] at hb3
    exact absurd hb3 (by decide +kernel)
theorem spoilt_sums (l : List UInt8) (j : Nat) (hj : j < l.length) (x : UInt8) (hx : x ≠ l[j]) : crc (l.set j x) ≠ crc l ∧ print (l.set j x) ≠ print l := by
  have e : l = l.take j ++ l[j] :: l.drop (j + 1) := by simp
  have e2 : l.set j x = l.take j ++ x :: l.drop (j + 1) := by rw [List.set_eq_take_append_cons_drop, if_pos hj]
  constructor
  · intro h
    rw [e2] at h
    have h2 : crc (l.take j ++ x :: l.drop (j + 1)) = crc (l.take j ++ l[j] :: l.drop (j + 1)) := by rw [← e]; exact h
    exact hx (more_inj_byte (c := 0) (by omega) _ _ _ _ h2)
  · intro h
    rw [e2] at h
    have h2 : print (l.take j ++ x :: l.drop (j + 1)) = print (l.take j ++ l[j] :: l.drop (j + 1)) := by rw [← e]; exact h
    exact hx (print_inj_byte _ _ _ _ h2)
end Sm
end Go.Proofs.Ytdjccepchleacaa
