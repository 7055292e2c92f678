import Derived.Test.YtdjccepchleacaaSumLaws
set_option linter.unusedVariables false
namespace Go.Proofs.Ytdjccepchleacaa
open Go.RowKit Go.BigFrame
attribute [local go_sem] bl_imp
namespace Sm
/-- A beginning of a frame is none. -/
theorem nextR_cut (b : List UInt8) (h : b.length ≤ 65536) (k : Nat) (hk : k < b.length + 8) : nextR ((frame b).take k) 0 = none := by
  have hfl := frame_length b
  by_cases h8 : k < 8
  · exact nextR_off (.inr (by rw [List.length_take]; omega))
  · have e : val4 (((frame b).take k).drop 0) = b.length := by
      rw [List.drop_zero]
      have h4 : (frame b).take k = le4 b.length ++ ((frame b).take k).drop 4 := by
        have : ((frame b).take k).take 4 = le4 b.length := by
          rw [List.take_take, Nat.min_eq_left (by omega)]
          unfold frame
          rw [List.append_assoc, List.take_left' (le4_length _)]
        rw [← this]
        exact (List.take_append_drop 4 _).symm
      rw [h4]
      exact val4_le4 (by omega) _
    exact nextR_long (n := 0) e (.inr (by rw [List.length_take]; omega))
/-- One byte behind the length changed: no frame. -/
theorem nextR_spoilt (b r : List UInt8) (h : b.length ≤ 65536) (k : Nat) (h4 : 4 ≤ k) (hk : k < b.length + 8) (x : UInt8) (hx : (frame b)[k]? ≠ some x) :
    nextR ((frame b).set k x ++ r) 0 = none := by
  have hfl := frame_length b
  cases hn : nextR ((frame b).set k x ++ r) 0 with
  | none => rfl
  | some c =>
    obtain ⟨n, hn0, hc1, hc2, hc3, hc4⟩ := nextR_some hn
    obtain rfl : n = 0 := by omega
    exfalso
    rw [List.drop_zero] at hc3
    have hlen : ((frame b).set k x).length = b.length + 8 := by simp [hfl]
    have hframe : frame b = le4 b.length ++ (le4 (crc (le4 b.length ++ b)) ++ b) := by unfold frame; rw [List.append_assoc]
    -- the length's bytes stand
    have hv : val4 ((frame b).set k x ++ r) = b.length := by
      rw [hframe, List.set_append_right _ _ (by simp [le4]; omega), List.append_assoc]
      exact val4_le4 (by omega) _
    have hcb : c.length = b.length := by
      have h1 := val4_frame c [] hc1
      rw [List.append_nil, ← hc3] at h1
      rw [← h1, ← hv]
      have e4 : ∀ l : List UInt8, ∀ m, 4 ≤ m → val4 (l.take m) = val4 l := by
        intro l m hm
        have g : ∀ i, i < 4 → (l.take m).getD i 0 = l.getD i 0 := by
          intro i hi
          simp [List.getD_eq_getElem?_getD, show i < m from by omega]
        unfold val4
        rw [g 0 (by omega), g 1 (by omega), g 2 (by omega), g 3 (by omega)]
      rw [e4 _ _ (by omega)]
    have hset : frame c = (frame b).set k x := by
      rw [← hc3, List.take_left' (by rw [hlen, hcb]; omega)]
    have hfc : frame c = le4 b.length ++ (le4 (crc (le4 b.length ++ c)) ++ c) := by unfold frame; rw [hcb, List.append_assoc]
    have hne : frame c ≠ frame b := by
      intro he
      apply hx
      rw [← he, hset, List.getElem?_set_self (by omega)]
    rw [hfc, hframe, List.set_append_right _ _ (by simp [le4]; omega)] at hset
    have hs2 := List.append_cancel_left hset
    have hl4 : (le4 b.length).length = 4 := rfl
    rw [hl4] at hs2
    by_cases h8 : k < 8
    · -- in the sum: the bodies are one
      rw [List.set_append_left _ _ (by simp [le4]; omega)] at hs2
      have hcb2 := List.append_inj_right' hs2 hcb
      exact hne (by rw [hcb2])
    · -- in the body
      rw [List.set_append_right _ _ (by simp [le4]; omega)] at hs2
      have hsum := List.append_inj_left' hs2 (by simp [hcb])
      have hbody := List.append_inj_right' hs2 (by simp [hcb])
      have hcrc := le4_inj (crc_lt _) (crc_lt _) hsum
      have hi : k - 8 < b.length := by omega
      have hl4' : k - 4 - (le4 (crc (le4 b.length ++ b))).length = k - 8 := by simp [le4]; omega
      rw [hl4'] at hbody
      have hb2 : b = b.take (k - 8) ++ b[k - 8] :: b.drop (k - 8 + 1) := by simp
      have hc2' : c = b.take (k - 8) ++ x :: b.drop (k - 8 + 1) := by rw [hbody, List.set_eq_take_append_cons_drop, if_pos hi]
      have hxx : x = b[k - 8] := by
        unfold crc at hcrc
        refine more_inj_byte (c := 0) (by omega) (le4 b.length ++ b.take (k - 8)) x b[k - 8] (b.drop (k - 8 + 1)) ?_
        rw [List.append_assoc, ← hc2', List.append_assoc, ← hb2]
        exact hcrc
      apply hne
      have : c = b := by rw [hc2', hxx, ← hb2]
      rw [this]
end Sm
end Go.Proofs.Ytdjccepchleacaa
