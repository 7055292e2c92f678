/- Plain laws on frames: the frame at a place, told in two ways. No program in sight. No condition. -/
import Derived.Test.YtdjccepchleacaaSumWalkD
set_option linter.unusedVariables false
namespace Go.Proofs.Ytdjccepchleacaa.Sm

theorem le4_inj {a b : Nat} (ha : a < 4294967296) (hb : b < 4294967296) (h : le4 a = le4 b) : a = b := by
  have e1 := val4_le4 ha []
  have e2 := val4_le4 hb []
  rw [h] at e1
  exact e1.symm.trans e2

/-- The frame at a place, told by the body that would have to stand there. -/
theorem frame_at (s : List UInt8) (n k : Nat) (hk : val4 (s.drop n) = k) (hl : n + 8 + k ≤ s.length) :
    frame ((s.drop (n + 8)).take k) = (s.drop n).take (8 + k) ↔ more (crc ((s.drop n).take 4)) ((s.drop (n + 8)).take k) = val4 (s.drop (n + 4)) := by
  have hbl : ((s.drop (n + 8)).take k).length = k := by rw [List.length_take, List.length_drop]; omega
  have e1 : le4 k = (s.drop n).take 4 := by rw [← hk]; exact le4_val4 (by rw [List.length_drop]; omega)
  have e2 : le4 (val4 (s.drop (n + 4))) = (s.drop (n + 4)).take 4 := le4_val4 (by rw [List.length_drop]; omega)
  have e3 : (s.drop n).take (8 + k) = (s.drop n).take 4 ++ ((s.drop (n + 4)).take 4 ++ (s.drop (n + 8)).take k) := by
    rw [show 8 + k = 4 + (4 + k) from by omega, List.take_add, List.drop_drop, List.take_add, List.drop_drop]
  unfold frame
  rw [hbl, e3, e1, crc_more, List.append_assoc, ← e2]
  constructor
  · intro h
    have h1 := List.append_cancel_left h
    have h2 := List.append_cancel_right h1
    exact le4_inj (crc_lt _) (val4_lt _) h2
  · intro h
    rw [h]

def nextR (s : List UInt8) (a : Int) : Option (List UInt8) := if a < 0 then none else nextAt s a.toNat
def nextV (a : Int) : Option (List UInt8) → Value
  | none => .tuple #[.string ⟨#[]⟩, .int .i64 0, .bool false]
  | some b => .tuple #[.string ⟨b.toArray⟩, .int .i64 (a + 8 + b.length), .bool true]
theorem nextR_off {s : List UInt8} {a : Int} (h : a < 0 ∨ (s.length : Int) - a < 8) : nextR s a = none := by
  unfold nextR nextAt
  by_cases h0 : a < 0
  · rw [if_pos h0]
  · rw [if_neg h0, if_pos (by omega)]
theorem nextR_long {s : List UInt8} {n k : Nat} (hk : val4 (s.drop n) = k) (h : 65536 < k ∨ s.length < n + 8 + k) : nextR s n = none := by
  unfold nextR nextAt
  rw [if_neg (by omega), Int.toNat_natCast]
  by_cases h0 : s.length < n + 8
  · rw [if_pos h0]
  · rw [if_neg h0]
    simp only [hk]
    rw [if_pos h]
theorem nextR_sum {s : List UInt8} {n k : Nat} (hk : val4 (s.drop n) = k) (h1 : k ≤ 65536) (h2 : n + 8 + k ≤ s.length) :
    nextR s n = if more (crc ((s.drop n).take 4)) ((s.drop (n + 8)).take k) = val4 (s.drop (n + 4)) then some ((s.drop (n + 8)).take k) else none := by
  unfold nextR nextAt
  rw [if_neg (by omega), Int.toNat_natCast, if_neg (by omega)]
  simp only [hk]
  rw [if_neg (by omega)]
/-- What is found at a place: its frame stands there. -/
theorem nextR_some {s b : List UInt8} {a : Int} (h : nextR s a = some b) :
    ∃ n : Nat, a = n ∧ b.length ≤ 65536 ∧ n + 8 + b.length ≤ s.length ∧ (s.drop n).take (8 + b.length) = frame b ∧ b = (s.drop (n + 8)).take b.length := by
  by_cases h0 : a < 0
  · rw [nextR_off (.inl h0)] at h; cases h
  obtain ⟨n, rfl⟩ := Int.eq_ofNat_of_zero_le (show 0 ≤ a by omega)
  by_cases h8 : s.length < n + 8
  · rw [nextR_off (.inr (by omega))] at h; cases h
  by_cases hl : 65536 < val4 (s.drop n) ∨ s.length < n + 8 + val4 (s.drop n)
  · rw [nextR_long rfl hl] at h; cases h
  rw [nextR_sum rfl (by omega) (by omega)] at h
  split at h
  · rename_i hs
    injection h with h
    have hbl : b.length = val4 (s.drop n) := by rw [← h, List.length_take, List.length_drop]; omega
    refine ⟨n, rfl, by omega, by omega, ?_, ?_⟩
    · rw [hbl, ← h]
      exact ((frame_at s n _ rfl (by omega)).2 hs).symm
    · rw [hbl]; exact h.symm
  · cases h
theorem val4_frame (b r : List UInt8) (h : b.length ≤ 65536) : val4 (frame b ++ r) = b.length := by
  unfold frame
  rw [List.append_assoc, List.append_assoc]
  exact val4_le4 (by omega) _
/-- Where a frame stands, it is found. -/
theorem nextR_frame (p b r : List UInt8) (h : b.length ≤ 65536) : nextR (p ++ (frame b ++ r)) p.length = some b := by
  have hfl := frame_length b
  have hd : (p ++ (frame b ++ r)).drop p.length = frame b ++ r := by simp
  have hk : val4 ((p ++ (frame b ++ r)).drop p.length) = b.length := by rw [hd]; exact val4_frame b r h
  have hlen : (p ++ (frame b ++ r)).length = p.length + (8 + b.length) + r.length := by simp [hfl]; omega
  have hb : ((p ++ (frame b ++ r)).drop (p.length + 8)).take b.length = b := by
    rw [← List.drop_drop, hd]
    unfold frame
    have e : (le4 b.length ++ le4 (crc (le4 b.length ++ b)) ++ b ++ r).drop 8 = b ++ r := by
      rw [List.append_assoc, List.drop_left' (by simp [le4])]
    rw [e, List.take_left]
  have hfr := frame_at (p ++ (frame b ++ r)) p.length b.length hk (by omega)
  rw [hb] at hfr
  rw [nextR_sum hk h (by omega), hb, if_pos]
  refine hfr.1 ?_
  rw [hd, List.take_left' (by omega)]
end Go.Proofs.Ytdjccepchleacaa.Sm
