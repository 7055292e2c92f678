/- Chapter 11, plain: what the tokens of a text are like. -/
import Derived.Test.YtncjlaacpabkjaaTokJoinMath
set_option linter.unusedVariables false
namespace Go.Proofs.Ytncjlaacpabkjaa
namespace Tk
theorem oneAt_at (d : Nat) (s : ByteArray) (k : Nat) : (oneAt d s k).1.at_ = k := by
  unfold oneAt
  dsimp only
  split
  · rfl
  · split
    · split
      · rfl
      · split <;> rfl
    · split
      · rfl
      · split <;> rfl
theorem scan_mem {P : Tok → Prop} (d : Nat) (s : ByteArray) (hP : ∀ k, k < s.size → (oneAt d s k).2 = 0 → P (oneAt d s k).1) : ∀ (f k : Nat) (acc : List Tok), (∀ t ∈ acc, P t) → ∀ t ∈ (scan d s f k acc).1, P t
  | 0, k, acc, h => h
  | f + 1, k, acc, h => by
    by_cases h1 : k < s.size
    · by_cases h2 : (oneAt d s k).2 = 0
      · rw [scan_ok h1 h2]
        refine scan_mem d s hP f _ _ fun t ht => ?_
        rcases List.mem_append.1 ht with ht | ht
        · exact h t ht
        · rw [List.mem_singleton.1 ht]; exact hP k h1 h2
      · rw [scan_err h1 h2]; intro t ht; simp at ht
    · rw [scan_end h1]; exact h
theorem scan_len (d : Nat) (s : ByteArray) : ∀ (f k : Nat) (acc : List Tok), acc.length ≤ k → k ≤ s.size → (scan d s f k acc).1.length ≤ s.size
  | 0, k, acc, h, hk => by show acc.length ≤ _; omega
  | f + 1, k, acc, h, hk => by
    by_cases h1 : k < s.size
    · by_cases h2 : (oneAt d s k).2 = 0
      · rw [scan_ok h1 h2]
        have h3 := oneAt_ok h1 h2
        have hg := gapEnd_ge false s (k + (oneAt d s k).1.text.size)
        have hl := gapEnd_le (s := s) (k := k + (oneAt d s k).1.text.size) false h3.2
        exact scan_len d s f _ _ (by rw [List.length_append]; simp; omega) hl
      · rw [scan_err h1 h2]; simp
    · rw [scan_end h1]; show acc.length ≤ _; omega
theorem scan_fault (d : Nat) (s : ByteArray) : ∀ (f k : Nat) (acc : List Tok), k ≤ s.size → (scan d s f k acc).2.1 ≤ s.size ∧ ((scan d s f k acc).2.2 ≠ 0 → (scan d s f k acc).1 = [])
  | 0, k, acc, hk => ⟨Nat.zero_le _, fun h => absurd rfl h⟩
  | f + 1, k, acc, hk => by
    by_cases h1 : k < s.size
    · by_cases h2 : (oneAt d s k).2 = 0
      · rw [scan_ok h1 h2]
        have h3 := oneAt_ok h1 h2
        exact scan_fault d s f _ _ (gapEnd_le false h3.2)
      · rw [scan_err h1 h2]; exact ⟨hk, fun _ => rfl⟩
    · rw [scan_end h1]; exact ⟨Nat.zero_le _, fun h => absurd rfl h⟩
theorem all_facts (s : ByteArray) : (all s).2.1 ≤ s.size ∧ ((all s).2.2 ≠ 0 → (all s).1 = []) ∧ (all s).1.length ≤ s.size ∧ ∀ t ∈ (all s).1, t.at_ < s.size := by
  unfold all
  split
  · exact ⟨Nat.zero_le _, fun _ => rfl, Nat.zero_le _, fun t ht => by simp at ht⟩
  · have hl := gapEnd_le (s := s) (k := 0) false (by omega)
    obtain ⟨h1, h2⟩ := scan_fault 3 s (s.size + 1) (gapEnd false s 0) [] hl
    exact ⟨h1, h2, scan_len 3 s _ _ _ (by simp) hl, scan_mem (P := fun t => t.at_ < s.size) 3 s (fun k hk _ => by rw [oneAt_at]; exact hk) _ _ _ (by simp)⟩
/-- Some tokens moved, the others not yet. -/
def part (m i : Nat) (l : List Tok) : List Tok := (l.take i).map (Tok.move m) ++ l.drop i
theorem part_len (m i : Nat) (l : List Tok) : (part m i l).length = l.length := by unfold part; simp; omega
theorem part_zero (m : Nat) (l : List Tok) : part m 0 l = l := by simp [part]
theorem part_all (m : Nat) (l : List Tok) : part m l.length l = l.map (Tok.move m) := by simp [part]
theorem flat_append (a b : List Tok) : flat (a ++ b) = flat a ++ flat b := by simp [flat]
theorem part_step {m i : Nat} {l : List Tok} (h : i < l.length) : flat (part m (i + 1) l) = (flat (part m i l)).set (i * 4 + 3) (.int .i64 ((m + l[i].at_ : Nat) : Int)) := by
  unfold part
  have e1 : l.drop i = l[i] :: l.drop (i + 1) := List.drop_eq_getElem_cons h
  have e2 : l.take (i + 1) = l.take i ++ [l[i]] := by rw [List.take_succ_eq_append_getElem h]
  have hl : (flat ((l.take i).map (Tok.move m))).length = i * 4 := by rw [flat_len]; simp; omega
  rw [e1, e2, List.map_append, flat_append, flat_append, flat_append, List.append_assoc, List.set_append, if_neg (by omega), hl]
  congr 1
  rw [Nat.add_sub_cancel_left]
  rfl
theorem part_get {m i : Nat} {l : List Tok} (h : i < l.length) : (flat (part m i l))[i * 4 + 3]? = some (.int .i64 l[i].at_) := by
  rw [flat_get (by rw [part_len]; exact h) 3 (by omega)]
  have : (part m i l)[i]'(by rw [part_len]; exact h) = l[i] := by
    unfold part
    rw [List.getElem_append_right (by simp; omega)]
    simp [show i - min i l.length = 0 from by omega]
  rw [this]
  rfl
end Tk
end Go.Proofs.Ytncjlaacpabkjaa
