/- Plain laws on frames one behind the other. No condition. -/
import Derived.Test.YtdjccepchleacaaSumWhole
import Derived.Test.YtdjccepchleacaaSumLaws4
set_option linter.unusedVariables false
namespace Go.Proofs.Ytdjccepchleacaa.Sm
def cat : List (List UInt8) → List UInt8
  | [] => []
  | l :: ls => frame l ++ cat ls
theorem cat_snoc (ls : List (List UInt8)) (l : List UInt8) : cat (ls ++ [l]) = cat ls ++ frame l := by
  induction ls with
  | nil => simp [cat]
  | cons a ls ih => simp [cat, ih]
theorem cat_length (ls : List (List UInt8)) : (cat ls).length = 8 * ls.length + (ls.map List.length).sum := by
  induction ls with
  | nil => rfl
  | cons a ls ih => simp only [cat, List.length_append, frame_length, ih, List.length_cons, List.map_cons, List.sum_cons]; omega
theorem nextAt_shift (P t : List UInt8) (n : Nat) : nextAt (P ++ t) (P.length + n) = nextAt t n := by
  have e : ∀ k, (P ++ t).drop (P.length + k) = t.drop k := fun k => by rw [← List.drop_drop, List.drop_left]
  have e8 : (P ++ t).drop (P.length + n + 8) = t.drop (n + 8) := by rw [Nat.add_assoc]; exact e _
  have e4 : (P ++ t).drop (P.length + n + 4) = t.drop (n + 4) := by rw [Nat.add_assoc]; exact e _
  unfold nextAt
  rw [e, e8, e4, List.length_append]
  by_cases h : t.length < n + 8
  · rw [if_pos h, if_pos (by omega)]
  · rw [if_neg h, if_neg (by omega)]
    by_cases h2 : 65536 < val4 (t.drop n) ∨ t.length < n + 8 + val4 (t.drop n)
    · simp only []
      rw [if_pos h2, if_pos (by omega)]
    · simp only []
      rw [if_neg h2, if_neg (by omega)]
theorem nextR_shift (P t : List UInt8) (n : Nat) : nextR (P ++ t) ((P.length + n : Nat) : Int) = nextR t (n : Int) := by
  unfold nextR
  rw [if_neg (by omega), if_neg (by omega), Int.toNat_natCast, Int.toNat_natCast]
  exact nextAt_shift P t n
theorem run_shift (P t : List UInt8) : ∀ (bs : List Body) (n m : Nat), Run t n bs m → Run (P ++ t) (P.length + n) bs (P.length + m)
  | [], n, m, h => by
    obtain ⟨rfl, h⟩ := h
    exact ⟨rfl, by rw [nextR_shift]; exact h⟩
  | b :: bs, n, m, h => by
    obtain ⟨h1, h2⟩ := h
    refine ⟨by rw [nextR_shift]; exact h1, ?_⟩
    have := run_shift P t bs _ _ h2
    rwa [show P.length + n + 8 + b.1.length = P.length + (n + 8 + b.1.length) from by omega]
theorem run_cat : ∀ (ls : List Body) (t : List UInt8) (bs : List Body) (m : Nat), Run t 0 bs m → Run (cat (ls.map Subtype.val) ++ t) 0 (ls ++ bs) ((cat (ls.map Subtype.val)).length + m)
  | [], t, bs, m, h => by simpa [cat] using h
  | b :: ls, t, bs, m, h => by
    have ih := run_cat ls t bs m h
    have hs := run_shift (frame b.1) _ _ _ _ ih
    have hfl := frame_length b.1
    refine ⟨?_, ?_⟩
    · have := nextR_frame [] b.1 (cat (ls.map Subtype.val) ++ t) b.2
      simpa [cat] using this
    · have e : (cat ((b :: ls).map Subtype.val)) ++ t = frame b.1 ++ (cat (ls.map Subtype.val) ++ t) := by simp [cat]
      have e2 : (cat ((b :: ls).map Subtype.val)).length = (frame b.1).length + (cat (ls.map Subtype.val)).length := by simp [cat]
      rw [e, e2, show 0 + 8 + b.1.length = (frame b.1).length + 0 from by omega, show (frame b.1).length + (cat (ls.map Subtype.val)).length + m = (frame b.1).length + ((cat (ls.map Subtype.val)).length + m) from by omega]
      exact hs
theorem run_zero (n : Nat) : Run (List.replicate n 0) 0 [] 0 := ⟨rfl, nextR_zero n⟩
/-- How far a text is frames, and whether one begins it. -/
theorem run_begins {t : List UInt8} {bs : List Body} {m : Nat} (h : Run t 0 bs m) : (nextR t 0 = none ∧ m = 0) ∨ ((∃ b, nextR t 0 = some b) ∧ 8 ≤ m) := by
  cases bs with
  | nil => exact .inl ⟨h.2, h.1⟩
  | cons b bs =>
    obtain ⟨k, hk, _, hb2, _, _⟩ := nextR_some h.1
    have h2 := run_le (by omega) h.2
    exact .inr ⟨⟨b.1, h.1⟩, by omega⟩
theorem run_nil : Run [] 0 [] 0 := ⟨rfl, nextR_off (.inr (by decide))⟩
/-- The lengths, each counted to 20001. -/
def mins (ls : List (List UInt8)) : Nat := (ls.map fun l => min l.length 20001).sum
theorem mins_snoc (ls : List (List UInt8)) (l : List UInt8) : mins (ls ++ [l]) = mins ls + min l.length 20001 := by simp [mins]
theorem mins_le (ls : List (List UInt8)) : mins ls ≤ 20001 * ls.length := by
  induction ls with
  | nil => simp [mins]
  | cons a ls ih =>
    have e : mins (a :: ls) = min a.length 20001 + mins ls := by simp [mins]
    rw [e, List.length_cons]; omega
theorem mins_all {ls : List (List UInt8)} (h : mins ls ≤ 20000) : (ls.map List.length).sum ≤ 20000 ∧ ∀ l ∈ ls, l.length ≤ 20000 := by
  have e : ∀ ls : List (List UInt8), mins ls ≤ 20000 → (ls.map List.length).sum = mins ls ∧ ∀ l ∈ ls, l.length ≤ 20000 := by
    intro ls
    induction ls with
    | nil => intro _; simp [mins]
    | cons a ls ih =>
      intro h
      have e : mins (a :: ls) = min a.length 20001 + mins ls := by simp [mins]
      obtain ⟨i1, i2⟩ := ih (by omega)
      refine ⟨by rw [List.map_cons, List.sum_cons, i1, e]; omega, ?_⟩
      intro l hl
      rcases List.mem_cons.1 hl with rfl | hl
      · omega
      · exact i2 l hl
  obtain ⟨h1, h2⟩ := e ls h
  exact ⟨by omega, h2⟩
end Go.Proofs.Ytdjccepchleacaa.Sm
