/- (*token.reader).next, whatever stands there. -/
import Derived.Test.YtoomlpalkinipaaDoorTokNextB
import Derived.Test.YtoomlpalkinipaaDoorTokNextE
set_option linter.unusedVariables false
namespace Go.Proofs.YtoomlpalkinipaaDoor
open Go.RowKit
/-- next, where a text goes on. -/
theorem next_any (s : ByteArray) (hs : s.size ≤ 65536) (b k K : Nat) (hk : k ≤ s.size) (hK : Tk.gapEnd false s k = K) (hKs : K < s.size) (w : World) (h : Tk.Rd w b s k) :
    Calls Tryd.prog 25 #[.pointer (some ⟨b, 0, none⟩)] w fun e w' =>
      e = .returned (.tuple #[(Tk.oneAt 0 s K).1.val, .bool (decide ((Tk.oneAt 0 s K).2 = 0)), .int .i64 (Tk.oneAt 0 s K).2]) ∧ w.grownBy w' (some b) ∧ ∃ k', Tk.Rd w' b s k' ∧ ((Tk.oneAt 0 s K).2 = 0 → k' = K + (Tk.oneAt 0 s K).1.text.size) := by
  have hB := Tk.byte_eq hKs
  cases hL : Tk.isLetter s[K].toNat
  · cases hD : Tk.isDigit s[K].toNat
    · cases hS : Tk.isSign s[K].toNat
      · by_cases hA : s[K].toNat = 45 ∧ K + 1 < s.size ∧ Tk.byte s (K + 1) = 62
        · have e : Tk.oneAt 0 s K = (⟨3, Tk.arrow, 0, K⟩, 0) := by unfold Tk.oneAt; rw [hB, hL, hD, hS]; simp [hA]
          rw [e]
          exact (next_arrow s hs b k K hk hK hKs hL hD hS hA w h).mono fun _ _ h => h
        · have e : Tk.oneAt 0 s K = (⟨0, Tk.empty, 0, K⟩, 110) := by unfold Tk.oneAt; rw [hB, hL, hD, hS]; simp [hA]
          rw [e]
          exact (next_other s hs b k K hk hK hKs hL hD hS hA w h).mono fun _ _ ⟨h1, h2, k', h3, _⟩ => ⟨h1, h2, k', h3, fun e => by cases e⟩
      · have e : Tk.oneAt 0 s K = (⟨3, s.extract K (K + 1), 0, K⟩, 0) := by unfold Tk.oneAt; rw [hB, hL, hD, hS]; simp
        rw [e]
        exact (next_sign s hs b k K hk hK hKs hL hD hS w h).mono fun _ _ ⟨h1, h2, k', h3, h4⟩ => ⟨h1, h2, k', h3, fun e => by rw [h4 e]; simp; omega⟩
    · have hge := Tk.runEnd_ge Tk.isDigit s (K + 1)
      have hle := Tk.runEnd_le (p := Tk.isDigit) (s := s) (k := K + 1) (by omega)
      by_cases h9 : 9 < Tk.runEnd Tk.isDigit s (K + 1) - K
      · have e : Tk.oneAt 0 s K = (⟨2, s.extract K (Tk.runEnd Tk.isDigit s (K + 1)), 0, K⟩, 3) := by unfold Tk.oneAt; rw [hB, hL, hD]; simp [h9]
        rw [e]
        exact (next_long s hs b k K hk hK hKs hL hD _ rfl h9 w h).mono fun _ _ ⟨h1, h2, k', h3, _⟩ => ⟨h1, h2, k', h3, fun e => by cases e⟩
      · by_cases hn : s[K].toNat = 48 ∧ 1 < Tk.runEnd Tk.isDigit s (K + 1) - K
        · have e : Tk.oneAt 0 s K = (⟨2, s.extract K (Tk.runEnd Tk.isDigit s (K + 1)), 0, K⟩, 110) := by unfold Tk.oneAt; rw [hB, hL, hD]; simp [h9, hn]
          rw [e]
          exact (next_nought s hs b k K hk hK hKs hL hD _ rfl h9 hn.1 hn.2 w h).mono fun _ _ ⟨h1, h2, k', h3, _⟩ => ⟨h1, h2, k', h3, fun e => by cases e⟩
        · have e : Tk.oneAt 0 s K = (⟨2, s.extract K (Tk.runEnd Tk.isDigit s (K + 1)), Tk.num s K (Tk.runEnd Tk.isDigit s (K + 1)), K⟩, 0) := by
            unfold Tk.oneAt; rw [hB, hL, hD]; simp only [Bool.false_eq_true, if_false, if_true]; rw [if_neg h9, if_neg hn]
          rw [e]
          exact (next_number s hs b k K hk hK hKs hL hD _ rfl h9 hn w h).mono fun _ _ ⟨h1, h2, k', h3, h4⟩ => ⟨h1, h2, k', h3, fun e => by rw [h4 e]; simp; omega⟩
  · have hge := Tk.runEnd_ge Tk.isInner s (K + 1)
    have hle := Tk.runEnd_le (p := Tk.isInner) (s := s) (k := K + 1) (by omega)
    have e : Tk.oneAt 0 s K = (⟨1, s.extract K (Tk.runEnd Tk.isInner s (K + 1)), 0, K⟩, Tk.over 32 (Tk.runEnd Tk.isInner s (K + 1) - K)) := by unfold Tk.oneAt; rw [hB, hL]; rfl
    rw [e]
    have hd : decide (Tk.over 32 (Tk.runEnd Tk.isInner s (K + 1) - K) = 0) = decide (Tk.runEnd Tk.isInner s (K + 1) - K ≤ 32) := by
      unfold Tk.over
      by_cases h32 : 32 < Tk.runEnd Tk.isInner s (K + 1) - K
      · rw [if_pos h32, decide_eq_false (by omega), decide_eq_false (by omega)]
      · rw [if_neg h32, decide_eq_true rfl, decide_eq_true (by omega)]
    exact (next_word s hs b k K hk hK hKs hL _ _ ⟨rfl, rfl⟩ w h).mono fun _ _ ⟨h1, h2, k', h3, h4⟩ => ⟨by rw [h1, hd], h2, k', h3, fun e => by rw [h4 e]; simp; omega⟩
end Go.Proofs.YtoomlpalkinipaaDoor
