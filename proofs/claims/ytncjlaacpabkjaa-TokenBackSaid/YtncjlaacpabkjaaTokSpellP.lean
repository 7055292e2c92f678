/- token.Spell: the first loop's facts (plain), then the walk. -/
import Derived.Test.YtncjlaacpabkjaaTokSpellR
import Derived.Test.YtncjlaacpabkjaaTokAllP
import Derived.Test.YtncjlaacpabkjaaBuilder
set_option linter.unusedVariables false
namespace Go.Proofs.Ytncjlaacpabkjaa
open Go.RowKit
namespace Tk
theorem ok_byte : ∀ x, x < 256 → (isLetter x || isDigit x || isSign x || decide (x = 45)) = true → isBlank x = false ∧ x ≠ 47 := by decide +kernel
theorem one_first {d : Nat} {s : ByteArray} {k : Nat} (he : (oneAt d s k).2 = 0) : (isLetter (byte s k) || isDigit (byte s k) || isSign (byte s k) || decide (byte s k = 45)) = true := by
  unfold oneAt at he
  dsimp only at he
  split at he
  · rename_i h; rw [h]; rfl
  · split at he
    · rename_i h; rw [h]; simp
    · split at he
      · rename_i h; rw [h]; simp
      · split at he
        · rename_i h; simp [h.1]
        · cases he
theorem gap_zero {d : Nat} {s : ByteArray} {k : Nat} (hk : k < s.size) (he : (oneAt d s k).2 = 0) : gapEnd false s k = k := by
  have h := one_first he
  rw [byte_eq hk] at h
  obtain ⟨h1, h2⟩ := ok_byte _ s[k].toNat_lt h
  exact gapEnd_stop hk h1 (fun e => h2 e.1)
/-- A right token: its text stands at once, and says it. -/
theorem chk_yes {t : ITok} (h : chk t = true) : 0 < t.text.size ∧ gapEnd false t.text 0 = 0 ∧ (oneAt 0 t.text 0).2 = 0 ∧ (oneAt 0 t.text 0).1.kind = t.kind ∧ (oneAt 0 t.text 0).1.text = t.text ∧ ((oneAt 0 t.text 0).1.num : Int) = t.num := by
  unfold chk at h
  simp only [Bool.and_eq_true, decide_eq_true_eq] at h
  obtain ⟨⟨⟨⟨h1, h2⟩, h3⟩, h4⟩, h5⟩ := h
  have hs : 0 < t.text.size := by omega
  have e2 := (oneAt_kinds t.text 0).1
  have e3 := (oneAt_kinds t.text 0).2.2 (by rw [e2]; exact h2)
  rw [e3]
  exact ⟨hs, gap_zero hs h2, h2, h3, text_eq' (eq_of_beq h4), h5⟩
/-- A wrong one: wherever its gap ends, something is not as it says. -/
theorem chk_no {t : ITok} (h : chk t = false) (hK : gapEnd false t.text 0 < t.text.size) (he : (oneAt 0 t.text (gapEnd false t.text 0)).2 = 0) (hk : (oneAt 0 t.text (gapEnd false t.text 0)).1.kind = t.kind) (ht : (oneAt 0 t.text (gapEnd false t.text 0)).1.text = t.text) : ((oneAt 0 t.text (gapEnd false t.text 0)).1.num : Int) ≠ t.num := by
  intro hn
  have hne : t.text.size ≠ 0 := by omega
  have hok := oneAt_ok hK he
  have hz : gapEnd false t.text 0 = 0 := by rw [ht] at hok; omega
  rw [hz] at he hk ht hn
  have e2 := (oneAt_kinds t.text 0).1
  have e3 := (oneAt_kinds t.text 0).2.2 he
  rw [e3] at he hk ht hn
  have : chk t = true := by
    unfold chk
    rw [he, hk, ht, hn, decide_eq_true hne]
    simp
  rw [h] at this
  cases this
end Tk
end Go.Proofs.Ytncjlaacpabkjaa
