/- The walk of PrintsBack (printed by gen_prnback.py). No condition but the keywords' table. -/
import Derived.Test.YtmncppnpppdfkaaDoorPrnWk
import Derived.Test.YtmncppnpppdfkaaDoorIdlZ
set_option linter.unusedVariables false
set_option linter.unusedSimpArgs false
namespace Go.Proofs.YtmncppnpppdfkaaDoor
open Go.RowKit Go.BigFrame
namespace Prn
open Go.Proofs.YtmncppnpppdfkaaDoor.Id Go.Proofs.YtmncppnpppdfkaaDoor.Chk
theorem text_bad {x : Sch} (h : (text x).2 ≠ 0) : (text x).1 = ⟨#[]⟩ := by
  unfold text at h ⊢
  split
  · rfl
  · next h1 =>
    rw [if_neg h1] at h
    split
    · rfl
    · next h2 => rw [if_neg h2] at h; exact absurd rfl h
theorem text_good {x : Sch} {s : ByteArray} (h : text x = (s, 0)) : Right x ∧ s = jn (schW x) ∧ s.size ≤ 65536 := by
  unfold text at h
  split at h
  · next h1 => injection h with _ h2; exact absurd h2 h1
  · next h1 =>
    split at h
    · next h2 => injection h with _ h3; cases h3
    · next h2 =>
      injection h with h3 _
      refine ⟨check_ok (by simpa using h1), h3.symm, ?_⟩
      rw [← h3]
      omega
theorem text_parse {x : Sch} {s : ByteArray} (h : text x = (s, 0)) : parse s = (x, 0, 0) := by
  obtain ⟨h1, h2, h3⟩ := text_good h
  subst h2
  exact parse_text (ok_of_right h1) h3
end Prn
end Go.Proofs.YtmncppnpppdfkaaDoor
