/- prints.Type (printed by gen_prnt.py). No condition but the keywords' table. -/
import Derived.Test.YtmncppnpppdfkaaGreatDoorPTPrnC
set_option linter.unusedVariables false
set_option linter.unusedSimpArgs false
namespace Go.Proofs.YtmncppnpppdfkaaGreatDoor
open Go.RowKit Go.BigFrame
namespace Prn
open Go.Proofs.YtmncppnpppdfkaaGreatDoor.Id Go.Proofs.YtmncppnpppdfkaaGreatDoor.Chk
theorem sorts_size {t : List Srt} (h : okP t = true) : ∀ u ∈ t.map sortW, u.size ≤ 32 := fun u hu => by
  obtain ⟨x, hx, rfl⟩ := List.mem_map.1 hu
  exact (own_sorts h x hx).2
end Prn
end Go.Proofs.YtmncppnpppdfkaaGreatDoor
