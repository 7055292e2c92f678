import Derived.Test.YtdjccepchleacaaSumWalkF
set_option linter.unusedVariables false
namespace Go.Proofs.Ytdjccepchleacaa
open Go.RowKit Go.BigFrame
attribute [local go_sem] bl_imp
namespace Sm
theorem crc_known : crc [49, 50, 51, 52, 53, 54, 55, 56, 57] = 3808858755 := by decide +kernel
theorem print_known : print [97] = 12638187200555641996 := by decide +kernel
theorem next_known : nextR (frame [97, 98] ++ [120]) 0 = some [97, 98] := by
  have := nextR_frame [] [97, 98] [120] (by decide)
  exact this
theorem next_known_v : nextV 0 (nextR (frame [97, 98] ++ [120]) 0) = .tuple #[.string ⟨#[97, 98]⟩, .int .i64 10, .bool true] := by
  rw [next_known]; rfl
end Sm
end Go.Proofs.Ytdjccepchleacaa
