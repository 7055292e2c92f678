import Derived.Test.YtdjccepchleacaaSumWalkC
set_option linter.unusedVariables false
namespace Go.Proofs.Ytdjccepchleacaa
open Go.RowKit Go.BigFrame
namespace Sm
def frame (l : List UInt8) : List UInt8 := le4 l.length ++ le4 (crc (le4 l.length ++ l)) ++ l
theorem frame_length (l : List UInt8) : (frame l).length = l.length + 8 := by simp [frame, le4]
theorem le4_length (n : Nat) : (le4 n).length = 4 := rfl
theorem of_list (s : ByteArray) : ∃ l : List UInt8, s = ⟨l.toArray⟩ := ⟨s.data.toList, by cases s; rfl⟩
end Sm
end Go.Proofs.Ytdjccepchleacaa
