import Derived.Test.YtdjccepchleacaaSumFrames
set_option linter.unusedVariables false
namespace Go.Proofs.Ytdjccepchleacaa
open Go.RowKit Go.BigFrame
attribute [local go_sem] bl_imp
namespace Sm
theorem size_len (s : ByteArray) : s.size = s.data.toList.length := by simp
end Sm
namespace Sm
theorem neq_true {a b : Nat} (h : ¬ a = b) : ((a : Int) != (b : Int)) = true := by rw [bne_iff_ne]; omega
theorem neq_false {a b : Nat} (h : a = b) : ((a : Int) != (b : Int)) = false := by rw [h]; simp
end Sm
end Go.Proofs.Ytdjccepchleacaa
