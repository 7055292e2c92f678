/- redressref13: Contrary, before, num, Order, Right (printed by mk_rchk2.py). No condition. -/
import Derived.Test.YtmncppnpppdfkaaDoorChkR1
import Derived.Test.YtmncppnpppdfkaaDoorStrs
set_option linter.unusedVariables false
set_option linter.unusedSimpArgs false
namespace Go.Proofs.YtmncppnpppdfkaaDoor
open Go.RowKit Go.BigFrame
theorem any_take {α : Type} (p : α → Bool) {l : List α} {k : Nat} (h : k < l.length) : (l.take (k + 1)).any p = ((l.take k).any p || p l[k]) := by
  rw [List.take_succ_eq_append_getElem h, List.any_append]
  simp
/-- A small number's text. -/
theorem dig10 (n : Nat) (h : n < 10) : Lib.decDigits n = [(48 + n).toUInt8] := by
  have : n = 0 ∨ n = 1 ∨ n = 2 ∨ n = 3 ∨ n = 4 ∨ n = 5 ∨ n = 6 ∨ n = 7 ∨ n = 8 ∨ n = 9 := by omega
  rcases this with rfl | rfl | rfl | rfl | rfl | rfl | rfl | rfl | rfl | rfl <;> decide +kernel
end Go.Proofs.YtmncppnpppdfkaaDoor
