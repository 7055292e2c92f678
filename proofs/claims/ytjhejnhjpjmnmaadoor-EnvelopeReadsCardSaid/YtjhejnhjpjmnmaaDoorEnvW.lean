/- The laws' own letter, and wakes: it is packed, and read again. -/
import Derived.Test.YtjhejnhjpjmnmaaDoorEnvU
import Derived.Test.YtjhejnhjpjmnmaaDoorEnvV
import Derived.Test.YtjhejnhjpjmnmaaDoorEnvTMath
set_option linter.unusedVariables false
namespace Go.Proofs.YtjhejnhjpjmnmaaDoor
open Go.RowKit
namespace Ev
/-- The letter of the examples. -/
def few : Letter := ⟨1, 0, 1, 300, ⟨#[107]⟩, 5, ⟨#[83]⟩, ⟨#[116]⟩, 0, ⟨#[120]⟩⟩
def fewB : ByteArray := ba (bytes few)
theorem few_ok : few.ok := by unfold few Letter.ok; decide
theorem few_right : right few = true := by decide +kernel
theorem few_size : fewB.size = 26 := by decide +kernel
theorem few_head : fewB.extract 0 22 = ⟨#[1, 0, 1, 172, 2, 1, 107, 0, 0, 0, 0, 0, 0, 0, 5, 1, 83, 1, 116, 0, 1, 120]⟩ := by decide +kernel
theorem few_pack : pack few = (fewB, 0) := by unfold pack; rw [if_pos few_right]; rfl
theorem few_read : readP fewB = (few, 0) := readP_bytes few_ok few_right
end Ev
set_option maxRecDepth 100000 in
set_option maxHeartbeats 4000000 in
theorem few_any (w : World) : Calls Tryd.prog 18 #[] w fun e w' => e = .returned Ev.few.val ∧ Below w.heap.size w w' := by
  go_enter Tryd.func18, Tryd.ntmps18
  go_wp2_with fail
  refine bodyPost_ret (v := Ev.few.val) ?_ rfl ⟨rfl, ?_⟩
  · ((repeat (rename (∀ (a : Act) (w : World), Code.wp _ _ _ a w → _) => HKx; clear HKx)); (repeat (rename (Act → World → Prop) => HKx; clear HKx)); (repeat (rename (Exit → Act → World → Prop) => HKx; clear HKx)))
    rw [results_cell1 rfl]
    go_simp
    rfl
  · go_grown
end Go.Proofs.YtjhejnhjpjmnmaaDoor
