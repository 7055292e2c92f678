/- The laws' own: Great, one. -/
import Derived.Test.YtjhejnhjpjmnmaaDoorEnvD
import Derived.Laws.ResultCell
set_option linter.unusedVariables false
namespace Go.Proofs.YtjhejnhjpjmnmaaDoor
open Go.RowKit
def Ev.great (l : Ev.Letter) : Bool := decide (6000 < l.key.size) || decide (6000 < l.svc.size) || decide (6000 < l.mth.size) || decide (6000 < l.body.size)
set_option maxRecDepth 100000 in
set_option maxHeartbeats 4000000 in
theorem great_any (l : Ev.Letter) (w : World) :
    Calls Tryd.prog 9 #[l.val] w fun e w' => e = .returned (.bool (Ev.great l)) ∧ Below w.heap.size w w' := by
  obtain ⟨k0, k1, k2, k3, k4, k5, k6, k7, k8, k9⟩ := l
  unfold Ev.Letter.val
  go_enter Tryd.func9, Tryd.ntmps9
  go_wp2_with fail
  all_goals (go_ret; refine ⟨?_, ?_⟩)
  all_goals try exact (Below.refl w.heap.size w).alloc (Nat.le_refl _) _
  all_goals refine ret_bool ?_
  all_goals ((repeat (rename (∀ (a : Act) (w : World), Code.wp _ _ _ a w → _) => HKx; clear HKx)); (repeat (rename (Act → World → Prop) => HKx; clear HKx)); (repeat (rename (Exit → Act → World → Prop) => HKx; clear HKx)))
  all_goals (simp only [Ev.great]; grind)
end Go.Proofs.YtjhejnhjpjmnmaaDoor
