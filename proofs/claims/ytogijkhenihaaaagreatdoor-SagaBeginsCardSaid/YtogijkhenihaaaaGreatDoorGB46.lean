/- SagaBegins: closed facts of its row, each by the kernel. No condition. -/
import Derived.Test.YtogijkhenihaaaaGreatDoorCards
import Derived.Test.YtogijkhenihaaaaGreatDoorTie
import Derived.ProofKit
import Derived.LaidMore
import Derived.OpenShut
import Derived.ShutString
import Derived.ChangeOld
import Derived.Below
import Derived.Stop.Joined
import Derived.SevenTiedAt
set_option linter.all false
set_option maxRecDepth 100000
set_option maxHeartbeats 0
namespace Go.Proofs.YtogijkhenihaaaaGreatDoor
namespace sagaBegins
open Go.ChangeShapes Go.WideShapes Go.ChangeAt Go.RowKit
theorem q1:Tryz.pinned.checked.prog.inPlace 4=Rows.sagaBeginsRow.inPlace:=by kernel_rfl
theorem q2:Tryz.pinned.checked.prog.unfollowed 4=Rows.sagaBeginsRow.unfollowed:=by kernel_rfl
theorem q3:Tryz.pinned.checked.prog.recurses 4=Rows.sagaBeginsRow.recurses:=by kernel_rfl
theorem q4:Tryz.pinned.checked.prog.varsNamed 4=Rows.sagaBeginsRow.named:=by kernel_rfl
theorem closed:joinedFacts Tryz.pinned.checked.prog 4 Tryz.f4 Rows.sagaBeginsSpec Rows.sagaBeginsRow=true:=by
 unfold joinedFacts;rw[q1,q2,q3,q4];kernel_rfl
theorem q5:Tryz.pinned.checked.prog.funcNamed Rows.sagaBeginsRow.func=some 4:=by kernel_rfl
theorem q6:Tryz.f4.isInstance Tryz.pinned.checked.prog Rows.sagaBeginsRow.origin Rows.sagaBeginsRow.targs:=of_decide_eq_true (by kernel_rfl)
theorem q7:Tryz.f4.isWrapper Tryz.pinned.checked.prog Rows.sagaBeginsRow.wrapper Rows.sagaBeginsRow.mainSum:=by unfold Func.isWrapper;first|(rw[if_pos (by decide +kernel)];kernel_rfl)|(rw[if_neg (by decide +kernel)];exact⟨rfl,rfl⟩)
end sagaBegins
