/- Answer, the program's and the reference's; the laws' own letter. -/
import Derived.Test.YtjhejnhjpjmnmaaDoorEnvD
import Derived.Laws.ResultCell
set_option linter.unusedVariables false
namespace Go.Proofs.YtjhejnhjpjmnmaaDoor
open Go.RowKit
theorem results_cell1 {fn : Func} {p : Tmp} {ty : TypeId} (h : fn.results = #[.cell p ty]) (tmps : Array Value) (P : Program) (w : World) :
    (results fn tmps).run P w = ((asAddr (tmps.getD p undef)).run P w).andThen fun a w₁ => (loadVar ty a).run P w₁ := by
  simp only [results, h]
  simp [Sem.run_bind, Result.andThen]
def Ev.answer (l : Ev.Letter) (code : Int) (body : ByteArray) : Ev.Letter := ⟨if l.kind = 1 then 2 else if l.kind = 3 then 4 else 0, l.to_, l.from_, l.seq, l.key, l.print, ByteArray.empty, ByteArray.empty, code, body⟩
set_option maxRecDepth 100000 in
set_option maxHeartbeats 4000000 in
theorem answer_any (l : Ev.Letter) (code : Int) (body : ByteArray) (w : World) :
    Calls Tryd.prog 16 #[l.val, .int .i64 code, .string body] w fun e w' => e = .returned (Ev.answer l code body).val ∧ Below w.heap.size w w' := by
  obtain ⟨k0, k1, k2, k3, k4, k5, k6, k7, k8, k9⟩ := l
  unfold Ev.Letter.val
  go_enter Tryd.func16, Tryd.ntmps16
  go_wp2_with fail
  all_goals
    refine bodyPost_ret (v := (Ev.answer ⟨k0, k1, k2, k3, k4, k5, k6, k7, k8, k9⟩ code body).val) ?_ rfl ⟨rfl, ?_⟩
    · ((repeat (rename (∀ (a : Act) (w : World), Code.wp _ _ _ a w → _) => HKx; clear HKx)); (repeat (rename (Act → World → Prop) => HKx; clear HKx)); (repeat (rename (Exit → Act → World → Prop) => HKx; clear HKx)))
      rw [results_cell1 rfl]
      go_simp
      simp_all [Ev.answer, Ev.Letter.val]
      exact ⟨by split <;> first | rfl | omega | (split <;> first | rfl | omega), rfl⟩
    · go_grown
set_option maxRecDepth 100000 in
set_option maxHeartbeats 4000000 in
theorem ranswer_any (l : Ev.Letter) (code : Int) (body : ByteArray) (w : World) :
    Calls Tryd.prog 17 #[l.val, .int .i64 code, .string body] w fun e w' => e = .returned (Ev.answer l code body).val ∧ Below w.heap.size w w' := by
  obtain ⟨k0, k1, k2, k3, k4, k5, k6, k7, k8, k9⟩ := l
  unfold Ev.Letter.val
  go_enter Tryd.func17, Tryd.ntmps17
  go_wp2_with fail
  all_goals
    refine bodyPost_ret (v := (Ev.answer ⟨k0, k1, k2, k3, k4, k5, k6, k7, k8, k9⟩ code body).val) ?_ rfl ⟨rfl, ?_⟩
    · ((repeat (rename (∀ (a : Act) (w : World), Code.wp _ _ _ a w → _) => HKx; clear HKx)); (repeat (rename (Act → World → Prop) => HKx; clear HKx)); (repeat (rename (Exit → Act → World → Prop) => HKx; clear HKx)))
      rw [results_cell1 rfl]
      go_simp
      simp_all [Ev.answer, Ev.Letter.val]
      exact ⟨by split <;> first | rfl | omega | (split <;> first | rfl | omega), rfl⟩
    · go_grown
end Go.Proofs.YtjhejnhjpjmnmaaDoor
