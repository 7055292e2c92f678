/- EnvelopeAnswers: the letter that answers one, the program's and the document's. -/
import Derived.Test.YtjhejnhjpjmnmaaDoorEnvW2
import Derived.Test.YtjhejnhjpjmnmaaDoorEnvOpen
set_option linter.unusedVariables false
namespace Go.Proofs.YtjhejnhjpjmnmaaDoor
open Go.RowKit
set_option maxRecDepth 100000 in
set_option maxHeartbeats 4000000 in
theorem answers_walk (l : Ev.Letter) (code : Int) (body : ByteArray) (h0 : l.ok) (hx : (Lit.int .i64 l.from_).wf = true) (hy : (Lit.int .i64 l.to_).wf = true) (hz : (Lit.int .i64 l.code).wf = true)
    (hs : l.key.size ≤ maxLen) (hu : l.svc.size ≤ maxLen) (hm : l.mth.size ≤ maxLen) (hb : l.body.size ≤ maxLen) (hc : (Lit.int .i64 code).wf = true) (ht : body.size ≤ maxLen) (w : World) (hk : Tk.KW w) :
    Calls Tryd.prog 7 #[l.val, .int .i64 code, .string body] w fun e w' => e = .returned (.bool true) ∧ Below w.heap.size w w' := by
  have HA := Lib.hid (fun w' => answer_any l code body w')
  have HR := Lib.hid (fun w' => ranswer_any l code body w')
  obtain ⟨k0, k1, k2, k3, k4, k5, k6, k7, k8, k9⟩ := l
  clear h0 hx hy hz hs hu hm hb hc ht
  unfold Ev.answer at HA HR
  simp only at HA HR
  generalize (if k0 = 1 then 2 else if k0 = 3 then 4 else 0 : Nat) = kd at HA HR
  unfold Ev.Letter.val at HA HR ⊢
  simp only at HA HR
  go_enter Tryd.func7, Tryd.ntmps7
  go_wp2_with fail
  have hq : Bk _ w.heap.size 24 _ := Bk.new w 24 #[.int .u8 k0, .int .i64 k1, .int .i64 k2, .int .u64 k3, .string k4, .int .u64 k5, .string k6, .string k7, .int .i64 k8, .string k9]
  have hbC : Below w.heap.size w _ := (Below.refl w.heap.size w).alloc (Nat.le_refl _) (.cells #[.int .u8 k0, .int .i64 k1, .int .i64 k2, .int .u64 k3, .string k4, .int .u64 k5, .string k6, .string k7, .int .i64 k8, .string k9] 24)
  generalize (w.alloc (.cells #[.int .u8 k0, .int .i64 k1, .int .i64 k2, .int .u64 k3, .string k4, .int .u64 k5, .string k6, .string k7, .int .i64 k8, .string k9] 24)) = w4 at *
  have HL : ∀ w', Bl w4 w' → Bk w' w.heap.size 24 _ := fun w' hw' => hq.below hw' hq.lt
  refine wp_region_bl w4 (by kernel_rfl) (by kernel_rfl) (Bl.refl w4) ?_
  repeat (first | go_big_quiet_step ((intro hb; first | (go_at_call 16; exact calls_bl hb (HA.out _)) | (go_at_call 17; exact calls_bl hb (HR.out _)) | exact calls_bl hb (wakes_any _ (hk.below (bl_join hbC hb))))) | (refine wpQuiet_step (fun K hK => ?_); rw [if_pos (by rfl)]; refine quiet_load_row _ _ rfl _ rfl _ _ _ (by assumption) Tryd.underlying24 rfl (by kernel_rfl) ?_; go_simp; refine hK _ ?_; clear hK K) | (refine wpQuiet_step (fun K hK => ?_); go_simp; refine ⟨_, fun _ _ => rfl, hK _ ?_⟩; clear hK K))
  refine wpQuiet_nil ?_
  intro w5 hw5
  have hbD : Below w.heap.size w w5 := bl_join hbC hw5
  clear hw5 hbC HL hq
  go_wp2_with fail
  go_ret
  exact ⟨rfl, hbD⟩
end Go.Proofs.YtjhejnhjpjmnmaaDoor
