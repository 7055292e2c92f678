/- wakes: a letter, there and back. -/
import Derived.Test.YtjhejnhjpjmnmaaDoorEnvW
import Derived.Test.YtjhejnhjpjmnmaaDoorEnvT
import Derived.Test.YtjhejnhjpjmnmaaDoorQL
set_option linter.unusedVariables false
namespace Go.Proofs.YtjhejnhjpjmnmaaDoor
open Go.RowKit
set_option maxRecDepth 100000 in
set_option maxHeartbeats 4000000 in
theorem wakes_any (w : World) (hk : Tk.KW w) : Calls Tryd.prog 10 #[] w fun e w' => e = .returned (.bool true) ∧ Below w.heap.size w w' := by
  have hp := (pack_any Ev.few Ev.few_ok (by decide))
  rw [Ev.few_pack] at hp
  have hr := read_any Ev.fewB (by rw [Ev.few_size]; decide)
  rw [Ev.few_read] at hr
  have HS : Hid (Ev.fewB.size = 26) := Lib.hid Ev.few_size
  have HH : Hid (Ev.fewB.extract 0 22 = _) := Lib.hid Ev.few_head
  have HP := Lib.hid hp
  have HR := Lib.hid hr
  clear hp hr
  generalize Ev.fewB = fb at *
  go_enter Tryd.func10, Tryd.ntmps10
  go_wp2_with fail
  refine (few_any _).mono ?_
  rintro e w1 ⟨rfl, hb1⟩
  go_wp2_with fail
  refine (HP.out _ (hk.below hb1)).mono ?_
  rintro e w2 ⟨rfl, hb2⟩
  have hbA : Below w.heap.size w w2 := bl_join hb1 hb2
  clear hb1 hb2
  go_wp2_with fail
  refine (HR.out _ (hk.below hbA)).mono ?_
  rintro e w3 ⟨rfl, hb3⟩
  have hbB : Below w.heap.size w w3 := bl_join hbA hb3
  clear hbA hb3
  have hne : Ev.few.val = .agg #[.int .u8 1, .int .i64 0, .int .i64 1, .int .u64 300, .string ⟨#[107]⟩, .int .u64 5, .string ⟨#[83]⟩, .string ⟨#[116]⟩, .int .i64 0, .string ⟨#[120]⟩] := rfl
  rw [hne]
  go_wp2_with fail
  have hq : Bk _ w3.heap.size 24 _ := Bk.new w3 24 #[.int .u8 1, .int .i64 0, .int .i64 1, .int .u64 300, .string ⟨#[107]⟩, .int .u64 5, .string ⟨#[83]⟩, .string ⟨#[116]⟩, .int .i64 0, .string ⟨#[120]⟩]
  have hbC : Below w.heap.size w _ := hbB.alloc hbB.size (.cells #[.int .u8 1, .int .i64 0, .int .i64 1, .int .u64 300, .string ⟨#[107]⟩, .int .u64 5, .string ⟨#[83]⟩, .string ⟨#[116]⟩, .int .i64 0, .string ⟨#[120]⟩] 24)
  generalize (w3.alloc (.cells #[.int .u8 1, .int .i64 0, .int .i64 1, .int .u64 300, .string ⟨#[107]⟩, .int .u64 5, .string ⟨#[83]⟩, .string ⟨#[116]⟩, .int .i64 0, .string ⟨#[120]⟩] 24)) = w4 at *
  have hs := HS.out
  have hh := HH.out
  have HL : ∀ w', Bl w4 w' → Bk w' w3.heap.size 24 _ := fun w' hw' => hq.below hw' hq.lt
  have HC := Lib.hid (fun w' => few_any w')
  rw [hne] at HC
  refine wp_region_bl w4 (by kernel_rfl) (by kernel_rfl) (Bl.refl w4) ?_
  repeat (first | go_big_quiet_step ((intro hb; exact calls_bl hb (HC.out _))) | (refine wpQuiet_step (fun K hK => ?_); rw [if_pos (by rfl)]; refine quiet_load_row _ _ rfl _ rfl _ _ _ (by assumption) Tryd.underlying24 rfl (by kernel_rfl) ?_; go_simp; refine hK _ ?_; clear hK K) | (refine wpQuiet_step (fun K hK => ?_); go_simp; refine ⟨_, fun _ _ => rfl, hK _ ?_⟩; clear hK K))
  refine wpQuiet_nil ?_
  intro w5 hw5
  have hbD : Below w.heap.size w w5 := bl_join hbC hw5
  clear hw5 hbC HL hq
  go_wp2_with fail
  go_ret
  exact ⟨rfl, hbD⟩
end Go.Proofs.YtjhejnhjpjmnmaaDoor
