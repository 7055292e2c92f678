/- An entry's text. -/
import Derived.Test.YtdjccepchleacaaTabA
import Derived.Deep.RegionHeld3
set_option linter.unusedVariables false
set_option linter.unusedSimpArgs false
namespace Go.Proofs.Ytdjccepchleacaa
open Go.RowKit Go.BigFrame
theorem quiet_load_cell {P : Program} {C : World → Prop} {K : Act → Prop} {a : Act} {o : Oper} (ty : TypeId) (x : Operand) (ho : o.op = .load ty x) (p : Addr) (hx : a.eval x = .pointer (some p))
    (v : Value) (hg : ∀ w, C w → w.cell? p = some v) (d : TypeDesc) (hu : P.underlying ty = some d) (hd : (match d with | .struct _ | .array _ _ => true | _ => false) = false)
    (h : K (a.put o.dst v)) : o.quiet P a C K :=
  ⟨_, fun w hw => by
    have hag : (isAgg ty).run P w = .ok false w := by
      unfold isAgg
      rw [Sem.run_bind, run_underlying hu w]
      cases d <;> simp_all
    have hl : (loadVar ty p).run P w = .ok v w := by
      have hc := hg w hw
      simp [loadVar, Sem.run_bind, hag, go_sem, hc]
    unfold Oper.quietAt execOp
    simp only [ho, hx, Instr.loadAt, Instr.sureAddr, Sem.run_bind, Sem.run_pure, Result.andThen_ok, hl]
    exact ⟨rfl, rfl⟩, h⟩
set_option maxRecDepth 100000 in
set_option maxHeartbeats 2000000 in
theorem etext_any (x : Tb.Ent) (hx : Tb.Fit x) (w : World) :
    Calls Try.prog 25 #[x.val] w fun e w' => e = .returned (.string (Tb.ba (Tb.text x))) ∧ Below w.heap.size w w' := by
  obtain ⟨h1, h2, h3⟩ := hx
  obtain ⟨k, v, g⟩ := x
  simp only at h1 h2 h3
  have HT : Hid (Tb.ba (Tb.text ⟨k, v, g⟩) = Tb.ba (Sm.le4 k.size) ++ Tb.ba (Sm.le4 (Tb.vlen ⟨k, v, g⟩)) ++ k ++ v) := Lib.hid (Tb.ext_list (by simp [Tb.text, Tb.ba]))
  have hv : Tb.vlen ⟨k, v, g⟩ < 4294967296 := by unfold Tb.vlen; split <;> first | decide | (simp only; omega) | omega
  have HV : Hid (Tb.vlen ⟨k, v, g⟩ = if g then 2147483648 else v.size) := Lib.hid rfl
  rw [HT.out]
  generalize Tb.vlen ⟨k, v, g⟩ = n at *
  have s1 : (Tb.ba (Sm.le4 k.size)).size = 4 := rfl
  have s2 : (Tb.ba (Sm.le4 n)).size = 4 := rfl
  unfold Tb.Ent.val
  go_enter Try.func25, Try.ntmps25
  cases g with
  | false =>
    have hvn := HV.out
    simp only [Bool.false_eq_true, if_false, if_true] at hvn
    subst hvn
    go_wp2_with fail
    have hb0 : Below w.heap.size w _ := (Below.refl w.heap.size w).alloc (Nat.le_refl _) (.cells #[.string k, .string v, .bool false] 36)
    have hq : Bk _ w.heap.size 36 #[.string k, .string v, .bool false] := Bk.new w 36 #[.string k, .string v, .bool false]
    generalize (w.alloc (.cells #[.string k, .string v, .bool false] 36)) = w1 at hb0 hq ⊢
    have C0 : ∀ w', Bl w1 w' → w'.cell? ⟨w.heap.size, 0, none⟩ = some (.string k) := fun w' h => (hq.below h hq.lt).cell 0
    have C1 : ∀ w', Bl w1 w' → w'.cell? ⟨w.heap.size, 1, none⟩ = some (.string v) := fun w' h => (hq.below h hq.lt).cell 1
    have z1 : (9223372036854775807 < (Tb.ba (Sm.le4 k.size)).size + (Tb.ba (Sm.le4 v.size)).size) = False := eq_false (by rw [Nat.not_lt]; omega)
    have z2 : (9223372036854775807 < (Tb.ba (Sm.le4 k.size)).size + (Tb.ba (Sm.le4 v.size)).size + k.size) = False := eq_false (by rw [Nat.not_lt]; omega)
    have z3 : (9223372036854775807 < (Tb.ba (Sm.le4 k.size)).size + (Tb.ba (Sm.le4 v.size)).size + k.size + v.size) = False := eq_false (by rw [Nat.not_lt]; omega)
    clear h3 hv HV s1 s2
    refine wp_region_bl w1 (by kernel_rfl) (by kernel_rfl) (Bl.refl w1) ?_
    repeat (first | go_big_quiet_step ((intro hb; first | exact calls_bl hb (tput_any _ (by omega) _) | exact calls_bl hb (tput_any 2147483648 (by decide) _))) | (refine wpQuiet_step (fun K hK => ?_); rw [if_pos (by rfl)]; refine quiet_load_cell _ _ rfl _ rfl _ (by assumption) _ Try.underlying9 rfl ?_; go_simp; refine hK _ ?_; clear hK K) | (refine wpQuiet_step (fun K hK => ?_); go_simp; refine ⟨_, fun _ _ => rfl, hK _ ?_⟩; clear hK K))
    refine wpQuiet_nil ?_
    intro w2 hw2
    have hb2 := bl_join hb0 hw2
    clear hw2 hb0 hq C0 C1
    go_wp2_with fail
    go_ret
    exact ⟨rfl, hb2⟩
  | true =>
    have hvn := HV.out
    simp only [Bool.false_eq_true, if_false, if_true] at hvn
    subst hvn
    go_wp2_with fail
    have hb0 : Below w.heap.size w _ := (Below.refl w.heap.size w).alloc (Nat.le_refl _) (.cells #[.string k, .string v, .bool true] 36)
    have hq : Bk _ w.heap.size 36 #[.string k, .string v, .bool true] := Bk.new w 36 #[.string k, .string v, .bool true]
    generalize (w.alloc (.cells #[.string k, .string v, .bool true] 36)) = w1 at hb0 hq ⊢
    have C0 : ∀ w', Bl w1 w' → w'.cell? ⟨w.heap.size, 0, none⟩ = some (.string k) := fun w' h => (hq.below h hq.lt).cell 0
    have C1 : ∀ w', Bl w1 w' → w'.cell? ⟨w.heap.size, 1, none⟩ = some (.string v) := fun w' h => (hq.below h hq.lt).cell 1
    have z1 : (9223372036854775807 < (Tb.ba (Sm.le4 k.size)).size + (Tb.ba (Sm.le4 2147483648)).size) = False := eq_false (by rw [Nat.not_lt]; omega)
    have z2 : (9223372036854775807 < (Tb.ba (Sm.le4 k.size)).size + (Tb.ba (Sm.le4 2147483648)).size + k.size) = False := eq_false (by rw [Nat.not_lt]; omega)
    have z3 : (9223372036854775807 < (Tb.ba (Sm.le4 k.size)).size + (Tb.ba (Sm.le4 2147483648)).size + k.size + v.size) = False := eq_false (by rw [Nat.not_lt]; omega)
    clear h3 hv HV s1 s2
    refine wp_region_bl w1 (by kernel_rfl) (by kernel_rfl) (Bl.refl w1) ?_
    repeat (first | go_big_quiet_step ((intro hb; first | exact calls_bl hb (tput_any _ (by omega) _) | exact calls_bl hb (tput_any 2147483648 (by decide) _))) | (refine wpQuiet_step (fun K hK => ?_); rw [if_pos (by rfl)]; refine quiet_load_cell _ _ rfl _ rfl _ (by assumption) _ Try.underlying9 rfl ?_; go_simp; refine hK _ ?_; clear hK K) | (refine wpQuiet_step (fun K hK => ?_); go_simp; refine ⟨_, fun _ _ => rfl, hK _ ?_⟩; clear hK K))
    refine wpQuiet_nil ?_
    intro w2 hw2
    have hb2 := bl_join hb0 hw2
    clear hw2 hb0 hq C0 C1
    go_wp2_with fail
    go_ret
    exact ⟨rfl, hb2⟩
end Go.Proofs.Ytdjccepchleacaa
