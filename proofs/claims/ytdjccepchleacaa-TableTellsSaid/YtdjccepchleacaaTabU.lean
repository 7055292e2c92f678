/- The document's Build. -/
import Derived.Test.YtdjccepchleacaaTabQ
set_option linter.unusedVariables false
set_option linter.unusedSimpArgs false
namespace Go.Proofs.Ytdjccepchleacaa
open Go.RowKit
theorem Tb.calls_qd {P : Program} {f : FuncId} {args : Array Value} {w : World} {q n : Nat} {v : Value} (h : ∀ w0 : World, Calls P f args w0 fun e w' => e = .returned v ∧ ∃ q, w' = w0.drewN q) :
    Calls P f args (w.drewN (q + n)) fun e w'' => e = .returned v ∧ ∃ m, w'' = w.drewN (q + m) :=
  (h _).mono fun _ _ ⟨he, k, hk⟩ => ⟨he, n + k, by rw [hk, World.drewN_drewN, Nat.add_assoc]⟩
theorem Tb.longR_take (l : List Tb.Ent) : Tb.longR l = (decide (4096 < l.length) || (l.take l.length).any Tb.lg) := by rw [List.take_length]; rfl
set_option maxRecDepth 100000 in
set_option maxHeartbeats 4000000 in
theorem build6_any (A : Option Addr) (n c : Nat) (hm : n ≤ 5000) (l : List Tb.Ent) (hn : l.length = n) (hz : Tb.Small l) (w : World) (hl : Lie w A (l.flatMap Tb.Ent.cells)) :
    Calls Try.prog 17 #[.slice A n c] w fun e w' => e = .returned (.int .i64 (Tb.right l)) ∧ ∃ q, w' = w.drewN q := by
  have Hn := Lib.hid hn
  have Hl := Lib.hid hl
  have Hz := Lib.hid hz
  clear hn hl hz
  obtain ⟨R, HR⟩ : ∃ R, Hid (Tb.right l = R) := ⟨_, Lib.hid rfl⟩
  rw [HR.out]
  have HR1 : Hid (R = if (Tb.longR l || decide (524288 < Tb.tot l)) = true then 3 else if Tb.badF none l then 1 else 0) := Lib.hid (by rw [← HR.out, Tb.right_ref])
  have hsum : Hid (∀ k, Tb.tot (l.take k) ≤ 2 * 4194304 * 5000) := Lib.hid (fun k => by
      have h1 := Tb.tot_le (l.take k) 4194304 (fun x hx => Hz.out x (List.mem_of_mem_take hx))
      have h2 := List.length_take_le k l
      have h2' := List.length_take_le' k l
      have h3 : (2 * 4194304) * (l.take k).length ≤ (2 * 4194304) * 5000 := Nat.mul_le_mul_left _ (by have := Hn.out; omega)
      omega)
  obtain ⟨B0, HB0⟩ : ∃ B0, Hid (decide (4096 < l.length) = B0) := ⟨_, Lib.hid rfl⟩
  have hB0 : decide ((4096 : Int) < (n : Int)) = B0 := by rw [← HB0.out, Hn.out]; simp; omega
  go_enter Try.func17, Try.ntmps17
  go_wp2_with fail
  go_loopw [3, 4, 5] (fun s g i wr => ∃ (k q : Nat) (bl : Bool), k ≤ n ∧ i = .int .i64 k ∧ g = .bool bl ∧ Hid (bl = (B0 || (l.take k).any Tb.lg)) ∧ s = .int .i64 (Tb.tot (l.take k)) ∧ wr = w.drewN q) (fun _ _ i _ => n - (intOf i).toNat)
  case atStart => exact ⟨0, 0, B0, by omega, rfl, rfl, Lib.hid (by simp), rfl, rfl⟩
  case round =>
    obtain ⟨k, q, bl, hk, rfl, rfl, HG, rfl, rfl⟩ := hrel
    have hgl := hsum.out k
    by_cases l1 : k < n
    · have hkl : k < l.length := by rw [Hn.out]; exact l1
      obtain ⟨ag, ao, rfl, hca⟩ := Hl.out.get Tb.Ent.len hkl (by omega)
      have a0 : w.cell? ⟨ag, ao + k * 3, none⟩ = _ := hca 0 _ rfl
      have a1 := hca 1 _ rfl
      have HS := Lib.hid (Tb.tot_take hkl)
      have HY := Lib.hid (Tb.any_take hkl Tb.lg)
      obtain ⟨z1, z2⟩ := Hz.out _ (List.getElem_mem hkl)
      have i0 : (0 : Int) ≤ (k : Int) := by omega
      have i1 : (k : Int) < (n : Int) := by omega
      clear hca
      generalize l[k] = x at *
      obtain ⟨xk, xv, xg⟩ := x
      simp only at a0 a1 z1 z2 HS HY
      have HY2 : Hid (Tb.lg ⟨xk, xv, xg⟩ = (decide (128 < xk.size) || decide (16384 < xv.size))) := Lib.hid rfl
      generalize Tb.tot (l.take k) = G at *
      have s1 : IntKind.i64.wrap ((G : Int) + (xk.size : Int)) = (G : Int) + (xk.size : Int) := IntWalk.i64_in _ (by omega)
      have s2 : IntKind.i64.wrap ((G : Int) + (xk.size : Int) + (xv.size : Int)) = (G : Int) + (xk.size : Int) + (xv.size : Int) := IntWalk.i64_in _ (by omega)
      by_cases g1 : 128 < xk.size
      case' neg => by_cases g2 : 16384 < xv.size
      all_goals cases bl
      all_goals
        go_wp2_with fail
        go_quiet (fail)
        clear s1 s2
        go_wp2_with fail
        go_roundw
        case rel => exact ⟨k + 1, _, _, by omega, by go_num, rfl, Lib.hid (by rw [HY.out, ← Bool.or_assoc, ← HG.out, HY2.out]; (try simp [*]); (try omega)), by rw [HS.out]; go_num, rfl⟩
        case measure => simp [intOf]; omega
    · obtain rfl : k = n := by omega
      have htk : l.take k = l := List.take_of_length_le (by rw [Hn.out]; exact Nat.le_refl _)
      rw [htk] at HG ⊢
      have HL : Hid (bl = Tb.longR l) := Lib.hid (by rw [HG.out]; unfold Tb.longR; rw [HB0.out])
      rw [htk] at hgl
      have HR2 : Hid (R = if (bl || decide (524288 < Tb.tot l)) = true then 3 else if Tb.badF none l then 1 else 0) := Lib.hid (by rw [HR1.out, HL.out])
      clear HG HL htk HR1 hsum HB0 hB0 hk l1
      generalize Tb.tot l = G at *
      by_cases hbad : (bl || decide (524288 < G)) = true
      · have HE : Hid (R = 3) := Lib.hid (by rw [HR2.out, if_pos hbad])
        clear HR2
        cases bl
        case' false => have hbad2 : (524288 : Int) < (G : Int) := by simp at hbad; omega
        all_goals
          clear hbad
          go_wp2_with fail
          go_ret
          exact ⟨by rw [HE.out]; rfl, _, rfl⟩
      have HE : Hid (R = if Tb.badF none l then 1 else 0) := Lib.hid (by rw [HR2.out, if_neg hbad])
      obtain rfl : bl = false := by cases bl <;> simp_all
      have hbad2 : ¬ (524288 : Int) < (G : Int) := by simp at hbad; omega
      clear HR2 hbad
      go_wp2_with fail
      go_loopw [6] (fun i wr => ∃ j p : Nat, j ≤ k ∧ i = .int .i64 j ∧ Hid (Tb.badF none l = Tb.badF (Tb.prev l j) (l.drop j)) ∧ wr = w.drewN p) (fun i _ => k - (intOf i).toNat)
      case atStart => exact ⟨0, q, by omega, rfl, Lib.hid rfl, rfl⟩
      case round =>
        obtain ⟨j, p, hj, rfl, HB, rfl⟩ := hrel
        by_cases hlt : j < k
        · have hkl : j < l.length := by rw [Hn.out]; exact hlt
          obtain ⟨ag, ao, rfl, hca⟩ := Hl.out.get Tb.Ent.len hkl (by omega)
          have a0 : w.cell? ⟨ag, ao + j * 3, none⟩ = _ := hca 0 _ rfl
          have a1 := hca 1 _ rfl
          have a2 := hca 2 _ rfl
          have hki : (j : Int) < (k : Int) := by omega
          have HD : Hid (Tb.badF (Tb.prev l j) (l.drop j) = (l[j].key.toList.isEmpty || (l[j].gone && !l[j].value.toList.isEmpty) || Tb.notUp (Tb.prev l j) l[j].key || Tb.badF (some l[j]) (l.drop (j + 1)))) := Lib.hid (by rw [Tb.drop_get hkl, Tb.badF_cons])
          have HP : Hid (Tb.prev l (j + 1) = some l[j]) := Lib.hid (by unfold Tb.prev; rw [if_neg (by omega), Nat.add_sub_cancel, List.getElem?_eq_getElem hkl])
          obtain ⟨z1, _⟩ := Hz.out _ (List.getElem_mem hkl)
          have HL : Hid (0 < j → ∃ y : Tb.Ent, Tb.prev l j = some y ∧ y.key.size ≤ 4194304 ∧ w.cell? ⟨ag, ao + (j - 1) * 3, none⟩ = some (.string y.key)) := Lib.hid (fun h0 => by
            obtain ⟨ag', ao', e', hca'⟩ := Hl.out.get Tb.Ent.len (show j - 1 < l.length by omega) (by omega)
            injection e' with e'
            injection e' with e1 e2
            subst e1 e2
            exact ⟨l[j - 1], by unfold Tb.prev; rw [if_neg (by omega), List.getElem?_eq_getElem (by omega)], (Hz.out _ (List.getElem_mem _)).1, hca' 0 _ rfl⟩)
          clear hca
          generalize l[j] = x at *
          obtain ⟨xk, xv, xg⟩ := x
          simp only at a0 a1 a2 HD HP z1
          have HX : Hid (Tb.badF none l = (xk.toList.isEmpty || (xg && !xv.toList.isEmpty) || Tb.notUp (Tb.prev l j) xk || Tb.badF (some ⟨xk, xv, xg⟩) (l.drop (j + 1)))) := Lib.hid (by rw [HB.out, HD.out])
          clear HB HD
          have e0 : ∀ s : ByteArray, s.toList.isEmpty = (s.size == 0) := fun s => by rw [Lib.toList_data, Bool.eq_iff_iff, List.isEmpty_iff, beq_iff_eq, ← List.length_eq_zero_iff, Tb.list_len]
          have HX2 : Hid (Tb.badF none l = ((xk.size == 0) || (xg && !(xv.size == 0)) || Tb.notUp (Tb.prev l j) xk || Tb.badF (some ⟨xk, xv, xg⟩) (l.drop (j + 1)))) := Lib.hid (by rw [HX.out, e0, e0])
          clear HX e0
          by_cases e1 : xk.size = 0
          · have e2 : (xk.size : Int) = 0 := by omega
            have HE2 : Hid (R = 1) := Lib.hid (by rw [HE.out, HX2.out, e1]; rfl)
            clear HX2 HP HL
            go_wp2_with fail
            go_ret
            exact ⟨by rw [HE2.out]; rfl, _, rfl⟩
          by_cases e2 : xg = true ∧ xv.size ≠ 0
          · obtain ⟨rfl, e3⟩ := e2
            have e4 : ¬ (xk.size : Int) = 0 := by omega
            have e5 : (0 : Int) < (xv.size : Int) := by omega
            have HE2 : Hid (R = 1) := Lib.hid (by rw [HE.out, HX2.out]; simp [e1, e3])
            clear HX2 HP HL
            go_wp2_with fail
            go_ret
            exact ⟨by rw [HE2.out]; rfl, _, rfl⟩
          have e4 : ((xk.size : Int) == 0) = false := by rw [beq_eq_false_iff_ne]; omega
          have HE2 : Hid (Tb.badF none l = (Tb.notUp (Tb.prev l j) xk || Tb.badF (Tb.prev l (j + 1)) (l.drop (j + 1)))) := Lib.hid (by
            rw [HX2.out, HP.out, beq_eq_false_iff_ne.2 e1]
            cases xg
            · rfl
            · have e3 : xv.size = 0 := by simpa using e2
              rw [e3]; rfl)
          clear HX2 HP
          have e6 : xg = false ∨ (xg = true ∧ ¬ 0 < xv.size) := by
            cases xg
            · exact .inl rfl
            · have e3 : xv.size = 0 := by simpa using e2
              exact .inr ⟨rfl, by omega⟩
          clear e2
          by_cases hj0 : j = 0
          · have hj1 : ¬ 0 < j := by omega
            have HN : Hid (Tb.notUp (Tb.prev l j) xk = false) := Lib.hid (by subst hj0; rfl)
            clear hj0 HL
            obtain rfl | ⟨rfl, e7⟩ := e6
            all_goals
              go_wp2_with fail
              go_quiet (fail)
              go_wp2_with fail
              go_roundw
              case rel => exact ⟨j + 1, _, by omega, by go_num, Lib.hid (by rw [HE2.out, HN.out]; rfl), rfl⟩
              case measure => simp [intOf]; omega
          · obtain ⟨y, HY, hy, ay⟩ := HL.out (by omega)
            have HN : Hid (Tb.notUp (Tb.prev l j) xk = !Tb.less y.key xk) := Lib.hid (by rw [HY, Tb.notUp_less])
            have hj1 : (0 : Int) < (j : Int) := by omega
            have hj0' : 0 < j := by omega
            have hj5 : 1 ≤ j := by omega
            have hj6 : (1 : Int) ≤ (j : Int) := by omega
            have hj3 : (0 : Int) ≤ (j : Int) - 1 := by omega
            have hj4 : (j : Int) - 1 < (k : Int) := by omega
            have hj2 : ((j : Int) - 1).toNat = j - 1 := by omega
            have hj7 : IntKind.i64.wrap ((j : Int) - 1) = (j : Int) - 1 := IntWalk.i64_in _ (by omega)
            clear HY HL hj0
            obtain ⟨yk, yv, yg⟩ := y
            simp only at ay HN hy
            have b0 : w.cell? ⟨ag, ao + j * 3, none⟩ = some (.string xk) := a0
            have HC : Hid (∀ w : World, Calls Try.prog 36 #[.string yk, .string xk] w fun e w' => e = .returned (.bool (Tb.less yk xk)) ∧ ∃ q, w' = w.drewN q) := Lib.hid (fun w => less5_any yk xk (by unfold maxLen; omega) (by unfold maxLen; omega) w)
            cases e8 : Tb.less yk xk
            all_goals have HN2 := Lib.hid (HN.out.trans (congrArg (!·) e8))
            all_goals
              rw [e8] at HC
              clear e8 HN
            all_goals obtain rfl | ⟨rfl, e7⟩ := e6
            all_goals
              go_wp2_with fail
              go_quiet ((go_at_call 36; go_must (exact Tb.calls_qd HC.out)))
              go_wp2_with fail
            all_goals try (
              go_roundw
              case rel => exact ⟨j + 1, _, by omega, by go_num, Lib.hid (by rw [HE2.out, HN2.out]; rfl), rfl⟩
              case measure => simp [intOf]; omega)
            all_goals
              go_ret
              refine ⟨?_, by simp only [World.drewN_drewN]; exact ⟨_, rfl⟩⟩
              rw [HE.out, HE2.out, HN2.out]
              rfl
        · obtain rfl : j = k := by omega
          have HF : Hid (R = 0) := Lib.hid (by rw [HE.out, HB.out, List.drop_of_length_le (by rw [Hn.out]; exact Nat.le_refl _)]; rfl)
          go_wp2_with fail
          go_ret
          exact ⟨by rw [HF.out]; rfl, _, rfl⟩
end Go.Proofs.Ytdjccepchleacaa
