/- table.right. -/
import Derived.Test.YtdjccepchleacaaTabB
import Derived.Test.YtdjccepchleacaaOpen
import Derived.IntWalk
set_option linter.unusedVariables false
set_option linter.unusedSimpArgs false
namespace Go.Proofs.Ytdjccepchleacaa
open Go.RowKit
namespace Tb
theorem Ent.len (t : Ent) : t.cells.length = 3 := rfl
theorem Ent.one (t : Ent) : ∀ u ∈ t.cells, u.oneCell' = true := by
  intro u hu
  simp [Ent.cells] at hu
  rcases hu with rfl | rfl | rfl <;> rfl
/-- Sizes that no sum goes over with. -/
def Small (l : List Ent) : Prop := ∀ x ∈ l, x.key.size ≤ 4194304 ∧ x.value.size ≤ 4194304
theorem drop_get {l : List Ent} {k : Nat} (h : k < l.length) : l.drop k = l[k] :: l.drop (k + 1) := List.drop_eq_getElem_cons h
def notUp (p : Option Ent) (k : ByteArray) : Bool := match p with
  | none => false
  | some y => less k y.key || k.toList == y.key.toList
theorem badF_cons (p : Option Ent) (x : Ent) (r : List Ent) : badF p (x :: r) = (x.key.toList.isEmpty || (x.gone && !x.value.toList.isEmpty) || notUp p x.key || badF (some x) r) := by
  cases p <;> rfl
def prev (l : List Ent) (k : Nat) : Option Ent := if k = 0 then none else l[k - 1]?
end Tb
set_option maxRecDepth 100000 in
set_option maxHeartbeats 4000000 in
theorem tright_any (A : Option Addr) (n c : Nat) (l : List Tb.Ent) (hn : l.length = n) (hm : n ≤ 9223372036854775807) (hz : Tb.Small l) (w : World) (hl : Lie w A (l.flatMap Tb.Ent.cells)) :
    Calls Try.prog 23 #[.slice A n c] w fun e w' => e = .returned (.int .i64 (Tb.right l)) ∧ Below w.heap.size w w' := by
  have Hn := Lib.hid hn
  have Hl := Lib.hid hl
  have Hz := Lib.hid hz
  clear hn hl hz
  obtain ⟨R, HR⟩ : ∃ R, Hid (Tb.right l = R) := ⟨_, Lib.hid rfl⟩
  rw [HR.out]
  by_cases h4 : 4096 < n
  · have h4i : (4096 : Int) < (n : Int) := by omega
    go_enter Try.func23, Try.ntmps23
    go_wp2_with fail
    go_ret
    refine ⟨?_, Below.refl _ _⟩
    rw [← HR.out]
    unfold Tb.right
    rw [if_pos (by rw [Hn.out]; omega)]
    rfl
  have h4i : ¬ (4096 : Int) < (n : Int) := by omega
  have HR2 : Hid (Tb.right l = if Tb.longF 0 l then 3 else if Tb.badF none l then 1 else 0) := Lib.hid (by unfold Tb.right; rw [if_neg (by rw [Hn.out]; omega)])
  go_enter Try.func23, Try.ntmps23
  go_wp2_with fail
  go_loopw [3, 13] (fun s i wr => ∃ k a : Nat, k ≤ n ∧ a ≤ 524288 ∧ i = .int .i64 k ∧ s = .int .i64 a ∧ Hid (Tb.longF 0 l = Tb.longF a (l.drop k)) ∧ Below w.heap.size w wr) (fun _ i _ => n - (intOf i).toNat)
  case atStart => exact ⟨0, 0, by omega, by omega, rfl, rfl, Lib.hid rfl, Below.refl _ _⟩
  case round =>
    obtain ⟨k, a, hk, ha, rfl, rfl, HF, hb⟩ := hrel
    have hbz := hb.size
    by_cases hlt : k < n
    · have hkl : k < l.length := by rw [Hn.out]; exact hlt
      obtain ⟨ag, ao, rfl, hca⟩ := (Hl.out.below hb).get Tb.Ent.len hkl (by omega)
      have a0 : wr.cell? ⟨ag, ao + k * 3, none⟩ = _ := hca 0 _ rfl
      have a1 := hca 1 _ rfl
      have a2 := hca 2 _ rfl
      have hki : (k : Int) < (n : Int) := by omega
      obtain ⟨z1, z2⟩ := Hz.out _ (List.getElem_mem hkl)
      have HD : Hid (Tb.longF a (l.drop k) = (decide (128 < l[k].key.size) || decide (16384 < l[k].value.size) || decide (524288 < a + (l[k].key.size + l[k].value.size)) || Tb.longF (a + (l[k].key.size + l[k].value.size)) (l.drop (k + 1)))) := Lib.hid (by rw [Tb.drop_get hkl]; rfl)
      clear hca
      generalize l[k] = x at *
      obtain ⟨xk, xv, xg⟩ := x
      simp only at a0 a1 a2 z1 z2 HD
      go_wp2_with fail
      case roundEnd =>
        go_roundw
        case rel => exact ⟨k + 1, a + (xk.size + xv.size), by omega, by omega, by go_num, by go_num, Lib.hid (by rw [HF.out, HD.out]; simp; omega), hb.alloc hbz _⟩
        case measure => simp [intOf]; omega
      all_goals
        go_ret
        refine ⟨?_, hb.alloc hbz _⟩
        rw [← HR.out, HR2.out, HF.out, HD.out, if_pos (by simp; omega)]
        rfl
    · obtain rfl : k = n := by omega
      have HF0 : Hid (Tb.longF 0 l = false) := Lib.hid (by rw [HF.out, List.drop_of_length_le (by rw [Hn.out]; exact Nat.le_refl _)]; rfl)
      have HR3 : Hid (Tb.right l = if Tb.badF none l then 1 else 0) := Lib.hid (by rw [HR2.out, HF0.out, if_neg (by simp)])
      clear HR2 HF HF0 hk hlt ha
      go_wp2_with fail
      go_loopw [43] (fun i wr => ∃ j : Nat, j ≤ k ∧ i = .int .i64 j ∧ Hid (Tb.badF none l = Tb.badF (Tb.prev l j) (l.drop j)) ∧ Below w.heap.size w wr) (fun i _ => k - (intOf i).toNat)
      case atStart => exact ⟨0, by omega, rfl, Lib.hid rfl, hb⟩
      clear hb hbz
      case round =>
        obtain ⟨j, hj, rfl, HB, hb⟩ := hrel
        have hbz := hb.size
        by_cases hlt : j < k
        · have hkl : j < l.length := by rw [Hn.out]; exact hlt
          obtain ⟨ag, ao, rfl, hca⟩ := (Hl.out.below hb).get Tb.Ent.len hkl (by omega)
          have a0 : wr.cell? ⟨ag, ao + j * 3, none⟩ = _ := hca 0 _ rfl
          have a1 := hca 1 _ rfl
          have a2 := hca 2 _ rfl
          have hki : (j : Int) < (k : Int) := by omega
          have HD : Hid (Tb.badF (Tb.prev l j) (l.drop j) = (l[j].key.toList.isEmpty || (l[j].gone && !l[j].value.toList.isEmpty) || Tb.notUp (Tb.prev l j) l[j].key || Tb.badF (some l[j]) (l.drop (j + 1)))) := Lib.hid (by rw [Tb.drop_get hkl, Tb.badF_cons])
          have HP : Hid (Tb.prev l (j + 1) = some l[j]) := Lib.hid (by unfold Tb.prev; rw [if_neg (by omega), Nat.add_sub_cancel, List.getElem?_eq_getElem hkl])
          have HL : Hid (0 < j → ∃ y : Tb.Ent, Tb.prev l j = some y ∧ wr.cell? ⟨ag, ao + (j - 1) * 3, none⟩ = some (.string y.key)) := Lib.hid (fun h0 => by
            obtain ⟨ag', ao', e', hca'⟩ := (Hl.out.below hb).get Tb.Ent.len (show j - 1 < l.length by omega) (by omega)
            injection e' with e'
            injection e' with e1 e2
            subst e1 e2
            exact ⟨l[j - 1], by unfold Tb.prev; rw [if_neg (by omega), List.getElem?_eq_getElem (by omega)], hca' 0 _ rfl⟩)
          clear hca
          generalize l[j] = x at *
          obtain ⟨xk, xv, xg⟩ := x
          simp only at a0 a1 a2 HD HP
          have HX : Hid (Tb.badF none l = (xk.toList.isEmpty || (xg && !xv.toList.isEmpty) || Tb.notUp (Tb.prev l j) xk || Tb.badF (some ⟨xk, xv, xg⟩) (l.drop (j + 1)))) := Lib.hid (by rw [HB.out, HD.out])
          clear HB HD
          cases e1 : xk.toList.isEmpty
          case' true =>
            go_wp2_with fail
            go_quiet (fail)
            go_wp2_with fail
            go_ret
            refine ⟨?_, below_drewN (hb.alloc hbz _) _⟩
            rw [← HR.out, HR3.out, HX.out, e1]
            rfl
          cases e2 : (xg && !xv.toList.isEmpty)
          case' true =>
            have e3 : xg = true := by cases xg <;> simp_all
            have e4 : xv.toList.isEmpty = false := by cases h : xv.toList.isEmpty <;> simp_all
            subst e3
            have E1 := Lib.hid e1
            have E2 := Lib.hid e2
            clear e2
            go_wp2_with fail
            go_quiet (fail)
            go_wp2_with fail
            go_ret
            refine ⟨?_, below_drewN (hb.alloc hbz _) _⟩
            rw [← HR.out, HR3.out, HX.out, E1.out, E2.out]
            rfl
          have HE : Hid (Tb.badF none l = (Tb.notUp (Tb.prev l j) xk || Tb.badF (Tb.prev l (j + 1)) (l.drop (j + 1)))) := Lib.hid (by rw [HX.out, e1, e2, HP.out]; rfl)
          clear HX HP
          by_cases hj0 : j = 0
          · have hj1 : ¬ 0 < j := by omega
            have HN : Hid (Tb.notUp (Tb.prev l j) xk = false) := Lib.hid (by subst hj0; rfl)
            clear hj0
            cases xg
            case' false => clear e2
            case' true =>
              have e4 : xv.toList.isEmpty = true := by simpa using e2
              clear e2
            all_goals
              go_wp2_with fail
              go_quiet (fail)
              go_wp2_with fail
              go_roundw
              case rel => exact ⟨j + 1, by omega, by go_num, Lib.hid (by rw [HE.out, HN.out]; rfl), below_drewN (hb.alloc hbz _) _⟩
              case measure => simp [intOf]; omega
          · obtain ⟨y, HY, ay⟩ := HL.out (by omega)
            have HN : Hid (Tb.notUp (Tb.prev l j) xk = (Tb.less xk y.key || xk.toList == y.key.toList)) := Lib.hid (by rw [HY]; rfl)
            have hj1 : (0 : Int) < (j : Int) := by omega
            have hj0' : 0 < j := by omega
            have hag : ag < wr.heap.size := World.block_lt_of_cell? wr _ ay
            have hag2 : ¬ ag = wr.heap.size := by omega
            have hj5 : 1 ≤ j := by omega
            have hj6 : (1 : Int) ≤ (j : Int) := by omega
            have hj3 : (0 : Int) ≤ (j : Int) - 1 := by omega
            have hj4 : (j : Int) - 1 < (k : Int) := by omega
            have hj2 : ((j : Int) - 1).toNat = j - 1 := by omega
            have hj7 : IntKind.i64.wrap ((j : Int) - 1) = (j : Int) - 1 := IntWalk.i64_in _ (by omega)
            clear HY HL hj0
            obtain ⟨yk, yv, yg⟩ := y
            simp only at ay HN
            cases e5 : (Tb.less xk yk || xk.toList == yk.toList)
            all_goals
              have HN2 := Lib.hid (HN.out.trans e5)
              unfold Tb.less at e5
              cases xg
              case' false => clear e2
              case' true =>
                have e4 : xv.toList.isEmpty = true := by simpa using e2
                clear e2
            all_goals
              go_wp2_with fail
              go_quiet (fail)
              go_wp2_with fail
            all_goals try (
              go_roundw
              case rel => exact ⟨j + 1, by omega, by go_num, Lib.hid (by rw [HE.out, HN2.out]; rfl), below_drewN (hb.alloc hbz _) _⟩
              case measure => simp [intOf]; omega)
            all_goals
              go_ret
              refine ⟨?_, below_drewN (hb.alloc hbz _) _⟩
              rw [← HR.out, HR3.out, HE.out, HN2.out]
              rfl
        · obtain rfl : j = k := by omega
          have HB0 : Hid (Tb.badF none l = false) := Lib.hid (by rw [HB.out, List.drop_of_length_le (by rw [Hn.out]; exact Nat.le_refl _)]; rfl)
          go_wp2_with fail
          go_ret
          refine ⟨?_, hb⟩
          rw [← HR.out, HR3.out, HB0.out]
          rfl
end Go.Proofs.Ytdjccepchleacaa
