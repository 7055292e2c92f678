/- Same schemas (printed by gen_same2.py). -/
import Derived.Test.YtmncppnpppdfkaaDoorIdlY
import Derived.Test.YtmncppnpppdfkaaDoorK0
set_option linter.unusedVariables false
set_option linter.unusedSimpArgs false
namespace Go.Proofs.YtmncppnpppdfkaaDoor
open Go.RowKit
/-- What lay there lies there. -/
def Stays (a b : World) : Prop := ∀ p v, a.cell? p = some v → b.cell? p = some v
theorem Stays.drew (a : World) : Stays a a.drew := fun _ _ h => h
theorem Stays.below {a b c : World} (h : Stays a b) (hb : Below b.heap.size b c) : Stays a c := fun p v hp => (hb.cell (World.block_lt_of_cell? b _ (h p v hp))).trans (h p v hp)
set_option maxRecDepth 100000 in
set_option maxHeartbeats 16000000 in
theorem same12_any (x y : Id.Sch) (vx vy : Value) (w : World) (hx : Id.SchV w none vx x) (hy : Id.SchV w none vy y) :
    Calls Tryd.prog 8 #[vx, vy] w fun e w' => e = .returned (.bool (Id.schEq x y)) ∧ Below w.heap.size w w' := by
  obtain ⟨R, HR⟩ : ∃ R, Hid (Id.schEq x y = R) := ⟨_, Lib.hid rfl⟩
  rw [HR.out]
  obtain ⟨A1, n1, c1, A2, n2, c2, A3, n3, c3, rfl, ra1, ra2, ra3⟩ := hx
  obtain ⟨B1, m1, d1, B2, m2, d2, B3, m3, d3, rfl, rb1, rb2, rb3⟩ := hy
  obtain ⟨x0, xr, xv, xg⟩ := x
  obtain ⟨y0, yr, yv, yg⟩ := y
  simp only at ra1 ra2 ra3 rb1 rb2 rb3
  have hna1 : n1 = xr.length ∧ n1 ≤ 9223372036854775807 := by obtain ⟨_, _, e, h1, h2, _⟩ := ERow.slice ra1; injection e with _ e _; subst e; exact ⟨rfl, by omega⟩
  have hnb1 : m1 = yr.length ∧ m1 ≤ 9223372036854775807 := by obtain ⟨_, _, e, h1, h2, _⟩ := ERow.slice rb1; injection e with _ e _; subst e; exact ⟨rfl, by omega⟩
  have HNA1 := Lib.hid hna1.1
  have HNB1 := Lib.hid hnb1.1
  have hnm1 := hna1.2
  have hmm1 := hnb1.2
  have Ra1 := Lib.hid ra1
  have Rb1 := Lib.hid rb1
  clear hna1 hnb1 ra1 rb1
  have hna2 : n2 = xv.length ∧ n2 ≤ 9223372036854775807 := by obtain ⟨_, _, e, h1, h2, _⟩ := ERow.slice ra2; injection e with _ e _; subst e; exact ⟨rfl, by omega⟩
  have hnb2 : m2 = yv.length ∧ m2 ≤ 9223372036854775807 := by obtain ⟨_, _, e, h1, h2, _⟩ := ERow.slice rb2; injection e with _ e _; subst e; exact ⟨rfl, by omega⟩
  have HNA2 := Lib.hid hna2.1
  have HNB2 := Lib.hid hnb2.1
  have hnm2 := hna2.2
  have hmm2 := hnb2.2
  have Ra2 := Lib.hid ra2
  have Rb2 := Lib.hid rb2
  clear hna2 hnb2 ra2 rb2
  have hna3 : n3 = xg.length ∧ n3 ≤ 9223372036854775807 := by obtain ⟨_, _, e, h1, h2, _⟩ := ERow.slice ra3; injection e with _ e _; subst e; exact ⟨rfl, by omega⟩
  have hnb3 : m3 = yg.length ∧ m3 ≤ 9223372036854775807 := by obtain ⟨_, _, e, h1, h2, _⟩ := ERow.slice rb3; injection e with _ e _; subst e; exact ⟨rfl, by omega⟩
  have HNA3 := Lib.hid hna3.1
  have HNB3 := Lib.hid hnb3.1
  have hnm3 := hna3.2
  have hmm3 := hnb3.2
  have Ra3 := Lib.hid ra3
  have Rb3 := Lib.hid rb3
  clear hna3 hnb3 ra3 rb3
  cases h0 : (x0.toList == y0.toList)
  case false =>
    have HE : Hid (R = false) := Lib.hid (by rw [← HR.out]; simp [Id.schEq, h0])
    go_enter Tryd.func8, Tryd.ntmps8
    go_wp2_with fail
    go_ret
    exact ⟨(by first | (rw [HE.out]; done) | (rw [HE.out]; rfl)), ((Below.refl _ _).alloc (Nat.le_refl _) _).alloc (by simp) _⟩
  by_cases hl1 : n1 = m1
  case neg =>
    have HE : Hid (R = false) := Lib.hid (by rw [← HR.out]; simp [Id.schEq, Id.sameF_len xr yr (by rw [← HNA1.out, ← HNB1.out]; exact hl1)])
    have hli : ((n1 : Int) != (m1 : Int)) = true := by rw [bne_iff_ne]; omega
    clear hl1
    go_enter Tryd.func8, Tryd.ntmps8
    go_wp2_with fail
    go_ret
    exact ⟨(by first | (rw [HE.out]; done) | (rw [HE.out]; rfl)), ((Below.refl _ _).alloc (Nat.le_refl _) _).alloc (by simp) _⟩
  subst hl1
  by_cases hl2 : n2 = m2
  case neg =>
    have HE : Hid (R = false) := Lib.hid (by rw [← HR.out]; simp [Id.schEq, Id.sameF_len xv yv (by rw [← HNA2.out, ← HNB2.out]; exact hl2)])
    have hli : ((n2 : Int) != (m2 : Int)) = true := by rw [bne_iff_ne]; omega
    clear hl2
    go_enter Tryd.func8, Tryd.ntmps8
    go_wp2_with fail
    go_ret
    exact ⟨(by first | (rw [HE.out]; done) | (rw [HE.out]; rfl)), ((Below.refl _ _).alloc (Nat.le_refl _) _).alloc (by simp) _⟩
  subst hl2
  by_cases hl3 : n3 = m3
  case neg =>
    have HE : Hid (R = false) := Lib.hid (by rw [← HR.out]; simp [Id.schEq, Id.sameF_len xg yg (by rw [← HNA3.out, ← HNB3.out]; exact hl3)])
    have hli : ((n3 : Int) != (m3 : Int)) = true := by rw [bne_iff_ne]; omega
    clear hl3
    go_enter Tryd.func8, Tryd.ntmps8
    go_wp2_with fail
    go_ret
    exact ⟨(by first | (rw [HE.out]; done) | (rw [HE.out]; rfl)), ((Below.refl _ _).alloc (Nat.le_refl _) _).alloc (by simp) _⟩
  subst hl3
  have HR0 : Hid (R = (Id.sameF Id.recEq xr yr && Id.sameF Id.svcEq xv yv && Id.sameF Id.sagEq xg yg)) := Lib.hid (by rw [← HR.out]; simp [Id.schEq, h0])
  have hB := ((Below.refl w.heap.size w).alloc (Nat.le_refl _) (.cells #[.string x0, .slice A1 n1 c1, .slice A2 n2 c2, .slice A3 n3 c3] 26)).alloc (by simp) (.cells #[.string y0, .slice B1 n1 d1, .slice B2 n2 d2, .slice B3 n3 d3] 26)
  have hqx := (Bk.new w 26 #[.string x0, .slice A1 n1 c1, .slice A2 n2 c2, .slice A3 n3 c3]).alloc (.cells #[.string y0, .slice B1 n1 d1, .slice B2 n2 d2, .slice B3 n3 d3] 26)
  have hqy := Bk.new (w.alloc (.cells #[.string x0, .slice A1 n1 c1, .slice A2 n2 c2, .slice A3 n3 c3] 26)) 26 #[.string y0, .slice B1 n1 d1, .slice B2 n2 d2, .slice B3 n3 d3]
  rw [World.size_alloc] at hqy
  have Ha1 := Lib.hid (ERow.below Ra1.out hB (Id.RecE.below hB))
  have Hb1 := Lib.hid (ERow.below Rb1.out hB (Id.RecE.below hB))
  have Ha2 := Lib.hid (ERow.below Ra2.out hB (Id.SvcE.below hB))
  have Hb2 := Lib.hid (ERow.below Rb2.out hB (Id.SvcE.below hB))
  have Ha3 := Lib.hid (ERow.below Ra3.out hB (Id.SagE.below hB))
  have Hb3 := Lib.hid (ERow.below Rb3.out hB (Id.SagE.below hB))
  have HB := Lib.hid hB
  clear hB Ra1 Rb1 Ra2 Rb2 Ra3 Rb3
  go_enter Tryd.func8, Tryd.ntmps8
  go_upto_region 3 with (fail)
  have hWz : ((w.alloc (.cells #[.string x0, .slice A1 n1 c1, .slice A2 n2 c2, .slice A3 n3 c3] 26)).alloc (.cells #[.string y0, .slice B1 n1 d1, .slice B2 n2 d2, .slice B3 n3 d3] 26)).heap.size = w.heap.size + 2 := by simp
  generalize ((w.alloc (.cells #[.string x0, .slice A1 n1 c1, .slice A2 n2 c2, .slice A3 n3 c3] 26)).alloc (.cells #[.string y0, .slice B1 n1 d1, .slice B2 n2 d2, .slice B3 n3 d3] 26)) = W at *
  have HWZ := Lib.hid hWz
  clear hWz
  have hW0 : w.heap.size ≤ W.heap.size := by rw [HWZ.out]; omega
  have HQX := Lib.hid hqx
  have HQY := Lib.hid hqy
  clear hqx hqy
  go_wp2_with fail
  go_loopw [5] (fun i wr => ∃ k : Nat, k ≤ n1 ∧ i = .int .i64 k ∧ Hid (R = (Id.sameF Id.recEq (xr.drop k) (yr.drop k) && Id.sameF Id.svcEq xv yv && Id.sameF Id.sagEq xg yg)) ∧ Hid (Below W.heap.size W wr)) (fun i _ => n1 - (intOf i).toNat)
  case atStart => exact ⟨0, by omega, rfl, HR0, Lib.hid (Below.refl _ _)⟩
  case round =>
    obtain ⟨k, hk, rfl, HK, HBW⟩ := hrel
    obtain ⟨W0, rfl⟩ : ∃ W', W' = wr := ⟨_, rfl⟩
    obtain ⟨⟨p0, p1, p2, p3⟩, _⟩ := (HQX.out.below HBW.out HQX.out.lt).k4
    obtain ⟨⟨z0, z1, z2, z3⟩, _⟩ := (HQY.out.below HBW.out HQY.out.lt).k4
    by_cases hlt : k < n1
    case pos =>
      have hka : k < xr.length := by rw [← HNA1.out]; exact hlt
      have hkb : k < yr.length := by rw [← HNB1.out]; exact hlt
      have haw := ERow.below Ha1.out HBW.out (Id.RecE.below HBW.out)
      have hbw := ERow.below Hb1.out HBW.out (Id.RecE.below HBW.out)
      obtain ⟨ag, ao, acs, rfl, _, ⟨ua, ea, hsa⟩, hca⟩ := haw.get hka (by omega)
      obtain ⟨bg, bo, bcs, rfl, _, ⟨ub, eb, hsb⟩, hcb⟩ := hbw.get hkb (by omega)
      have HD := HK.out
      rw [Id.sameF_drop hka hkb] at HD
      generalize xr[k] = x at *
      generalize yr[k] = y at *
      obtain ⟨e0, e1, et⟩ := x
      obtain ⟨g0, g1, gt⟩ := y
      simp only at ea eb hsa hsb
      subst ea eb
      have a0 := hca 0 _ rfl
      have b0 := hcb 0 _ rfl
      have a1 := hca 1 _ rfl
      have b1 := hcb 1 _ rfl
      have a2 := hca 2 _ rfl
      have b2 := hcb 2 _ rfl
      simp only [Nat.add_zero] at a0 b0
      have i0 : (0 : Int) ≤ (k : Int) := by omega
      have i1 : (k : Int) < (n1 : Int) := by omega
      have HD2 := Lib.hid HD
      have hsd : Below W0.heap.size W0 W0.drew := (Below.refl _ _).drew
      have HC := Lib.hid (samerec_any e0 g0 e1 g1 et gt ua ub W0.drew (ERow.below hsa hsd (Id.FldE.below hsd)) (ERow.below hsb hsd (Id.FldE.below hsd)))
      have HUA := Lib.hid (ERow.is hsa)
      have HUB := Lib.hid (ERow.is hsb)
      have HP := Lib.hid p1
      have HZ := Lib.hid z1
      have K0 := Lib.hid a0
      have L0 := Lib.hid b0
      have K1 := Lib.hid a1
      have L1 := Lib.hid b1
      have K2 := Lib.hid a2
      have L2 := Lib.hid b2
      obtain ⟨sb, hs⟩ : ∃ sb, Id.recEq (⟨e0, e1, et⟩ : Id.Rec) ⟨g0, g1, gt⟩ = sb := ⟨_, rfl⟩
      rw [hs] at HC HD2
      have HS := Lib.hid hs
      clear hs hca hcb HD HK hka hkb haw hbw z0 z1 z2 z3
      obtain ⟨A5, n5, c5, rfl⟩ := HUA.out
      obtain ⟨A6, n6, c6, rfl⟩ := HUB.out
      clear HUA HUB hsa hsb
      have hSd : Stays W0 W0.drew := Stays.drew _
      clear a0 b0
      clear a1 b1
      clear a2 b2
      go_wp2_with fail
      clear p0 p1 p2 p3
      refine wp_region_L_calm (Stays W0) [] (by kernel_rfl) hSd (fun hHeld => ?_)
      (refine wpAnyL_take0 0 (v := ?_) rfl (by kernel_rfl) (by kernel_rfl) (by kernel_rfl) (by kernel_rfl) (fun _ _ _ h => h) (fun _ => by assumption) (by rfl) ?_ ?_; rotate_left; · (intro w; go_simp; try with_reducible rfl); try simp only [Act.put, List.setIfInBounds_toArray, List.set_cons_zero, List.set_cons_succ])
      (refine wpAnyL_take 1 (v := ?_) rfl (by kernel_rfl) (by kernel_rfl) (by kernel_rfl) (by kernel_rfl) (fun _ _ _ h => h) (by assumption) (by rfl) ?_ ?_; rotate_left; · (intro w hSw; have e := hSw _ _ HP.out; go_simp; try with_reducible rfl); try simp only [Act.put, List.setIfInBounds_toArray, List.set_cons_zero, List.set_cons_succ])
      (refine wpAnyL_take0 2 (v := ?_) rfl (by kernel_rfl) (by kernel_rfl) (by kernel_rfl) (by kernel_rfl) (fun _ _ _ h => h) (fun _ => by assumption) (by rfl) ?_ ?_; rotate_left; · (intro w; go_simp; try with_reducible rfl); try simp only [Act.put, List.setIfInBounds_toArray, List.set_cons_zero, List.set_cons_succ])
      (refine wpAnyL_take0 3 (v := ?_) rfl (by kernel_rfl) (by kernel_rfl) (by kernel_rfl) (by kernel_rfl) (fun _ _ _ h => h) (fun _ => by assumption) (by rfl) ?_ ?_; rotate_left; · (intro w; go_simp; try with_reducible rfl); try simp only [Act.put, List.setIfInBounds_toArray, List.set_cons_zero, List.set_cons_succ])
      (refine wpAnyL_take 4 (v := ?_) rfl (by kernel_rfl) (by kernel_rfl) (by kernel_rfl) (by kernel_rfl) (fun _ _ _ h => h) (by assumption) (by rfl) ?_ ?_; rotate_left; · (intro w hSw; have e0' := hSw _ _ K0.out; have e1' := hSw _ _ K1.out; have e2' := hSw _ _ K2.out; go_simp; try with_reducible rfl); try simp only [Act.put, List.setIfInBounds_toArray, List.set_cons_zero, List.set_cons_succ])
      (refine wpAnyL_take0 5 (v := ?_) rfl (by kernel_rfl) (by kernel_rfl) (by kernel_rfl) (by kernel_rfl) (fun _ _ _ h => h) (fun _ => by assumption) (by rfl) ?_ ?_; rotate_left; · (intro w; go_simp; try with_reducible rfl); try simp only [Act.put, List.setIfInBounds_toArray, List.set_cons_zero, List.set_cons_succ])
      (refine wpAnyL_take 6 (v := ?_) rfl (by kernel_rfl) (by kernel_rfl) (by kernel_rfl) (by kernel_rfl) (fun _ _ _ h => h) (by assumption) (by rfl) ?_ ?_; rotate_left; · (intro w hSw; have e := hSw _ _ HZ.out; go_simp; try with_reducible rfl); try simp only [Act.put, List.setIfInBounds_toArray, List.set_cons_zero, List.set_cons_succ])
      (refine wpAnyL_take0 7 (v := ?_) rfl (by kernel_rfl) (by kernel_rfl) (by kernel_rfl) (by kernel_rfl) (fun _ _ _ h => h) (fun _ => by assumption) (by rfl) ?_ ?_; rotate_left; · (intro w; go_simp; try with_reducible rfl); try simp only [Act.put, List.setIfInBounds_toArray, List.set_cons_zero, List.set_cons_succ])
      (refine wpAnyL_take0 8 (v := ?_) rfl (by kernel_rfl) (by kernel_rfl) (by kernel_rfl) (by kernel_rfl) (fun _ _ _ h => h) (fun _ => by assumption) (by rfl) ?_ ?_; rotate_left; · (intro w; go_simp; try with_reducible rfl); try simp only [Act.put, List.setIfInBounds_toArray, List.set_cons_zero, List.set_cons_succ])
      (refine wpAnyL_take 9 (v := ?_) rfl (by kernel_rfl) (by kernel_rfl) (by kernel_rfl) (by kernel_rfl) (fun _ _ _ h => h) (by assumption) (by rfl) ?_ ?_; rotate_left; · (intro w hSw; have e0' := hSw _ _ L0.out; have e1' := hSw _ _ L1.out; have e2' := hSw _ _ L2.out; go_simp; try with_reducible rfl); try simp only [Act.put, List.setIfInBounds_toArray, List.set_cons_zero, List.set_cons_succ])
      (refine wpAnyL_step 10 (by kernel_rfl) rfl (fun K hK => ?_))
      go_simp
      refine (HC.out).mono ?_
      rintro e w5 ⟨rfl, hb5⟩
      have hSe : Stays W0 w5 := hSd.below hb5
      (refine hK.out _ _ (fun hnn => hSe) ?_; clear hK K; try simp only [Act.put, List.setIfInBounds_toArray, List.set_cons_zero, List.set_cons_succ])
      (refine wpAnyL_take0 11 (v := ?_) rfl (by kernel_rfl) (by kernel_rfl) (by kernel_rfl) (by kernel_rfl) (fun _ _ _ h => h) (fun _ => by assumption) (by rfl) ?_ ?_; rotate_left; · (intro w; go_simp; try with_reducible rfl); try simp only [Act.put, List.setIfInBounds_toArray, List.set_cons_zero, List.set_cons_succ])
      refine wpAnyL_done (by kernel_rfl) ?_ _
      refine NoPanic.normal ?_
      have HB5 := Lib.hid (HBW.out.trans ((below_drewN (Below.refl W.heap.size W0) 1).trans (hb5.mono (by have := HBW.out.size; simpa using this))))
      clear hb5 hSd hSe hHeld hsd
      cases sb
      · have HE : Hid (R = false) := Lib.hid (by rw [HD2.out]; simp)
        go_wp2_with fail
        go_ret
        exact ⟨(by first | (rw [HE.out]; done) | (rw [HE.out]; rfl)), HB.out.trans (HB5.out.mono hW0)⟩
      · have HE : Hid (R = (Id.sameF Id.recEq (xr.drop (k + 1)) (yr.drop (k + 1)) && Id.sameF Id.svcEq xv yv && Id.sameF Id.sagEq xg yg)) := Lib.hid (by rw [HD2.out]; simp)
        go_wp2_with fail
        go_roundw
        case rel => exact ⟨k + 1, by omega, by go_num, HE, HB5⟩
        case measure => simp [intOf]; omega
    obtain rfl : k = n1 := by omega
    have HRn : Hid (R = (Id.sameF Id.svcEq xv yv && Id.sameF Id.sagEq xg yg)) := Lib.hid (by rw [HK.out, Id.sameF_done (by rw [HNA1.out]; exact Nat.le_refl _) (by rw [HNB1.out]; exact Nat.le_refl _)]; simp)
    clear HK
    go_wp2_with fail
    go_loopw [6] (fun i wr => ∃ k : Nat, k ≤ n2 ∧ i = .int .i64 k ∧ Hid (R = (Id.sameF Id.svcEq (xv.drop k) (yv.drop k) && Id.sameF Id.sagEq xg yg)) ∧ Hid (Below W.heap.size W wr)) (fun i _ => n2 - (intOf i).toNat)
    case atStart => exact ⟨0, by omega, rfl, HRn, HBW⟩
    case round =>
      obtain ⟨k, hk, rfl, HK, HBW⟩ := hrel
      obtain ⟨W1, rfl⟩ : ∃ W', W' = wr := ⟨_, rfl⟩
      obtain ⟨⟨p0, p1, p2, p3⟩, _⟩ := (HQX.out.below HBW.out HQX.out.lt).k4
      obtain ⟨⟨z0, z1, z2, z3⟩, _⟩ := (HQY.out.below HBW.out HQY.out.lt).k4
      by_cases hlt : k < n2
      case pos =>
        have hka : k < xv.length := by rw [← HNA2.out]; exact hlt
        have hkb : k < yv.length := by rw [← HNB2.out]; exact hlt
        have haw := ERow.below Ha2.out HBW.out (Id.SvcE.below HBW.out)
        have hbw := ERow.below Hb2.out HBW.out (Id.SvcE.below HBW.out)
        obtain ⟨ag, ao, acs, rfl, _, ⟨ua, ea, hsa⟩, hca⟩ := haw.get hka (by omega)
        obtain ⟨bg, bo, bcs, rfl, _, ⟨ub, eb, hsb⟩, hcb⟩ := hbw.get hkb (by omega)
        have HD := HK.out
        rw [Id.sameF_drop hka hkb] at HD
        generalize xv[k] = x at *
        generalize yv[k] = y at *
        obtain ⟨e0, et⟩ := x
        obtain ⟨g0, gt⟩ := y
        simp only at ea eb hsa hsb
        subst ea eb
        have a0 := hca 0 _ rfl
        have b0 := hcb 0 _ rfl
        have a1 := hca 1 _ rfl
        have b1 := hcb 1 _ rfl
        simp only [Nat.add_zero] at a0 b0
        have i0 : (0 : Int) ≤ (k : Int) := by omega
        have i1 : (k : Int) < (n2 : Int) := by omega
        have HD2 := Lib.hid HD
        have hsd : Below W1.heap.size W1 W1.drew := (Below.refl _ _).drew
        have HC := Lib.hid (samesvc_any e0 g0 et gt ua ub W1.drew (ERow.below hsa hsd Id.MthE.kp) (ERow.below hsb hsd Id.MthE.kp))
        have HUA := Lib.hid (ERow.is hsa)
        have HUB := Lib.hid (ERow.is hsb)
        have HP := Lib.hid p2
        have HZ := Lib.hid z2
        have K0 := Lib.hid a0
        have L0 := Lib.hid b0
        have K1 := Lib.hid a1
        have L1 := Lib.hid b1
        obtain ⟨sb, hs⟩ : ∃ sb, Id.svcEq (⟨e0, et⟩ : Id.Svc) ⟨g0, gt⟩ = sb := ⟨_, rfl⟩
        rw [hs] at HC HD2
        have HS := Lib.hid hs
        clear hs hca hcb HD HK hka hkb haw hbw z0 z1 z2 z3
        obtain ⟨A5, n5, c5, rfl⟩ := HUA.out
        obtain ⟨A6, n6, c6, rfl⟩ := HUB.out
        clear HUA HUB hsa hsb
        have hSd : Stays W1 W1.drew := Stays.drew _
        clear a0 b0
        clear a1 b1
        go_wp2_with fail
        clear p0 p1 p2 p3
        refine wp_region_L_calm (Stays W1) [] (by kernel_rfl) hSd (fun hHeld => ?_)
        (refine wpAnyL_take0 0 (v := ?_) rfl (by kernel_rfl) (by kernel_rfl) (by kernel_rfl) (by kernel_rfl) (fun _ _ _ h => h) (fun _ => by assumption) (by rfl) ?_ ?_; rotate_left; · (intro w; go_simp; try with_reducible rfl); try simp only [Act.put, List.setIfInBounds_toArray, List.set_cons_zero, List.set_cons_succ])
        (refine wpAnyL_take 1 (v := ?_) rfl (by kernel_rfl) (by kernel_rfl) (by kernel_rfl) (by kernel_rfl) (fun _ _ _ h => h) (by assumption) (by rfl) ?_ ?_; rotate_left; · (intro w hSw; have e := hSw _ _ HP.out; go_simp; try with_reducible rfl); try simp only [Act.put, List.setIfInBounds_toArray, List.set_cons_zero, List.set_cons_succ])
        (refine wpAnyL_take0 2 (v := ?_) rfl (by kernel_rfl) (by kernel_rfl) (by kernel_rfl) (by kernel_rfl) (fun _ _ _ h => h) (fun _ => by assumption) (by rfl) ?_ ?_; rotate_left; · (intro w; go_simp; try with_reducible rfl); try simp only [Act.put, List.setIfInBounds_toArray, List.set_cons_zero, List.set_cons_succ])
        (refine wpAnyL_take0 3 (v := ?_) rfl (by kernel_rfl) (by kernel_rfl) (by kernel_rfl) (by kernel_rfl) (fun _ _ _ h => h) (fun _ => by assumption) (by rfl) ?_ ?_; rotate_left; · (intro w; go_simp; try with_reducible rfl); try simp only [Act.put, List.setIfInBounds_toArray, List.set_cons_zero, List.set_cons_succ])
        (refine wpAnyL_take 4 (v := ?_) rfl (by kernel_rfl) (by kernel_rfl) (by kernel_rfl) (by kernel_rfl) (fun _ _ _ h => h) (by assumption) (by rfl) ?_ ?_; rotate_left; · (intro w hSw; have e0' := hSw _ _ K0.out; have e1' := hSw _ _ K1.out; go_simp; try with_reducible rfl); try simp only [Act.put, List.setIfInBounds_toArray, List.set_cons_zero, List.set_cons_succ])
        (refine wpAnyL_take0 5 (v := ?_) rfl (by kernel_rfl) (by kernel_rfl) (by kernel_rfl) (by kernel_rfl) (fun _ _ _ h => h) (fun _ => by assumption) (by rfl) ?_ ?_; rotate_left; · (intro w; go_simp; try with_reducible rfl); try simp only [Act.put, List.setIfInBounds_toArray, List.set_cons_zero, List.set_cons_succ])
        (refine wpAnyL_take 6 (v := ?_) rfl (by kernel_rfl) (by kernel_rfl) (by kernel_rfl) (by kernel_rfl) (fun _ _ _ h => h) (by assumption) (by rfl) ?_ ?_; rotate_left; · (intro w hSw; have e := hSw _ _ HZ.out; go_simp; try with_reducible rfl); try simp only [Act.put, List.setIfInBounds_toArray, List.set_cons_zero, List.set_cons_succ])
        (refine wpAnyL_take0 7 (v := ?_) rfl (by kernel_rfl) (by kernel_rfl) (by kernel_rfl) (by kernel_rfl) (fun _ _ _ h => h) (fun _ => by assumption) (by rfl) ?_ ?_; rotate_left; · (intro w; go_simp; try with_reducible rfl); try simp only [Act.put, List.setIfInBounds_toArray, List.set_cons_zero, List.set_cons_succ])
        (refine wpAnyL_take0 8 (v := ?_) rfl (by kernel_rfl) (by kernel_rfl) (by kernel_rfl) (by kernel_rfl) (fun _ _ _ h => h) (fun _ => by assumption) (by rfl) ?_ ?_; rotate_left; · (intro w; go_simp; try with_reducible rfl); try simp only [Act.put, List.setIfInBounds_toArray, List.set_cons_zero, List.set_cons_succ])
        (refine wpAnyL_take 9 (v := ?_) rfl (by kernel_rfl) (by kernel_rfl) (by kernel_rfl) (by kernel_rfl) (fun _ _ _ h => h) (by assumption) (by rfl) ?_ ?_; rotate_left; · (intro w hSw; have e0' := hSw _ _ L0.out; have e1' := hSw _ _ L1.out; go_simp; try with_reducible rfl); try simp only [Act.put, List.setIfInBounds_toArray, List.set_cons_zero, List.set_cons_succ])
        (refine wpAnyL_step 10 (by kernel_rfl) rfl (fun K hK => ?_))
        go_simp
        refine (HC.out).mono ?_
        rintro e w5 ⟨rfl, hb5⟩
        have hSe : Stays W1 w5 := hSd.below hb5
        (refine hK.out _ _ (fun hnn => hSe) ?_; clear hK K; try simp only [Act.put, List.setIfInBounds_toArray, List.set_cons_zero, List.set_cons_succ])
        (refine wpAnyL_take0 11 (v := ?_) rfl (by kernel_rfl) (by kernel_rfl) (by kernel_rfl) (by kernel_rfl) (fun _ _ _ h => h) (fun _ => by assumption) (by rfl) ?_ ?_; rotate_left; · (intro w; go_simp; try with_reducible rfl); try simp only [Act.put, List.setIfInBounds_toArray, List.set_cons_zero, List.set_cons_succ])
        refine wpAnyL_done (by kernel_rfl) ?_ _
        refine NoPanic.normal ?_
        have HB5 := Lib.hid (HBW.out.trans ((below_drewN (Below.refl W.heap.size W1) 1).trans (hb5.mono (by have := HBW.out.size; simpa using this))))
        clear hb5 hSd hSe hHeld hsd
        cases sb
        · have HE : Hid (R = false) := Lib.hid (by rw [HD2.out]; simp)
          go_wp2_with fail
          go_ret
          exact ⟨(by first | (rw [HE.out]; done) | (rw [HE.out]; rfl)), HB.out.trans (HB5.out.mono hW0)⟩
        · have HE : Hid (R = (Id.sameF Id.svcEq (xv.drop (k + 1)) (yv.drop (k + 1)) && Id.sameF Id.sagEq xg yg)) := Lib.hid (by rw [HD2.out]; simp)
          go_wp2_with fail
          go_roundw
          case rel => exact ⟨k + 1, by omega, by go_num, HE, HB5⟩
          case measure => simp [intOf]; omega
      obtain rfl : k = n2 := by omega
      have HRn : Hid (R = (Id.sameF Id.sagEq xg yg)) := Lib.hid (by rw [HK.out, Id.sameF_done (by rw [HNA2.out]; exact Nat.le_refl _) (by rw [HNB2.out]; exact Nat.le_refl _)]; simp)
      clear HK
      go_wp2_with fail
      go_loopw [7] (fun i wr => ∃ k : Nat, k ≤ n3 ∧ i = .int .i64 k ∧ Hid (R = (Id.sameF Id.sagEq (xg.drop k) (yg.drop k))) ∧ Hid (Below W.heap.size W wr)) (fun i _ => n3 - (intOf i).toNat)
      case atStart => exact ⟨0, by omega, rfl, HRn, HBW⟩
      case round =>
        obtain ⟨k, hk, rfl, HK, HBW⟩ := hrel
        obtain ⟨W2, rfl⟩ : ∃ W', W' = wr := ⟨_, rfl⟩
        obtain ⟨⟨p0, p1, p2, p3⟩, _⟩ := (HQX.out.below HBW.out HQX.out.lt).k4
        obtain ⟨⟨z0, z1, z2, z3⟩, _⟩ := (HQY.out.below HBW.out HQY.out.lt).k4
        by_cases hlt : k < n3
        case pos =>
          have hka : k < xg.length := by rw [← HNA3.out]; exact hlt
          have hkb : k < yg.length := by rw [← HNB3.out]; exact hlt
          have haw := ERow.below Ha3.out HBW.out (Id.SagE.below HBW.out)
          have hbw := ERow.below Hb3.out HBW.out (Id.SagE.below HBW.out)
          obtain ⟨ag, ao, acs, rfl, _, ⟨ua, ea, hsa⟩, hca⟩ := haw.get hka (by omega)
          obtain ⟨bg, bo, bcs, rfl, _, ⟨ub, eb, hsb⟩, hcb⟩ := hbw.get hkb (by omega)
          have HD := HK.out
          rw [Id.sameF_drop hka hkb] at HD
          generalize xg[k] = x at *
          generalize yg[k] = y at *
          obtain ⟨e0, e1, et⟩ := x
          obtain ⟨g0, g1, gt⟩ := y
          simp only at ea eb hsa hsb
          subst ea eb
          have a0 := hca 0 _ rfl
          have b0 := hcb 0 _ rfl
          have a1 := hca 1 _ rfl
          have b1 := hcb 1 _ rfl
          have a2 := hca 2 _ rfl
          have b2 := hcb 2 _ rfl
          simp only [Nat.add_zero] at a0 b0
          have i0 : (0 : Int) ≤ (k : Int) := by omega
          have i1 : (k : Int) < (n3 : Int) := by omega
          have HD2 := Lib.hid HD
          have hsd : Below W2.heap.size W2 W2.drew := (Below.refl _ _).drew
          have HC := Lib.hid (samesag_any e0 e1 g0 g1 et gt ua ub W2.drew (ERow.below hsa hsd Id.StpE.kp) (ERow.below hsb hsd Id.StpE.kp))
          have HUA := Lib.hid (ERow.is hsa)
          have HUB := Lib.hid (ERow.is hsb)
          have HP := Lib.hid p3
          have HZ := Lib.hid z3
          have K0 := Lib.hid a0
          have L0 := Lib.hid b0
          have K1 := Lib.hid a1
          have L1 := Lib.hid b1
          have K2 := Lib.hid a2
          have L2 := Lib.hid b2
          obtain ⟨sb, hs⟩ : ∃ sb, Id.sagEq (⟨e0, e1, et⟩ : Id.Sag) ⟨g0, g1, gt⟩ = sb := ⟨_, rfl⟩
          rw [hs] at HC HD2
          have HS := Lib.hid hs
          clear hs hca hcb HD HK hka hkb haw hbw z0 z1 z2 z3
          obtain ⟨A5, n5, c5, rfl⟩ := HUA.out
          obtain ⟨A6, n6, c6, rfl⟩ := HUB.out
          clear HUA HUB hsa hsb
          have hSd : Stays W2 W2.drew := Stays.drew _
          clear a0 b0
          clear a1 b1
          clear a2 b2
          go_wp2_with fail
          clear p0 p1 p2 p3
          refine wp_region_L_calm (Stays W2) [] (by kernel_rfl) hSd (fun hHeld => ?_)
          (refine wpAnyL_take0 0 (v := ?_) rfl (by kernel_rfl) (by kernel_rfl) (by kernel_rfl) (by kernel_rfl) (fun _ _ _ h => h) (fun _ => by assumption) (by rfl) ?_ ?_; rotate_left; · (intro w; go_simp; try with_reducible rfl); try simp only [Act.put, List.setIfInBounds_toArray, List.set_cons_zero, List.set_cons_succ])
          (refine wpAnyL_take 1 (v := ?_) rfl (by kernel_rfl) (by kernel_rfl) (by kernel_rfl) (by kernel_rfl) (fun _ _ _ h => h) (by assumption) (by rfl) ?_ ?_; rotate_left; · (intro w hSw; have e := hSw _ _ HP.out; go_simp; try with_reducible rfl); try simp only [Act.put, List.setIfInBounds_toArray, List.set_cons_zero, List.set_cons_succ])
          (refine wpAnyL_take0 2 (v := ?_) rfl (by kernel_rfl) (by kernel_rfl) (by kernel_rfl) (by kernel_rfl) (fun _ _ _ h => h) (fun _ => by assumption) (by rfl) ?_ ?_; rotate_left; · (intro w; go_simp; try with_reducible rfl); try simp only [Act.put, List.setIfInBounds_toArray, List.set_cons_zero, List.set_cons_succ])
          (refine wpAnyL_take0 3 (v := ?_) rfl (by kernel_rfl) (by kernel_rfl) (by kernel_rfl) (by kernel_rfl) (fun _ _ _ h => h) (fun _ => by assumption) (by rfl) ?_ ?_; rotate_left; · (intro w; go_simp; try with_reducible rfl); try simp only [Act.put, List.setIfInBounds_toArray, List.set_cons_zero, List.set_cons_succ])
          (refine wpAnyL_take 4 (v := ?_) rfl (by kernel_rfl) (by kernel_rfl) (by kernel_rfl) (by kernel_rfl) (fun _ _ _ h => h) (by assumption) (by rfl) ?_ ?_; rotate_left; · (intro w hSw; have e0' := hSw _ _ K0.out; have e1' := hSw _ _ K1.out; have e2' := hSw _ _ K2.out; go_simp; try with_reducible rfl); try simp only [Act.put, List.setIfInBounds_toArray, List.set_cons_zero, List.set_cons_succ])
          (refine wpAnyL_take0 5 (v := ?_) rfl (by kernel_rfl) (by kernel_rfl) (by kernel_rfl) (by kernel_rfl) (fun _ _ _ h => h) (fun _ => by assumption) (by rfl) ?_ ?_; rotate_left; · (intro w; go_simp; try with_reducible rfl); try simp only [Act.put, List.setIfInBounds_toArray, List.set_cons_zero, List.set_cons_succ])
          (refine wpAnyL_take 6 (v := ?_) rfl (by kernel_rfl) (by kernel_rfl) (by kernel_rfl) (by kernel_rfl) (fun _ _ _ h => h) (by assumption) (by rfl) ?_ ?_; rotate_left; · (intro w hSw; have e := hSw _ _ HZ.out; go_simp; try with_reducible rfl); try simp only [Act.put, List.setIfInBounds_toArray, List.set_cons_zero, List.set_cons_succ])
          (refine wpAnyL_take0 7 (v := ?_) rfl (by kernel_rfl) (by kernel_rfl) (by kernel_rfl) (by kernel_rfl) (fun _ _ _ h => h) (fun _ => by assumption) (by rfl) ?_ ?_; rotate_left; · (intro w; go_simp; try with_reducible rfl); try simp only [Act.put, List.setIfInBounds_toArray, List.set_cons_zero, List.set_cons_succ])
          (refine wpAnyL_take0 8 (v := ?_) rfl (by kernel_rfl) (by kernel_rfl) (by kernel_rfl) (by kernel_rfl) (fun _ _ _ h => h) (fun _ => by assumption) (by rfl) ?_ ?_; rotate_left; · (intro w; go_simp; try with_reducible rfl); try simp only [Act.put, List.setIfInBounds_toArray, List.set_cons_zero, List.set_cons_succ])
          (refine wpAnyL_take 9 (v := ?_) rfl (by kernel_rfl) (by kernel_rfl) (by kernel_rfl) (by kernel_rfl) (fun _ _ _ h => h) (by assumption) (by rfl) ?_ ?_; rotate_left; · (intro w hSw; have e0' := hSw _ _ L0.out; have e1' := hSw _ _ L1.out; have e2' := hSw _ _ L2.out; go_simp; try with_reducible rfl); try simp only [Act.put, List.setIfInBounds_toArray, List.set_cons_zero, List.set_cons_succ])
          (refine wpAnyL_step 10 (by kernel_rfl) rfl (fun K hK => ?_))
          go_simp
          refine (HC.out).mono ?_
          rintro e w5 ⟨rfl, hb5⟩
          have hSe : Stays W2 w5 := hSd.below hb5
          (refine hK.out _ _ (fun hnn => hSe) ?_; clear hK K; try simp only [Act.put, List.setIfInBounds_toArray, List.set_cons_zero, List.set_cons_succ])
          (refine wpAnyL_take0 11 (v := ?_) rfl (by kernel_rfl) (by kernel_rfl) (by kernel_rfl) (by kernel_rfl) (fun _ _ _ h => h) (fun _ => by assumption) (by rfl) ?_ ?_; rotate_left; · (intro w; go_simp; try with_reducible rfl); try simp only [Act.put, List.setIfInBounds_toArray, List.set_cons_zero, List.set_cons_succ])
          refine wpAnyL_done (by kernel_rfl) ?_ _
          refine NoPanic.normal ?_
          have HB5 := Lib.hid (HBW.out.trans ((below_drewN (Below.refl W.heap.size W2) 1).trans (hb5.mono (by have := HBW.out.size; simpa using this))))
          clear hb5 hSd hSe hHeld hsd
          cases sb
          · have HE : Hid (R = false) := Lib.hid (by rw [HD2.out]; simp)
            go_wp2_with fail
            go_ret
            exact ⟨(by first | (rw [HE.out]; done) | (rw [HE.out]; rfl)), HB.out.trans (HB5.out.mono hW0)⟩
          · have HE : Hid (R = (Id.sameF Id.sagEq (xg.drop (k + 1)) (yg.drop (k + 1)))) := Lib.hid (by rw [HD2.out]; simp)
            go_wp2_with fail
            go_roundw
            case rel => exact ⟨k + 1, by omega, by go_num, HE, HB5⟩
            case measure => simp [intOf]; omega
        obtain rfl : k = n3 := by omega
        have HE : Hid (R = true) := Lib.hid (by rw [HK.out, Id.sameF_done (by rw [HNA3.out]; exact Nat.le_refl _) (by rw [HNB3.out]; exact Nat.le_refl _)])
        go_wp2_with fail
        go_ret
        exact ⟨(by first | (rw [HE.out]; done) | (rw [HE.out]; rfl)), HB.out.trans (HBW.out.mono hW0)⟩
end Go.Proofs.YtmncppnpppdfkaaDoor
