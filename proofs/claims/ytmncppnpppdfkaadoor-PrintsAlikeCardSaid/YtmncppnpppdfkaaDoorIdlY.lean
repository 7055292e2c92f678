/- Same services, sagas, records (printed by gen_same.py). -/
import Derived.Test.YtmncppnpppdfkaaDoorKI1
set_option linter.unusedVariables false
set_option linter.unusedSimpArgs false
namespace Go.Proofs.YtmncppnpppdfkaaDoor
open Go.RowKit
theorem below_q {w W : World} (h : Below w.heap.size w W) (q n : Nat) : Below w.heap.size w ((W.drewN q).drewN n) := below_drewN (below_drewN h q) n
set_option maxRecDepth 100000 in
set_option maxHeartbeats 8000000 in
theorem samesvc_any (x0 y0 : ByteArray) (ar br : List Id.Mth) (va vb : Value) (w : World) (ha : ERow w none 70 5 Id.MthE va ar) (hb : ERow w none 70 5 Id.MthE vb br) :
    Calls Tryd.prog 22 #[.agg #[.string x0, va], .agg #[.string y0, vb]] w fun e w' => e = .returned (.bool (Id.svcEq ⟨x0, ar⟩ ⟨y0, br⟩)) ∧ Below w.heap.size w w' := by
  obtain ⟨R, HR⟩ : ∃ R, Hid (Id.svcEq (⟨x0, ar⟩ : Id.Svc) ⟨y0, br⟩ = R) := ⟨_, Lib.hid rfl⟩
  rw [HR.out]
  obtain ⟨A, ca, rfl, ha1, ha2, _⟩ := ERow.slice ha
  obtain ⟨B, cb, rfl, hb1, hb2, _⟩ := ERow.slice hb
  have Ha := Lib.hid ha
  have Hb := Lib.hid hb
  obtain ⟨n, hn⟩ : ∃ n, n = ar.length := ⟨_, rfl⟩
  obtain ⟨m, hm⟩ : ∃ m, m = br.length := ⟨_, rfl⟩
  rw [← hn] at Ha ha1 ⊢
  rw [← hm] at Hb hb1 ⊢
  have hnm : n ≤ 9223372036854775807 := by omega
  have hmm : m ≤ 9223372036854775807 := by omega
  have HNA := Lib.hid hn
  have HNB := Lib.hid hm
  clear ha hb ha1 ha2 hb1 hb2 hn hm
  cases h0 : (x0.toList == y0.toList)
  case false =>
    have HE : Hid (R = false) := Lib.hid (by rw [← HR.out]; simp [Id.svcEq, h0])
    go_enter Tryd.func22, Tryd.ntmps22
    go_wp2_with fail
    go_ret
    exact ⟨(by first | (rw [HE.out]; done) | (rw [HE.out]; rfl)), ((Below.refl _ _).alloc (Nat.le_refl _) _).alloc (by simp) _⟩
  by_cases hl : n = m
  case neg =>
    have HE : Hid (R = false) := Lib.hid (by rw [← HR.out]; simp [Id.svcEq, Id.sameF_len ar br (by rw [← HNA.out, ← HNB.out]; exact hl)])
    have hli : ((n : Int) != (m : Int)) = true := by rw [bne_iff_ne]; omega
    clear hl
    go_enter Tryd.func22, Tryd.ntmps22
    go_wp2_with fail
    go_ret
    exact ⟨(by first | (rw [HE.out]; done) | (rw [HE.out]; rfl)), ((Below.refl _ _).alloc (Nat.le_refl _) _).alloc (by simp) _⟩
  subst hl
  have HR0 : Hid (R = Id.sameF Id.mthEq ar br) := Lib.hid (by rw [← HR.out]; simp [Id.svcEq, h0])
  have hB := ((Below.refl w.heap.size w).alloc (Nat.le_refl _) (.cells #[.string x0, .slice A n ca] 56)).alloc (by simp) (.cells #[.string y0, .slice B n cb] 56)
  have hqx := (Bk.new w 56 #[.string x0, .slice A n ca]).alloc (.cells #[.string y0, .slice B n cb] 56)
  have hqy := Bk.new (w.alloc (.cells #[.string x0, .slice A n ca] 56)) 56 #[.string y0, .slice B n cb]
  rw [World.size_alloc] at hqy
  have Ha1 := Lib.hid (ERow.below Ha.out hB Id.MthE.kp)
  have Hb1 := Lib.hid (ERow.below Hb.out hB Id.MthE.kp)
  have HB := Lib.hid hB
  clear hB Ha Hb
  go_enter Tryd.func22, Tryd.ntmps22
  go_upto_region 3 with (fail)
  generalize ((w.alloc (.cells #[.string x0, .slice A n ca] 56)).alloc (.cells #[.string y0, .slice B n cb] 56)) = W at *
  obtain ⟨⟨cx0, cx1⟩, _⟩ := hqx.k2
  obtain ⟨⟨cy0, cy1⟩, _⟩ := hqy.k2
  clear hqx hqy
  go_wp2_with fail
  go_loopw [5] (fun i wr => ∃ k q : Nat, k ≤ n ∧ i = .int .i64 k ∧ Hid (R = Id.sameF Id.mthEq (ar.drop k) (br.drop k)) ∧ Hid (wr = W.drewN q)) (fun i _ => n - (intOf i).toNat)
  case atStart => exact ⟨0, 0, by omega, rfl, HR0, Lib.hid rfl⟩
  case round =>
    obtain ⟨k, q, hk, rfl, HK, HW⟩ := hrel
    obtain rfl := HW.out
    by_cases hlt : k < n
    case neg =>
      obtain rfl : k = n := by omega
      have HE : Hid (R = true) := Lib.hid (by rw [HK.out, Id.sameF_done (by rw [HNA.out]; exact Nat.le_refl _) (by rw [HNB.out]; exact Nat.le_refl _)])
      go_wp2_with fail
      go_ret
      exact ⟨(by first | (rw [HE.out]; done) | (rw [HE.out]; rfl)), below_drewN HB.out q⟩
    have hka : k < ar.length := by rw [← HNA.out]; exact hlt
    have hkb : k < br.length := by rw [← HNB.out]; exact hlt
    obtain ⟨ag, ao, acs, rfl, _, ea, hca⟩ := Ha1.out.get hka (by omega)
    obtain ⟨bg, bo, bcs, rfl, _, eb, hcb⟩ := Hb1.out.get hkb (by omega)
    have HD := HK.out
    rw [Id.sameF_drop hka hkb] at HD
    generalize ar[k] = x at *
    generalize br[k] = y at *
    obtain ⟨e0, e1, e2, e3, e4⟩ := x
    obtain ⟨g0, g1, g2, g3, g4⟩ := y
    unfold Id.MthE Id.Mth.cells at ea eb
    subst ea eb
    have a0 := hca 0 _ rfl
    have b0 := hcb 0 _ rfl
    have a1 := hca 1 _ rfl
    have b1 := hcb 1 _ rfl
    have a2 := hca 2 _ rfl
    have b2 := hcb 2 _ rfl
    have a3 := hca 3 _ rfl
    have b3 := hcb 3 _ rfl
    have a4 := hca 4 _ rfl
    have b4 := hcb 4 _ rfl
    simp only [Nat.add_zero] at a0 b0
    have i0 : (0 : Int) ≤ (k : Int) := by omega
    have i1 : (k : Int) < (n : Int) := by omega
    have HD2 := Lib.hid HD
    clear hca hcb HD HW HK hka hkb
    cases f0 : (e0.toList == g0.toList)
    case false =>
      have HE : Hid (R = false) := Lib.hid (by rw [HD2.out]; simp [Id.mthEq, f0])
      go_wp2_with fail
      go_quiet (fail)
      go_wp2_with fail
      go_ret
      exact ⟨(by first | (rw [HE.out]; done) | (rw [HE.out]; rfl)), below_q HB.out _ _⟩
    cases f1 : (e1.toList == g1.toList)
    case false =>
      have HE : Hid (R = false) := Lib.hid (by rw [HD2.out]; simp [Id.mthEq, f0, f1])
      go_wp2_with fail
      go_quiet (fail)
      go_wp2_with fail
      go_ret
      exact ⟨(by first | (rw [HE.out]; done) | (rw [HE.out]; rfl)), below_q HB.out _ _⟩
    by_cases f2 : e2 = g2
    case neg =>
      have HE : Hid (R = false) := Lib.hid (by rw [HD2.out]; simp [Id.mthEq, f0, f1, f2])
      have hki : ((e2 : Int) == (g2 : Int)) = false := by rw [beq_eq_false_iff_ne]; omega
      clear f2
      go_wp2_with fail
      go_quiet (fail)
      go_wp2_with fail
      go_ret
      exact ⟨(by first | (rw [HE.out]; done) | (rw [HE.out]; rfl)), below_q HB.out _ _⟩
    subst f2
    cases f3 : (e3.toList == g3.toList)
    case false =>
      have HE : Hid (R = false) := Lib.hid (by rw [HD2.out]; simp [Id.mthEq, f0, f1, f3])
      go_wp2_with fail
      go_quiet (fail)
      go_wp2_with fail
      go_ret
      exact ⟨(by first | (rw [HE.out]; done) | (rw [HE.out]; rfl)), below_q HB.out _ _⟩
    cases f4 : (e4.toList == g4.toList)
    case false =>
      have HE : Hid (R = false) := Lib.hid (by rw [HD2.out]; simp [Id.mthEq, f0, f1, f3, f4])
      go_wp2_with fail
      go_quiet (fail)
      go_wp2_with fail
      go_ret
      exact ⟨(by first | (rw [HE.out]; done) | (rw [HE.out]; rfl)), below_q HB.out _ _⟩
    have HE : Hid (R = Id.sameF Id.mthEq (ar.drop (k + 1)) (br.drop (k + 1))) := Lib.hid (by rw [HD2.out]; simp [Id.mthEq, f0, f1, f3, f4])
    go_wp2_with fail
    go_quiet (fail)
    go_wp2_with fail
    go_roundw
    case rel => exact ⟨k + 1, _, by omega, by go_num, HE, Lib.hid rfl⟩
    case measure => simp [intOf]; omega
set_option maxRecDepth 100000 in
set_option maxHeartbeats 8000000 in
theorem samesag_any (x0 x1 y0 y1 : ByteArray) (ar br : List Id.Stp) (va vb : Value) (w : World) (ha : ERow w none 72 3 Id.StpE va ar) (hb : ERow w none 72 3 Id.StpE vb br) :
    Calls Tryd.prog 23 #[.agg #[.string x0, .string x1, va], .agg #[.string y0, .string y1, vb]] w fun e w' => e = .returned (.bool (Id.sagEq ⟨x0, x1, ar⟩ ⟨y0, y1, br⟩)) ∧ Below w.heap.size w w' := by
  obtain ⟨R, HR⟩ : ∃ R, Hid (Id.sagEq (⟨x0, x1, ar⟩ : Id.Sag) ⟨y0, y1, br⟩ = R) := ⟨_, Lib.hid rfl⟩
  rw [HR.out]
  obtain ⟨A, ca, rfl, ha1, ha2, _⟩ := ERow.slice ha
  obtain ⟨B, cb, rfl, hb1, hb2, _⟩ := ERow.slice hb
  have Ha := Lib.hid ha
  have Hb := Lib.hid hb
  obtain ⟨n, hn⟩ : ∃ n, n = ar.length := ⟨_, rfl⟩
  obtain ⟨m, hm⟩ : ∃ m, m = br.length := ⟨_, rfl⟩
  rw [← hn] at Ha ha1 ⊢
  rw [← hm] at Hb hb1 ⊢
  have hnm : n ≤ 9223372036854775807 := by omega
  have hmm : m ≤ 9223372036854775807 := by omega
  have HNA := Lib.hid hn
  have HNB := Lib.hid hm
  clear ha hb ha1 ha2 hb1 hb2 hn hm
  cases h0 : (x0.toList == y0.toList)
  case false =>
    have HE : Hid (R = false) := Lib.hid (by rw [← HR.out]; simp [Id.sagEq, h0])
    go_enter Tryd.func23, Tryd.ntmps23
    go_wp2_with fail
    go_ret
    exact ⟨(by first | (rw [HE.out]; done) | (rw [HE.out]; rfl)), ((Below.refl _ _).alloc (Nat.le_refl _) _).alloc (by simp) _⟩
  cases h1 : (x1.toList == y1.toList)
  case false =>
    have HE : Hid (R = false) := Lib.hid (by rw [← HR.out]; simp [Id.sagEq, h1])
    go_enter Tryd.func23, Tryd.ntmps23
    go_wp2_with fail
    go_ret
    exact ⟨(by first | (rw [HE.out]; done) | (rw [HE.out]; rfl)), ((Below.refl _ _).alloc (Nat.le_refl _) _).alloc (by simp) _⟩
  by_cases hl : n = m
  case neg =>
    have HE : Hid (R = false) := Lib.hid (by rw [← HR.out]; simp [Id.sagEq, Id.sameF_len ar br (by rw [← HNA.out, ← HNB.out]; exact hl)])
    have hli : ((n : Int) != (m : Int)) = true := by rw [bne_iff_ne]; omega
    clear hl
    go_enter Tryd.func23, Tryd.ntmps23
    go_wp2_with fail
    go_ret
    exact ⟨(by first | (rw [HE.out]; done) | (rw [HE.out]; rfl)), ((Below.refl _ _).alloc (Nat.le_refl _) _).alloc (by simp) _⟩
  subst hl
  have HR0 : Hid (R = Id.sameF Id.stpEq ar br) := Lib.hid (by rw [← HR.out]; simp [Id.sagEq, h0, h1])
  have hB := ((Below.refl w.heap.size w).alloc (Nat.le_refl _) (.cells #[.string x0, .string x1, .slice A n ca] 60)).alloc (by simp) (.cells #[.string y0, .string y1, .slice B n cb] 60)
  have hqx := (Bk.new w 60 #[.string x0, .string x1, .slice A n ca]).alloc (.cells #[.string y0, .string y1, .slice B n cb] 60)
  have hqy := Bk.new (w.alloc (.cells #[.string x0, .string x1, .slice A n ca] 60)) 60 #[.string y0, .string y1, .slice B n cb]
  rw [World.size_alloc] at hqy
  have Ha1 := Lib.hid (ERow.below Ha.out hB Id.StpE.kp)
  have Hb1 := Lib.hid (ERow.below Hb.out hB Id.StpE.kp)
  have HB := Lib.hid hB
  clear hB Ha Hb
  go_enter Tryd.func23, Tryd.ntmps23
  go_upto_region 3 with (fail)
  generalize ((w.alloc (.cells #[.string x0, .string x1, .slice A n ca] 60)).alloc (.cells #[.string y0, .string y1, .slice B n cb] 60)) = W at *
  obtain ⟨⟨cx0, cx1, cx2⟩, _⟩ := hqx.k3
  obtain ⟨⟨cy0, cy1, cy2⟩, _⟩ := hqy.k3
  clear hqx hqy
  go_wp2_with fail
  go_loopw [5] (fun i wr => ∃ k q : Nat, k ≤ n ∧ i = .int .i64 k ∧ Hid (R = Id.sameF Id.stpEq (ar.drop k) (br.drop k)) ∧ Hid (wr = W.drewN q)) (fun i _ => n - (intOf i).toNat)
  case atStart => exact ⟨0, 0, by omega, rfl, HR0, Lib.hid rfl⟩
  case round =>
    obtain ⟨k, q, hk, rfl, HK, HW⟩ := hrel
    obtain rfl := HW.out
    by_cases hlt : k < n
    case neg =>
      obtain rfl : k = n := by omega
      have HE : Hid (R = true) := Lib.hid (by rw [HK.out, Id.sameF_done (by rw [HNA.out]; exact Nat.le_refl _) (by rw [HNB.out]; exact Nat.le_refl _)])
      go_wp2_with fail
      go_ret
      exact ⟨(by first | (rw [HE.out]; done) | (rw [HE.out]; rfl)), below_drewN HB.out q⟩
    have hka : k < ar.length := by rw [← HNA.out]; exact hlt
    have hkb : k < br.length := by rw [← HNB.out]; exact hlt
    obtain ⟨ag, ao, acs, rfl, _, ea, hca⟩ := Ha1.out.get hka (by omega)
    obtain ⟨bg, bo, bcs, rfl, _, eb, hcb⟩ := Hb1.out.get hkb (by omega)
    have HD := HK.out
    rw [Id.sameF_drop hka hkb] at HD
    generalize ar[k] = x at *
    generalize br[k] = y at *
    obtain ⟨e0, e1, e2⟩ := x
    obtain ⟨g0, g1, g2⟩ := y
    unfold Id.StpE Id.Stp.cells at ea eb
    subst ea eb
    have a0 := hca 0 _ rfl
    have b0 := hcb 0 _ rfl
    have a1 := hca 1 _ rfl
    have b1 := hcb 1 _ rfl
    have a2 := hca 2 _ rfl
    have b2 := hcb 2 _ rfl
    simp only [Nat.add_zero] at a0 b0
    have i0 : (0 : Int) ≤ (k : Int) := by omega
    have i1 : (k : Int) < (n : Int) := by omega
    have HD2 := Lib.hid HD
    clear hca hcb HD HW HK hka hkb
    cases f0 : (e0.toList == g0.toList)
    case false =>
      have HE : Hid (R = false) := Lib.hid (by rw [HD2.out]; simp [Id.stpEq, f0])
      go_wp2_with fail
      go_quiet (fail)
      go_wp2_with fail
      go_ret
      exact ⟨(by first | (rw [HE.out]; done) | (rw [HE.out]; rfl)), below_q HB.out _ _⟩
    cases f1 : (e1.toList == g1.toList)
    case false =>
      have HE : Hid (R = false) := Lib.hid (by rw [HD2.out]; simp [Id.stpEq, f0, f1])
      go_wp2_with fail
      go_quiet (fail)
      go_wp2_with fail
      go_ret
      exact ⟨(by first | (rw [HE.out]; done) | (rw [HE.out]; rfl)), below_q HB.out _ _⟩
    by_cases f2 : e2 = g2
    case neg =>
      have HE : Hid (R = false) := Lib.hid (by rw [HD2.out]; simp [Id.stpEq, f0, f1, f2])
      have hki : ((e2 : Int) == (g2 : Int)) = false := by rw [beq_eq_false_iff_ne]; omega
      clear f2
      go_wp2_with fail
      go_quiet (fail)
      go_wp2_with fail
      go_ret
      exact ⟨(by first | (rw [HE.out]; done) | (rw [HE.out]; rfl)), below_q HB.out _ _⟩
    subst f2
    have HE : Hid (R = Id.sameF Id.stpEq (ar.drop (k + 1)) (br.drop (k + 1))) := Lib.hid (by rw [HD2.out]; simp [Id.stpEq, f0, f1])
    go_wp2_with fail
    go_quiet (fail)
    go_wp2_with fail
    go_roundw
    case rel => exact ⟨k + 1, _, by omega, by go_num, HE, Lib.hid rfl⟩
    case measure => simp [intOf]; omega
set_option maxRecDepth 100000 in
set_option maxHeartbeats 8000000 in
theorem samerec_any (x0 y0 : ByteArray) (x1 : Bool) (y1 : Bool) (ar br : List Id.Fld) (va vb : Value) (w : World) (ha : Id.FldsR w none va ar) (hb : Id.FldsR w none vb br) :
    Calls Tryd.prog 21 #[.agg #[.string x0, .bool x1, va], .agg #[.string y0, .bool y1, vb]] w fun e w' => e = .returned (.bool (Id.recEq ⟨x0, x1, ar⟩ ⟨y0, y1, br⟩)) ∧ Below w.heap.size w w' := by
  obtain ⟨R, HR⟩ : ∃ R, Hid (Id.recEq (⟨x0, x1, ar⟩ : Id.Rec) ⟨y0, y1, br⟩ = R) := ⟨_, Lib.hid rfl⟩
  rw [HR.out]
  obtain ⟨A, ca, rfl, ha1, ha2, _⟩ := ERow.slice ha
  obtain ⟨B, cb, rfl, hb1, hb2, _⟩ := ERow.slice hb
  have Ha := Lib.hid ha
  have Hb := Lib.hid hb
  obtain ⟨n, hn⟩ : ∃ n, n = ar.length := ⟨_, rfl⟩
  obtain ⟨m, hm⟩ : ∃ m, m = br.length := ⟨_, rfl⟩
  rw [← hn] at Ha ha1 ⊢
  rw [← hm] at Hb hb1 ⊢
  have hnm : n ≤ 9223372036854775807 := by omega
  have hmm : m ≤ 9223372036854775807 := by omega
  have HNA := Lib.hid hn
  have HNB := Lib.hid hm
  clear ha hb ha1 ha2 hb1 hb2 hn hm
  cases h0 : (x0.toList == y0.toList)
  case false =>
    have HE : Hid (R = false) := Lib.hid (by rw [← HR.out]; simp [Id.recEq, h0])
    go_enter Tryd.func21, Tryd.ntmps21
    go_wp2_with fail
    go_ret
    exact ⟨(by first | (rw [HE.out]; done) | (rw [HE.out]; rfl)), ((Below.refl _ _).alloc (Nat.le_refl _) _).alloc (by simp) _⟩
  cases h1 : (x1 == y1)
  case false =>
    have HE : Hid (R = false) := Lib.hid (by rw [← HR.out]; simp [Id.recEq, h1])
    have h1b : (x1 != y1) = true := by rw [bne, h1]; rfl
    go_enter Tryd.func21, Tryd.ntmps21
    go_wp2_with fail
    go_ret
    exact ⟨(by first | (rw [HE.out]; done) | (rw [HE.out]; rfl)), ((Below.refl _ _).alloc (Nat.le_refl _) _).alloc (by simp) _⟩
  have h1b : (x1 != y1) = false := by rw [bne, h1]; rfl
  by_cases hl : n = m
  case neg =>
    have HE : Hid (R = false) := Lib.hid (by rw [← HR.out]; simp [Id.recEq, Id.sameF_len ar br (by rw [← HNA.out, ← HNB.out]; exact hl)])
    have hli : ((n : Int) != (m : Int)) = true := by rw [bne_iff_ne]; omega
    clear hl
    go_enter Tryd.func21, Tryd.ntmps21
    go_wp2_with fail
    go_ret
    exact ⟨(by first | (rw [HE.out]; done) | (rw [HE.out]; rfl)), ((Below.refl _ _).alloc (Nat.le_refl _) _).alloc (by simp) _⟩
  subst hl
  have HR0 : Hid (R = Id.sameF Id.fldEq ar br) := Lib.hid (by rw [← HR.out]; simp [Id.recEq, h0, h1])
  have hB := ((Below.refl w.heap.size w).alloc (Nat.le_refl _) (.cells #[.string x0, .bool x1, .slice A n ca] 43)).alloc (by simp) (.cells #[.string y0, .bool y1, .slice B n cb] 43)
  have hqx := (Bk.new w 43 #[.string x0, .bool x1, .slice A n ca]).alloc (.cells #[.string y0, .bool y1, .slice B n cb] 43)
  have hqy := Bk.new (w.alloc (.cells #[.string x0, .bool x1, .slice A n ca] 43)) 43 #[.string y0, .bool y1, .slice B n cb]
  rw [World.size_alloc] at hqy
  have Ha1 := Lib.hid (ERow.below Ha.out hB (Id.FldE.below hB))
  have Hb1 := Lib.hid (ERow.below Hb.out hB (Id.FldE.below hB))
  have HB := Lib.hid hB
  clear hB Ha Hb
  go_enter Tryd.func21, Tryd.ntmps21
  go_upto_region 3 with (fail)
  generalize ((w.alloc (.cells #[.string x0, .bool x1, .slice A n ca] 43)).alloc (.cells #[.string y0, .bool y1, .slice B n cb] 43)) = W at *
  obtain ⟨⟨cx0, cx1, cx2⟩, _⟩ := hqx.k3
  obtain ⟨⟨cy0, cy1, cy2⟩, _⟩ := hqy.k3
  clear hqx hqy
  go_wp2_with fail
  go_loopw [5] (fun i wr => ∃ k q : Nat, k ≤ n ∧ i = .int .i64 k ∧ Hid (R = Id.sameF Id.fldEq (ar.drop k) (br.drop k)) ∧ Hid (wr = W.drewN q)) (fun i _ => n - (intOf i).toNat)
  case atStart => exact ⟨0, 0, by omega, rfl, HR0, Lib.hid rfl⟩
  case round =>
    obtain ⟨k, q, hk, rfl, HK, HW⟩ := hrel
    obtain rfl := HW.out
    by_cases hlt : k < n
    case neg =>
      obtain rfl : k = n := by omega
      have HE : Hid (R = true) := Lib.hid (by rw [HK.out, Id.sameF_done (by rw [HNA.out]; exact Nat.le_refl _) (by rw [HNB.out]; exact Nat.le_refl _)])
      go_wp2_with fail
      go_ret
      exact ⟨(by first | (rw [HE.out]; done) | (rw [HE.out]; rfl)), below_drewN HB.out q⟩
    have hka : k < ar.length := by rw [← HNA.out]; exact hlt
    have hkb : k < br.length := by rw [← HNB.out]; exact hlt
    obtain ⟨ag, ao, acs, rfl, _, ea, hca⟩ := Ha1.out.get hka (by omega)
    obtain ⟨bg, bo, bcs, rfl, _, eb, hcb⟩ := Hb1.out.get hkb (by omega)
    have HD := HK.out
    rw [Id.sameF_drop hka hkb] at HD
    generalize ar[k] = x at *
    generalize br[k] = y at *
    obtain ⟨e0, et⟩ := x
    obtain ⟨g0, gt⟩ := y
    obtain ⟨ua, ea, hsa⟩ := ea
    obtain ⟨ub, eb, hsb⟩ := eb
    simp only at ea eb hsa hsb
    subst ea eb
    obtain ⟨A5, n5, c5, rfl⟩ := ERow.is hsa
    obtain ⟨A6, n6, c6, rfl⟩ := ERow.is hsb
    have a0 := hca 0 _ rfl
    have a1 := hca 1 _ rfl
    have b0 := hcb 0 _ rfl
    have b1 := hcb 1 _ rfl
    simp only [Nat.add_zero] at a0 b0
    have i0 : (0 : Int) ≤ (k : Int) := by omega
    have i1 : (k : Int) < (n : Int) := by omega
    have HD2 := Lib.hid HD
    have HC : Hid (∀ j : Nat, Calls Tryd.prog 44 #[.slice A5 n5 c5, .slice A6 n6 c6] ((W.drewN q).drewN j) fun e w' => e = .returned (.bool (Id.sameF Id.srtEq et gt)) ∧ ∃ p, w' = (W.drewN q).drewN p) := Lib.hid (fun j => calls_qd' j (samesorts_any _ _ et gt _ (ERow.mono hsa (fun _ _ h => h) (fun _ _ h => h)) (ERow.mono hsb (fun _ _ h => h) (fun _ _ h => h))))
    have HCW : Hid (∀ j : Nat, Calls Tryd.prog 44 #[.slice A5 n5 c5, .slice A6 n6 c6] (W.drewN (q + j)) fun e w' => e = .returned (.bool (Id.sameF Id.srtEq et gt)) ∧ ∃ p, w' = W.drewN (q + p)) := Lib.hid (fun j => (samesorts_any _ _ et gt (W.drewN (q + j)) (ERow.mono hsa (fun _ _ h => h) (fun _ _ h => h)) (ERow.mono hsb (fun _ _ h => h) (fun _ _ h => h))).mono fun _ _ ⟨he, p, hp⟩ => ⟨he, j + p, by rw [hp, World.drewN_drewN, Nat.add_assoc]⟩)
    clear hca hcb HD HW HK hka hkb hsa hsb
    cases f0 : (e0.toList == g0.toList)
    · have HE : Hid (R = false) := Lib.hid (by rw [HD2.out]; simp [Id.fldEq, f0])
      go_wp2_with fail
      go_quiet (fail)
      go_wp2_with fail
      go_ret
      exact ⟨(by first | (rw [HE.out]; done) | (rw [HE.out]; rfl)), below_q HB.out _ _⟩
    obtain ⟨sb, hs⟩ : ∃ sb, Id.sameF Id.srtEq et gt = sb := ⟨_, rfl⟩
    rw [hs] at HC HCW
    have HS := Lib.hid hs
    clear hs
    cases sb
    · have HE : Hid (R = false) := Lib.hid (by rw [HD2.out]; simp [Id.fldEq, f0, HS.out])
      go_wp2_with fail
      go_quiet ((first | exact HCW.out _ | exact HC.out _))
      go_wp2_with fail
      go_ret
      exact ⟨(by first | (rw [HE.out]; done) | (rw [HE.out]; rfl)), by first | exact below_q HB.out _ _ | exact below_drewN HB.out _⟩
    · have HE : Hid (R = Id.sameF Id.fldEq (ar.drop (k + 1)) (br.drop (k + 1))) := Lib.hid (by rw [HD2.out]; simp [Id.fldEq, f0, HS.out])
      go_wp2_with fail
      go_quiet ((first | exact HCW.out _ | exact HC.out _))
      go_wp2_with fail
      go_roundw
      case rel => exact ⟨k + 1, _, by omega, by go_num, HE, Lib.hid rfl⟩
      case measure => simp [intOf]; omega
end Go.Proofs.YtmncppnpppdfkaaDoor
