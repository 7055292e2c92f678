/- IdlMore: the walk. -/
import Derived.Test.YtoomlpalkinipaaDoorIdlMoreA
import Derived.Test.YtoomlpalkinipaaDoorIdlZ
set_option linter.unusedVariables false
set_option linter.unusedSimpArgs false
namespace Go.Proofs.YtoomlpalkinipaaDoor
open Go.RowKit
theorem cat_data2 (a b : ByteArray) : ((a ++ (⟨#[10]⟩ : ByteArray)) ++ b).data.toList = a.data.toList ++ 10 :: b.data.toList := by simp [ByteArray.data_append]
theorem cat_data3 (b : ByteArray) : ((⟨#[109, 111, 100, 117, 108, 101, 32, 109, 59, 10]⟩ : ByteArray) ++ b).data.toList = Id.modM.data.toList ++ 10 :: b.data.toList := by simp [ByteArray.data_append, Id.modM]
set_option maxRecDepth 100000 in
set_option maxHeartbeats 8000000 in
theorem idlMore_walk (s t : ByteArray) (hs : s.size ≤ maxLen) (ht : t.size ≤ maxLen) (w : World) (hk : Tk.KW w) :
    Calls Tryd.prog 6 #[.string s, .string t] w fun e w' => e = .returned (.bool true) ∧ Below w.heap.size w w' := by
  unfold maxLen at hs ht
  go_enter Tryd.func6, Tryd.ntmps6
  go_upto_if 16 with (fail)
  go_cut [0] (fun x wx => ∃ a' : ByteArray, a'.size ≤ 2500 ∧ x = .string a' ∧ wx = w)
  case first =>
    by_cases h1 : 2500 < s.size
    · go_wp2_with fail
      go_meet
      case rel => exact ⟨_, by simp; omega, rfl, rfl⟩
    · go_wp2_with fail
      go_meet
      case rel => exact ⟨_, by omega, rfl, rfl⟩
  case rest =>
    obtain ⟨a, ha, rfl, rfl⟩ := hcut
    go_upto_if 21 with (fail)
    go_cut [1] (fun x wx => ∃ a' : ByteArray, a'.size ≤ 2500 ∧ x = .string a' ∧ wx = wc)
    case first =>
      by_cases h1 : 2500 < t.size
      · go_wp2_with fail
        go_meet
        case rel => exact ⟨_, by simp; omega, rfl, rfl⟩
      · go_wp2_with fail
        go_meet
        case rel => exact ⟨_, by omega, rfl, rfl⟩
    case rest =>
      obtain ⟨b, hb, rfl, rfl⟩ := hcut
      clear hs ht
      obtain ⟨⟨⟨xn, xr, xv, xg⟩, pa, ea⟩, HP⟩ : ∃ q, Hid (Id.parse a = q) := ⟨_, Lib.hid rfl⟩
      obtain ⟨⟨⟨yn, yr, yv, yg⟩, pd, ed⟩, HD⟩ : ∃ q, Hid (Id.parse ((⟨#[109, 111, 100, 117, 108, 101, 32, 109, 59, 10]⟩ : ByteArray) ++ b) = q) := ⟨_, Lib.hid rfl⟩
      have h10 : (⟨#[109, 111, 100, 117, 108, 101, 32, 109, 59, 10]⟩ : ByteArray).size = 10 := rfl
      have hds : ((⟨#[109, 111, 100, 117, 108, 101, 32, 109, 59, 10]⟩ : ByteArray) ++ b).size ≤ 2510 := by rw [ByteArray.size_append]; omega
      clear h10
      have hcx := Id.parse_count a
      have hcy := Id.parse_count ((⟨#[109, 111, 100, 117, 108, 101, 32, 109, 59, 10]⟩ : ByteArray) ++ b)
      rw [HP.out] at hcx
      rw [HD.out] at hcy
      simp only at hcx hcy
      have hsum3 : ¬ 9223372036854775807 < 10 + b.size := by omega
      go_wp2_with fail
      refine (pparse_any a (by omega) _ hk).mono ?_
      rintro e w1 ⟨v1, rfl, hb1, hs1⟩
      rw [HP.out] at hs1 ⊢
      simp only at hs1 ⊢
      have HS1 := Lib.hid hs1
      obtain ⟨A1, n1, c1, A2, n2, c2, A3, n3, c3, rfl, -⟩ := hs1
      have HB1 := Lib.hid hb1
      have HB1a := Lib.hid (hb1.alloc (by have := hb1.size; omega) (.cells #[.string xn, .slice A1 n1 c1, .slice A2 n2 c2, .slice A3 n3 c3] 26))
      have HK1 := Lib.hid (hk.below HB1a.out)
      clear hb1
      go_wp2_with fail
      refine (pparse_any _ (by omega) _ HK1.out).mono ?_
      rintro e w2 ⟨v2, rfl, hb2, hs2⟩
      rw [HD.out] at hs2 ⊢
      simp only at hs2 ⊢
      have HS2 := Lib.hid hs2
      obtain ⟨B1, m1, d1, B2, m2, d2, B3, m3, d3, rfl, -⟩ := hs2
      have HB2 := Lib.hid hb2
      have HB2a := Lib.hid ((bl_join HB1a.out hb2).alloc (by have := HB1a.out.size; have := hb2.size; omega) (.cells #[.string yn, .slice B1 m1 d1, .slice B2 m2 d2, .slice B3 m3 d3] 26))
      have HK2 := Lib.hid (hk.below HB2a.out)
      clear hb2
      by_cases hea : ea = 0
      case neg =>
        have t1 : ((ea : Int) != 0) = true := by rw [bne_iff_ne]; omega
        have t1b : decide (ea = 0) = false := by simpa using hea
        clear hea
        go_wp2_with fail
        refine (wakes12_any _ HK2.out).mono ?_
        rintro e w9 ⟨rfl, hb9⟩
        have HF := Lib.hid (bl_join HB2a.out hb9)
        clear hb9
        go_wp2_with fail
        go_ret
        exact ⟨rfl, HF.out⟩
      subst hea
      by_cases hed : ed = 0
      case neg =>
        have t1 : ((ed : Int) != 0) = true := by rw [bne_iff_ne]; omega
        have t1b : decide (ed = 0) = false := by simpa using hed
        clear hed
        go_wp2_with fail
        refine (wakes12_any _ HK2.out).mono ?_
        rintro e w9 ⟨rfl, hb9⟩
        have HF := Lib.hid (bl_join HB2a.out hb9)
        clear hb9
        go_wp2_with fail
        go_ret
        exact ⟨rfl, HF.out⟩
      subst hed
      have h10 : (⟨#[10]⟩ : ByteArray).size = 1 := rfl
      have hcs : ((a ++ (⟨#[10]⟩ : ByteArray)) ++ b).size ≤ 5001 := by rw [ByteArray.size_append, ByteArray.size_append]; omega
      clear h10
      have HC : Hid (Id.parse ((a ++ (⟨#[10]⟩ : ByteArray)) ++ b) = (⟨xn, xr ++ yr, xv ++ yv, xg ++ yg⟩, 0, 0)) := Lib.hid (by
        rw [Id.more (cat_data2 a b) (by omega) (cat_data3 b) (by omega) (by rw [HP.out]) (by rw [HD.out]), HP.out, HD.out]
        rfl)
      have hsum : ¬ 9223372036854775807 < a.size + 1 + b.size := by omega
      have hsum2 : ¬ 9223372036854775807 < a.size + 1 := by omega
      go_wp2_with fail
      refine (pparse_any _ (by omega) _ HK2.out).mono ?_
      rintro e w3 ⟨v3, rfl, hb3, hs3⟩
      rw [HC.out] at hs3 ⊢
      simp only at hs3 ⊢
      have HS3 := Lib.hid hs3
      obtain ⟨C1, p1, f1, C2, p2, f2, C3, p3, f3, rfl, -⟩ := hs3
      have HM0 := Lib.hid (Id.MS.start HB1.out HS1.out HB2.out HS2.out hb3 HS3.out)
      clear hb3 HS1 HS2 HS3 HB1 HB2
      simp only at HM0
      go_upto_region 10 with (fail)
      generalize w3.alloc (.cells #[.string xn, .slice C1 p1 f1, .slice C2 p2 f2, .slice C3 p3 f3] 26) = v0 at *
      generalize w1.heap.size = g5 at *
      generalize w2.heap.size = g8 at *
      generalize w3.heap.size = g11 at *
      have hg5 := HM0.out.d8
      have hg8 := HM0.out.d11
      have hne5 : ¬ g5 = g8 := by omega
      have hne11 : ¬ g5 = g11 := by omega
      obtain ⟨⟨k0, k1, k2, k3⟩, l0, l1, l2, l3⟩ := HM0.out.q5.k4
      obtain ⟨⟨i0, i1, i2, i3⟩, j0, j1, j2, j3⟩ := HM0.out.q8.k4
      go_upto_region 11 with (at_builtin; go_must (refine wpList_append_rows rfl _ _ _ rfl wc.heap.size 54 _ 3 48 Tryd.underlying22 Id.info_rec rfl (by decide) (Id.RecE (some wc.heap.size)) _ xr rfl HM0.out.s1 _ _ _ yr rfl (HM0.out.t1 rfl) (fun cs x => Id.RecE.one cs x) (fun w' h => Id.RecE.only w' h) (by simp only [maxLen]; omega) (by omega) HM0.out.bl.size ?_); intro v' v1 hrow hbe hon hgr; obtain ⟨D1, q1, z1, rfl⟩ := ERow.is hrow; have HM1 := Lib.hid (Id.MS.rcs HM0.out hrow hbe hon hgr); obtain ⟨⟨k0, k1, k2, k3⟩, l0, l1, l2, l3⟩ := (hon.bk HM0.out.q5 (by decide)).k4; clear hrow hbe hon hgr)
      generalize v1.setCell ⟨g5, 1, none⟩ (.slice D1 q1 z1) = v2 at *
      clear HM0 k0 k1 k2 k3 l0 l1 l2 l3 i0 i1 i2 i3 j0 j1 j2 j3
      obtain ⟨⟨k0, k1, k2, k3⟩, l0, l1, l2, l3⟩ := HM1.out.q5.k4
      obtain ⟨⟨i0, i1, i2, i3⟩, j0, j1, j2, j3⟩ := HM1.out.q8.k4
      go_upto_region 12 with (at_builtin; go_must (refine wpList_append_rows rfl _ _ _ rfl wc.heap.size 58 _ 2 40 Tryd.underlying23 Id.info_svc rfl (by decide) (Id.SvcE (some wc.heap.size)) _ xv rfl HM1.out.s2 _ _ _ yv rfl (HM1.out.t2 (by omega)) (fun cs x => Id.SvcE.one cs x) (fun w' h => Id.SvcE.only w' h) (by simp only [maxLen]; omega) (by omega) HM1.out.bl.size ?_); intro v' v3 hrow hbe hon hgr; obtain ⟨D2, q2, z2, rfl⟩ := ERow.is hrow; have HM2 := Lib.hid (Id.MS.svc HM1.out hrow hbe hon hgr); obtain ⟨⟨k0, k1, k2, k3⟩, l0, l1, l2, l3⟩ := (hon.bk HM1.out.q5 (by decide)).k4; clear hrow hbe hon hgr)
      generalize v3.setCell ⟨g5, 2, none⟩ (.slice D2 q2 z2) = v4 at *
      clear HM1 k0 k1 k2 k3 l0 l1 l2 l3 i0 i1 i2 i3 j0 j1 j2 j3
      obtain ⟨⟨k0, k1, k2, k3⟩, l0, l1, l2, l3⟩ := HM2.out.q5.k4
      obtain ⟨⟨i0, i1, i2, i3⟩, j0, j1, j2, j3⟩ := HM2.out.q8.k4
      go_upto_region 13 with (at_builtin; go_must (refine wpList_append_rows rfl _ _ _ rfl wc.heap.size 62 _ 3 56 Tryd.underlying24 Id.info_sag rfl (by decide) (Id.SagE (some wc.heap.size)) _ xg rfl HM2.out.s3 _ _ _ yg rfl (HM2.out.t3 (by omega)) (fun cs x => Id.SagE.one cs x) (fun w' h => Id.SagE.only w' h) (by simp only [maxLen]; omega) (by omega) HM2.out.bl.size ?_); intro v' v5 hrow hbe hon hgr; obtain ⟨D3, q3, z3, rfl⟩ := ERow.is hrow; have HM3 := Lib.hid (Id.MS.sag HM2.out hrow hbe hon hgr); obtain ⟨⟨k0, k1, k2, k3⟩, l0, l1, l2, l3⟩ := (hon.bk HM2.out.q5 (by decide)).k4; clear hrow hbe hon hgr)
      generalize v5.setCell ⟨g5, 3, none⟩ (.slice D3 q3 z3) = v6 at *
      clear HM2 k0 k1 k2 k3 l0 l1 l2 l3 i0 i1 i2 i3 j0 j1 j2 j3
      obtain ⟨⟨k0, k1, k2, k3⟩, l0, l1, l2, l3⟩ := HM3.out.q5.k4
      obtain ⟨⟨i0, i1, i2, i3⟩, j0, j1, j2, j3⟩ := HM3.out.q11.k4
      go_wp2_with fail
      refine (same12_any ⟨xn, xr ++ yr, xv ++ yv, xg ++ yg⟩ ⟨xn, xr ++ yr, xv ++ yv, xg ++ yg⟩ _ _ _ (Id.SchV.weak (Id.wk_none _) ⟨_, _, _, _, _, _, _, _, _, rfl, HM3.out.s1, HM3.out.s2, HM3.out.s3⟩) (Id.SchV.weak (Id.wk_none _) HM3.out.uv)).mono ?_
      rintro e w7 ⟨rfl, hb7⟩
      rw [Id.schEq_refl]
      have HB7 := Lib.hid (bl_join HM3.out.bl hb7)
      have HK7 := Lib.hid (hk.below HB7.out)
      clear hb7 k0 k1 k2 k3 l0 l1 l2 l3 i0 i1 i2 i3 j0 j1 j2 j3
      go_wp2_with fail
      refine (wakes12_any _ HK7.out).mono ?_
      rintro e w9 ⟨rfl, hb9⟩
      have HF := Lib.hid (bl_join HB7.out hb9)
      clear hb9
      go_wp2_with fail
      go_ret
      exact ⟨rfl, HF.out⟩
end Go.Proofs.YtoomlpalkinipaaDoor
