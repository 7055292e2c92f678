/- The parser: schema's walk. The parser: whole, Parse, Type. Same sorts, records, services, sagas, schemas. (merged by merge.py: XIdlN XIdlO XIdlX). No condition but the ones the theorems state. -/
import Derived.Test.YtmncppnpppdfkaaGreatDoorIdlK2
import Derived.Test.YtmncppnpppdfkaaGreatDoorK0
import Derived.Test.YtmncppnpppdfkaaGreatDoorKT2
set_option linter.unusedVariables false
set_option linter.unusedSimpArgs false
namespace Go.Proofs.YtmncppnpppdfkaaGreatDoor
open Go.RowKit
set_option maxRecDepth 100000 in
set_option maxHeartbeats 8000000 in
theorem pschema_any (b : Nat) (hb0 : 0 < b) (s0 : Id.St) (hsz : s0.1.length ≤ 1000000) (w : World) (hk : Tk.KW w) (h : Id.Ps w b s0) :
    Calls Tryz.prog 57 #[.pointer (some ⟨b, 0, none⟩)] w fun e w' => ∃ v1 v2 v3, e = .returned (.agg #[.string (Id.schema s0).1.name, v1, v2, v3]) ∧ w.grownBy w' (some b) ∧ Id.Ps w' b (Id.schema s0).2 ∧ Id.RecsR w' (some w.heap.size) v1 (Id.schema s0).1.records ∧ Id.SvcsR w' (some w.heap.size) v2 (Id.schema s0).1.services ∧ Id.SagsR w' (some w.heap.size) v3 (Id.schema s0).1.sagas := by
  obtain ⟨R, HR⟩ : ∃ R, Hid (Id.schema s0 = R) := ⟨_, Lib.hid rfl⟩
  rw [HR.out]
  have hbw := h.lt
  have hl1 := Id.want_le s0 Id.wModule
  obtain ⟨s1, H1⟩ : ∃ R, Hid (Id.want s0 Id.wModule = R) := ⟨_, Lib.hid rfl⟩
  rw [H1.out] at hl1
  have hl2 := Id.name_le s1
  obtain ⟨⟨nm, s2⟩, H2⟩ : ∃ R, Hid (Id.name s1 = R) := ⟨_, Lib.hid rfl⟩
  rw [H2.out] at hl2
  have hl3 := Id.want_le s2 Id.sSemi
  obtain ⟨s3, H3⟩ : ∃ R, Hid (Id.want s2 Id.sSemi = R) := ⟨_, Lib.hid rfl⟩
  rw [H3.out] at hl3
  simp only at hl2
  have HR0 : Hid (Id.schemaF (s3.1.length + 2) s3 ⟨nm, [], [], []⟩ = R) := Lib.hid (by rw [← HR.out]; unfold Id.schema; simp only [H1.out, H2.out, H3.out])
  have hW := (Id.PW.start h hk).alloc (.cells #[.string ⟨#[]⟩, .slice none 0 0, .slice none 0 0, .slice none 0 0] 26)
  have hq := Bk.new w 26 #[.string ⟨#[]⟩, .slice none 0 0, .slice none 0 0, .slice none 0 0]
  clear h hk
  go_enter Tryz.func57, Tryz.ntmps57
  go_wp2_with fail
  refine (pwant_any b s0 Id.wModule _ hW.ps).mono ?_
  rintro e w1 ⟨rfl, hg, hp⟩
  rw [H1.out] at hp
  replace hW := hW.call hb0 hg hp
  replace hq := hq.call hg (by omega)
  clear hg hp
  go_wp2_with fail
  refine (pname_any b hb0 s1 _ hW.kw hW.ps).mono ?_
  rintro e w2 ⟨rfl, hg, hp⟩
  rw [H2.out] at hp ⊢
  simp only at hp ⊢
  replace hW := hW.call hb0 hg hp
  replace hq := hq.call hg (by omega)
  clear hg hp
  obtain ⟨⟨q0, q1, q2, q3⟩, q4, q5, q6, q7⟩ := hq.k4
  go_wp2_with fail
  clear q0 q1 q2 q3 q4 q5 q6 q7
  replace hW := hW.set hq (Nat.le_refl _) (by omega) (by decide) (by decide) 0 (.string nm)
  replace hq : Bk (w2.setCell ⟨w.heap.size, 0, none⟩ (.string nm)) w.heap.size 26 #[.string nm, .slice none 0 0, .slice none 0 0, .slice none 0 0] := hq.set_ 0 (.string nm)
  refine (pwant_any b s2 Id.sSemi _ hW.ps).mono ?_
  rintro e w3 ⟨rfl, hg, hp⟩
  rw [H3.out] at hp
  replace hW := hW.call hb0 hg hp
  replace hq := hq.call hg (by omega)
  clear hg hp
  have HA0 := Lib.hid (show Id.SchAt w b R (s3.1.length + 2) w3 s3 ⟨nm, [], [], []⟩ from ⟨fun _ => Nat.le_refl _, by omega, by simp; omega, hW, ⟨_, _, _, _, _, _, _, _, _, hq, ERow.nil _ _ _ _ _, ERow.nil _ _ _ _ _, ERow.nil _ _ _ _ _⟩, HR0.out⟩)
  clear hq hW
  go_wp2_with fail
  go_loopg [25] (s3.1.length + 2) (fun n l wr => ∃ (s : Id.St) (x : Id.Sch), Hid (Id.SchAt w b R n wr s x))
  case atStart => exact ⟨s3, _, HA0⟩
  case round =>
    obtain ⟨s, x, HA⟩ := hrel
    obtain ⟨f, rfl⟩ : ∃ f, gk = f + 1 := ⟨gk - 1, by have := HA.out.fo; omega⟩
    obtain ⟨l, bad⟩ := s
    obtain ⟨A, c, hk, hr, hc, hc2, hne⟩ := HA.out.pw.ps.lies
    obtain ⟨⟨c0, c1⟩, f0, f1⟩ := hk.k2
    have hln := HA.out.ln
    have hfu := HA.out.fu
    have hzr := HA.out.pw.gb.size
    simp only at hln hfu
    clear hr hne hk hc f0 f1
    have hend : ((l, bad).2 = true ∨ (l, bad).1 = []) → R = (x, (l, bad)) := fun e => by rw [← HA.out.out, Id.schemaF, if_pos e]
    cases bad
    case' true =>
      have HE : Hid (R = (x, (l, true))) := Lib.hid (hend (.inl rfl))
      clear hfu hend
    case' false =>
      cases l
      case' nil =>
        have HE : Hid (R = (x, ([], false))) := Lib.hid (hend (.inr rfl))
        simp only [List.length_nil] at c0
        clear hfu hend
    case true =>
      obtain ⟨A1, n1, c1', A2, n2, c2', A3, n3, c3', hq, r1, r2, r3⟩ := HA.out.blk
      obtain ⟨xn, xr, xv, xg⟩ := x
      obtain ⟨⟨q0, q1, q2, q3⟩, q4, q5, q6, q7⟩ := hq.k4
      have HR1 := Lib.hid r1
      have HR2 := Lib.hid r2
      have HR3 := Lib.hid r3
      clear r1 r2 r3
      simp only at q0 hq
      go_wp2_with fail
      have ho := (((Only.set hq 0 (.string xn)).trans (Only.set (hq.set_ 0 (.string xn)) 1 (.slice A1 n1 c1'))).trans (Only.set ((hq.set_ 0 (.string xn)).set_ 1 (.slice A1 n1 c1')) 2 (.slice A2 n2 c2'))).trans (Only.set (((hq.set_ 0 (.string xn)).set_ 1 (.slice A1 n1 c1')).set_ 2 (.slice A2 n2 c2')) 3 (.slice A3 n3 c3'))
      have hqf := (((hq.set_ 0 (.string xn)).set_ 1 (.slice A1 n1 c1')).set_ 2 (.slice A2 n2 c2')).set_ 3 (.slice A3 n3 c3')
      have hGf := gb_set (gb_set (gb_set (gb_set HA.out.pw.gb (p := ⟨w.heap.size, 0, none⟩) (.inr (Nat.le_refl _)) (.string xn)) (p := ⟨w.heap.size, 1, none⟩) (.inr (Nat.le_refl _)) (.slice A1 n1 c1')) (p := ⟨w.heap.size, 2, none⟩) (.inr (Nat.le_refl _)) (.slice A2 n2 c2')) (p := ⟨w.heap.size, 3, none⟩) (.inr (Nat.le_refl _)) (.slice A3 n3 c3')
      generalize ((((wr.setCell ⟨w.heap.size, 0, none⟩ (.string xn)).setCell ⟨w.heap.size, 1, none⟩ (.slice A1 n1 c1')).setCell ⟨w.heap.size, 2, none⟩ (.slice A2 n2 c2')).setCell ⟨w.heap.size, 3, none⟩ (.slice A3 n3 c3')) = w6 at *
      have hkp := ho.kp w.heap.size (T := Id.schT) (by decide)
      have g1 := HR1.out.kp hkp (Nat.le_refl _) (by decide) (by decide) (by decide)
      have g2 := HR2.out.kp hkp (Nat.le_refl _) (by decide) (by decide)
      have g3 := HR3.out.kp hkp (Nat.le_refl _) (by decide) (by decide)
      obtain ⟨⟨p0, p1, p2, p3⟩, _⟩ := hqf.k4
      refine bodyPost_ret (v := .agg #[.string xn, .slice A1 n1 c1', .slice A2 n2 c2', .slice A3 n3 c3']) ?_ rfl ⟨_, _, _, by rw [HE.out], hGf, by rw [HE.out]; exact HA.out.pw.ps.only ho (by decide) (by decide), by rw [HE.out]; exact g1, by rw [HE.out]; exact g2, by rw [HE.out]; exact g3⟩
      rw [res_c rfl]
      go_simp
      try rfl
    case false.nil =>
      obtain ⟨A1, n1, c1', A2, n2, c2', A3, n3, c3', hq, r1, r2, r3⟩ := HA.out.blk
      obtain ⟨xn, xr, xv, xg⟩ := x
      obtain ⟨⟨q0, q1, q2, q3⟩, q4, q5, q6, q7⟩ := hq.k4
      have HR1 := Lib.hid r1
      have HR2 := Lib.hid r2
      have HR3 := Lib.hid r3
      clear r1 r2 r3
      simp only at q0 hq
      go_wp2_with fail
      have ho := (((Only.set hq 0 (.string xn)).trans (Only.set (hq.set_ 0 (.string xn)) 1 (.slice A1 n1 c1'))).trans (Only.set ((hq.set_ 0 (.string xn)).set_ 1 (.slice A1 n1 c1')) 2 (.slice A2 n2 c2'))).trans (Only.set (((hq.set_ 0 (.string xn)).set_ 1 (.slice A1 n1 c1')).set_ 2 (.slice A2 n2 c2')) 3 (.slice A3 n3 c3'))
      have hqf := (((hq.set_ 0 (.string xn)).set_ 1 (.slice A1 n1 c1')).set_ 2 (.slice A2 n2 c2')).set_ 3 (.slice A3 n3 c3')
      have hGf := gb_set (gb_set (gb_set (gb_set HA.out.pw.gb (p := ⟨w.heap.size, 0, none⟩) (.inr (Nat.le_refl _)) (.string xn)) (p := ⟨w.heap.size, 1, none⟩) (.inr (Nat.le_refl _)) (.slice A1 n1 c1')) (p := ⟨w.heap.size, 2, none⟩) (.inr (Nat.le_refl _)) (.slice A2 n2 c2')) (p := ⟨w.heap.size, 3, none⟩) (.inr (Nat.le_refl _)) (.slice A3 n3 c3')
      generalize ((((wr.setCell ⟨w.heap.size, 0, none⟩ (.string xn)).setCell ⟨w.heap.size, 1, none⟩ (.slice A1 n1 c1')).setCell ⟨w.heap.size, 2, none⟩ (.slice A2 n2 c2')).setCell ⟨w.heap.size, 3, none⟩ (.slice A3 n3 c3')) = w6 at *
      have hkp := ho.kp w.heap.size (T := Id.schT) (by decide)
      have g1 := HR1.out.kp hkp (Nat.le_refl _) (by decide) (by decide) (by decide)
      have g2 := HR2.out.kp hkp (Nat.le_refl _) (by decide) (by decide)
      have g3 := HR3.out.kp hkp (Nat.le_refl _) (by decide) (by decide)
      obtain ⟨⟨p0, p1, p2, p3⟩, _⟩ := hqf.k4
      refine bodyPost_ret (v := .agg #[.string xn, .slice A1 n1 c1', .slice A2 n2 c2', .slice A3 n3 c3']) ?_ rfl ⟨_, _, _, by rw [HE.out], hGf, by rw [HE.out]; exact HA.out.pw.ps.only ho (by decide) (by decide), by rw [HE.out]; exact g1, by rw [HE.out]; exact g2, by rw [HE.out]; exact g3⟩
      rw [res_c rfl]
      go_simp
      try rfl
    case false.cons t r =>
      have HX : Hid (R = Id.schemaF (f + 1) (t :: r, false) x) := Lib.hid HA.out.out.symm
      have hwc := Id.words_cases Id.decls (t :: r, false) rfl
      have hwl := Id.words_le Id.decls (t :: r, false)
      obtain ⟨⟨wd, s4⟩, HW⟩ : ∃ R, Hid (Id.words Id.decls (t :: r, false) = R) := ⟨_, Lib.hid rfl⟩
      rw [HW.out] at hwc hwl
      simp only [List.length_cons] at hwc hwl hln hfu c0
      obtain ⟨m, hm⟩ : ∃ m, m = r.length := ⟨_, rfl⟩
      rw [← hm] at hwc hwl hln hfu c0
      have hm1 : (0 : Int) < (m : Int) + 1 := by omega
      replace hfu := hfu trivial
      have HSB := Lib.hid HA.out.blk
      have HPW := Lib.hid HA.out.pw
      have hk0 : ¬ ((t :: r, false).2 = true ∨ (t :: r, false).1 = ([] : List Tk.Tok)) := by simp
      have HX2 : Hid (R = if wd.toList = [114, 101, 99, 111, 114, 100] then Id.schemaF f (Id.record false s4).2 { x with records := x.records ++ [(Id.record false s4).1] } else
        if wd.toList = [99, 104, 111, 105, 99, 101] then Id.schemaF f (Id.record true s4).2 { x with records := x.records ++ [(Id.record true s4).1] } else
        if wd.toList = [115, 101, 114, 118, 105, 99, 101] then Id.schemaF f (Id.service s4).2 { x with services := x.services ++ [(Id.service s4).1] } else
        if wd.toList = [115, 97, 103, 97] then Id.schemaF f (Id.saga s4).2 { x with sagas := x.sagas ++ [(Id.saga s4).1] } else
        Id.schemaF f s4 x) := Lib.hid (by rw [HX.out, Id.schemaF, if_neg hk0, HW.out])
      clear hend HX hk0 hm HR HR0
      go_wp2_with fail
      have hL := lie_alloc wr 9 #[.string Id.wRecord, .string Id.wChoice, .string Id.wService, .string Id.wSaga] _ rfl
      have hbl := (Below.refl wr.heap.size wr).alloc (Nat.le_refl _) (.cells #[.string Id.wRecord, .string Id.wChoice, .string Id.wService, .string Id.wSaga] 9)
      refine (pwords_any _ 4 4 Id.decls rfl (by omega) b _ _ hL (HPW.out.below hbl).ps).mono ?_
      rintro e w4 ⟨rfl, hg, hp⟩
      rw [HW.out] at hp ⊢
      simp only at hp ⊢
      have HPW4 := Lib.hid ((HPW.out.below hbl).call hb0 hg hp)
      have HSB4 := Lib.hid ((HSB.out.below hbl).call hg (by omega) (by omega))
      have hz4 := HPW4.out.gb.size
      clear hg hp hL hbl HSB HPW c0 c1 hzr
      by_cases e1 : wd.toList = [114, 101, 99, 111, 114, 100]
      · have HE : Hid (Id.schemaF f (Id.record false s4).2 { x with records := x.records ++ [(Id.record false s4).1] } = R) := Lib.hid (by rw [HX2.out, if_pos e1])
        have t1 : (wd.toList == [114, 101, 99, 111, 114, 100]) = true := beq_iff_eq.2 e1
        have hs4 : s4.1.length + 1 = m + 1 := by
          rcases hwc with ⟨_, h⟩ | ⟨_, h⟩
          · exact h
          · rw [h, Id.empty_toList] at e1
            cases e1
        have hn5 := Id.name_le s4
        obtain ⟨⟨n5, s5⟩, H5⟩ : ∃ R, Hid (Id.name s4 = R) := ⟨_, Lib.hid rfl⟩
        rw [H5.out] at hn5
        have hn6 := Id.within_le Id.field_le s5
        obtain ⟨⟨fs, s6⟩, H6⟩ : ∃ R, Hid (Id.within Id.field s5 = R) := ⟨_, Lib.hid rfl⟩
        rw [H6.out] at hn6
        simp only at hn5 hn6
        have HE2 : Hid (Id.schemaF f s6 { x with records := x.records ++ [⟨n5, false, fs⟩] } = R) := Lib.hid (by rw [← HE.out]; simp only [Id.record, H5.out, H6.out])
        have HPD := Lib.hid (HPW4.out.below (Below.refl _ _).drew)
        obtain ⟨A1, n1, c1', A2, n2, c2', A3, n3, c3', hq, r1, r2, r3⟩ := HSB4.out.below (Below.refl _ _).drew
        have HR1 := Lib.hid r1
        have HR2 := Lib.hid r2
        have HR3 := Lib.hid r3
        have q1 : w4.drew.cell? ⟨w.heap.size, 1, none⟩ = some (.slice A1 n1 c1') := hq.cell 1
        have HQ := Lib.hid hq
        clear r1 r2 r3 HX2 HE e1 hq HSB4 HPW4 hwc
        go_wp2_with fail
        refine wp_region_L_calm (fun w' => w'.cell? ⟨w.heap.size, 1, none⟩ = some (.slice A1 n1 c1')) [10, 12] (by kernel_rfl) q1 (fun hHeld => ?_)
        (refine wpAnyL_take0 0 (v := ?_) rfl (by kernel_rfl) (by kernel_rfl) (by kernel_rfl) (by kernel_rfl) (fun _ _ _ h => h) (fun _ => by assumption) (by rfl) ?_ ?_; rotate_left; · (intro w; go_simp; try with_reducible rfl); try simp only [Act.put, List.setIfInBounds_toArray, List.set_cons_zero, List.set_cons_succ])
        (refine wpAnyL_take 1 (v := ?_) rfl (by kernel_rfl) (by kernel_rfl) (by kernel_rfl) (by kernel_rfl) (fun _ _ _ h => h) (by assumption) (by rfl) ?_ ?_; rotate_left; · (intro w hSw; (try dsimp only at hSw); go_split_ands; go_simp; try with_reducible rfl); try simp only [Act.put, List.setIfInBounds_toArray, List.set_cons_zero, List.set_cons_succ])
        (refine wpAnyL_take0 2 (v := ?_) rfl (by kernel_rfl) (by kernel_rfl) (by kernel_rfl) (by kernel_rfl) (fun _ _ _ h => h) (fun _ => by assumption) (by rfl) ?_ ?_; rotate_left; · (intro w; go_simp; try with_reducible rfl); try simp only [Act.put, List.setIfInBounds_toArray, List.set_cons_zero, List.set_cons_succ])
        (refine wpAnyL_take0 4 (v := ?_) rfl (by kernel_rfl) (by kernel_rfl) (by kernel_rfl) (by kernel_rfl) (fun _ _ _ h => h) (fun _ => by assumption) (by rfl) ?_ ?_; rotate_left; · (intro w; go_simp; try with_reducible rfl); try simp only [Act.put, List.setIfInBounds_toArray, List.set_cons_zero, List.set_cons_succ])
        (refine wpAnyL_take0 5 (v := ?_) rfl (by kernel_rfl) (by kernel_rfl) (by kernel_rfl) (by kernel_rfl) (fun _ _ _ h => h) (fun _ => by assumption) (by rfl) ?_ ?_; rotate_left; · (intro w; go_simp; try with_reducible rfl); try simp only [Act.put, List.setIfInBounds_toArray, List.set_cons_zero, List.set_cons_succ])
        (refine wpAnyL_take0 6 (v := ?_) rfl (by kernel_rfl) (by kernel_rfl) (by kernel_rfl) (by kernel_rfl) (fun _ _ _ h => h) (fun _ => by assumption) (by rfl) ?_ ?_; rotate_left; · (intro w; go_simp; try with_reducible rfl); try simp only [Act.put, List.setIfInBounds_toArray, List.set_cons_zero, List.set_cons_succ])
        clear hHeld q1
        (refine wpAnyL_step 3 (by kernel_rfl) rfl (fun K hK => ?_))
        go_simp
        refine (pname_any b hb0 s4 _ HPD.out.kw HPD.out.ps).mono ?_
        rintro e w5 ⟨rfl, hg5, hp5⟩
        rw [H5.out] at hp5 ⊢
        simp only at hp5 ⊢
        have HPW5 := Lib.hid (HPD.out.call hb0 hg5 hp5)
        have HQ5 := Lib.hid (HQ.out.call hg5 hbw)
        have HK5 := Lib.hid (Kp.grown (base := w.heap.size) (T := Id.schT) hg5 hbw)
        clear hg5 hp5
        (refine hK.out _ _ (fun hnn => HQ5.out.cell 1) ?_; clear hK K; try simp only [Act.put, List.setIfInBounds_toArray, List.set_cons_zero, List.set_cons_succ])
        have hzi := HPW5.out.gb.size
        (refine wpAnyL_step 7 (by kernel_rfl) rfl (fun K hK => ?_))
        go_simp
        refine (pwithin_field b hb0 s5 (by omega) _ HPW5.out.kw HPW5.out.ps).mono ?_
        rintro e w6 ⟨v6, rfl, hg6, hp6, hr6⟩
        rw [H6.out] at hp6 hr6
        simp only at hp6 hr6 ⊢
        have HPW6 := Lib.hid (HPW5.out.call hb0 hg6 hp6)
        have HQ6 := Lib.hid (HQ5.out.call hg6 hbw)
        have HK6 := Lib.hid (HK5.out.trans (Kp.grown (T := Id.schT) hg6 hbw))
        obtain ⟨A6, n6, c6, rfl⟩ := ERow.is hr6
        have HR6 : Hid (Id.FldsR w6 (some w.heap.size) (.slice A6 n6 c6) fs) := Lib.hid (ERow.mono hr6 (fun _ _ h => h.weak (fun b' e => ⟨_, rfl, by injection e with e; omega⟩)) (fun cs x he => by obtain ⟨u, e, hs⟩ := he; exact ⟨u, e, ERow.mono hs (fun _ _ h => h.weak (fun b' e => ⟨_, rfl, by injection e with e; omega⟩)) (fun _ _ h => h)⟩))
        clear hg6 hp6 hr6
        (refine hK.out _ _ (fun hnn => HQ6.out.cell 1) ?_; clear hK K; try simp only [Act.put, List.setIfInBounds_toArray, List.set_cons_zero, List.set_cons_succ])
        (refine wpAnyL_step 8 (by kernel_rfl) rfl (fun K hK => ?_))
        go_simp
        (refine hK.out _ _ (fun hnn => HQ6.out.cell 1) ?_; clear hK K; try simp only [Act.put, List.setIfInBounds_toArray, List.set_cons_zero, List.set_cons_succ])
        (refine wpAnyL_step 9 (by kernel_rfl) rfl (fun K hK => ?_))
        go_simp
        (refine hK.out _ _ (fun hnn => (HQ6.out.alloc _).cell 1) ?_; clear hK K; try simp only [Act.put, List.setIfInBounds_toArray, List.set_cons_zero, List.set_cons_succ])
        have hz6 := HPW6.out.gb.size
        (refine wpAnyL_step 10 (by kernel_rfl) rfl (fun K hK => ?_))
        refine step_append_el rfl _ _ _ rfl w.heap.size 66 _ 3 48 Tryz.underlying22 Id.info_rec rfl (by decide) (Id.RecE (some w.heap.size)) (.slice A1 n1 c1') x.records rfl (Id.RecsR.kp HR1.out (HK6.out.trans (Kp.below ((Below.refl _ _).alloc (Nat.le_refl _) _))) (Nat.le_refl _) (by decide) (by decide) (by decide)) [.string n5, .bool false, .slice A6 n6 c6] rfl _ rfl (Bk.new _ _ _) (by simp [Value.oneCell']) (by simp only [maxLen]; omega) (by omega) (by simp; omega) ?_
        intro A7 n7' c7 w8 hrow8 hb8 ho8
        have HROW := Lib.hid hrow8
        have HB8 := Lib.hid hb8
        have HO8 := Lib.hid ho8
        have HQ8 := Lib.hid (ho8.bk (HQ6.out.alloc _) (by decide))
        clear hrow8 hb8 ho8
        (refine hK.out _ _ (fun hnn => absurd hnn (by decide)) ?_; clear hK K; try simp only [Act.put, List.setIfInBounds_toArray, List.set_cons_zero, List.set_cons_succ])
        (refine wpAnyL_step 11 (by kernel_rfl) rfl (fun K hK => ?_))
        go_simp
        (refine hK.out _ _ (fun hnn => absurd hnn (by decide)) ?_; clear hK K; try simp only [Act.put, List.setIfInBounds_toArray, List.set_cons_zero, List.set_cons_succ])
        have q8 := HQ8.out.cell 1
        have q9 := HQ8.out.frozen 1
        simp only [List.size_toArray, List.length_cons, List.length_nil, List.getElem?_toArray, List.getElem?_cons_succ, List.getElem?_cons_zero] at q8
        (refine wpAnyL_step 12 (by kernel_rfl) rfl (fun K hK => ?_))
        go_simp
        (refine hK.out _ _ (fun hnn => absurd hnn (by decide)) ?_; clear hK K; try simp only [Act.put, List.setIfInBounds_toArray, List.set_cons_zero, List.set_cons_succ])
        clear q8 q9
        refine wpAnyL_done (by kernel_rfl) ?_ _
        refine NoPanic.normal ?_
        go_wp2_with fail
        have HPW8 := Lib.hid ((HPW6.out.alloc (.cells #[.string n5, .bool false, .slice A6 n6 c6] 66)).row HB8.out HO8.out (by omega) (by decide) (by decide))
        have HKX := Lib.hid ((HK6.out.sub (Nat.le_refl _) (by decide)).trans ((Kp.below ((Below.refl _ _).alloc (Nat.le_refl _) (.cells #[.string n5, .bool false, .slice A6 n6 c6] 66))).trans (HO8.out.kp w.heap.size (T := [77, 85, 81, 88]) (by decide))))
        have HKI := (Kp.below (base := w.heap.size) (T := [68, 60]) ((Below.refl w6.heap.size w6).alloc (Nat.le_refl _) (.cells #[.string n5, .bool false, .slice A6 n6 c6] 66))).trans (HO8.out.kp w.heap.size (T := [68, 60]) (by decide))
        have hnew := HROW.out ⟨n5, false, fs⟩ (Id.RecE.kp (T := [68, 60]) (HO8.out.kp w.heap.size (by decide)) (Nat.le_refl _) (by decide) (by decide)) ⟨_, rfl, ERow.kp HR6.out HKI (Nat.le_refl _) (by decide) (Id.FldE.kp HKI (Nat.le_refl _) (by decide))⟩
        go_roundg f
        case rel => exact ⟨s6, _, Lib.hid ⟨fun _ => by omega, by omega, by simp; omega, HPW8.out.set HQ8.out (Nat.le_refl _) (by omega) (by decide) (by decide) 1 _, Id.SchB.rec HQ8.out hnew (HR2.out.kp HKX.out (Nat.le_refl _) (by decide) (by decide)) (HR3.out.kp HKX.out (Nat.le_refl _) (by decide) (by decide)), HE2.out⟩⟩
        case measure => omega
      by_cases e2 : wd.toList = [99, 104, 111, 105, 99, 101]
      · have HE : Hid (Id.schemaF f (Id.record true s4).2 { x with records := x.records ++ [(Id.record true s4).1] } = R) := Lib.hid (by rw [HX2.out, if_neg e1, if_pos e2])
        have t2 : (wd.toList == [99, 104, 111, 105, 99, 101]) = true := beq_iff_eq.2 e2
        have t1 : (wd.toList == [114, 101, 99, 111, 114, 100]) = false := beq_eq_false_iff_ne.2 e1
        have hs4 : s4.1.length + 1 = m + 1 := by
          rcases hwc with ⟨_, h⟩ | ⟨_, h⟩
          · exact h
          · rw [h, Id.empty_toList] at e2
            cases e2
        have hn5 := Id.name_le s4
        obtain ⟨⟨n5, s5⟩, H5⟩ : ∃ R, Hid (Id.name s4 = R) := ⟨_, Lib.hid rfl⟩
        rw [H5.out] at hn5
        have hn6 := Id.within_le Id.field_le s5
        obtain ⟨⟨fs, s6⟩, H6⟩ : ∃ R, Hid (Id.within Id.field s5 = R) := ⟨_, Lib.hid rfl⟩
        rw [H6.out] at hn6
        simp only at hn5 hn6
        have HE2 : Hid (Id.schemaF f s6 { x with records := x.records ++ [⟨n5, true, fs⟩] } = R) := Lib.hid (by rw [← HE.out]; simp only [Id.record, H5.out, H6.out])
        have HPD := Lib.hid (HPW4.out.below (Below.refl _ _).drew)
        obtain ⟨A1, n1, c1', A2, n2, c2', A3, n3, c3', hq, r1, r2, r3⟩ := HSB4.out.below (Below.refl _ _).drew
        have HR1 := Lib.hid r1
        have HR2 := Lib.hid r2
        have HR3 := Lib.hid r3
        have q1 : w4.drew.cell? ⟨w.heap.size, 1, none⟩ = some (.slice A1 n1 c1') := hq.cell 1
        have HQ := Lib.hid hq
        clear r1 r2 r3 HX2 HE e1 e2 hq HSB4 HPW4 hwc
        go_wp2_with fail
        refine wp_region_L_calm (fun w' => w'.cell? ⟨w.heap.size, 1, none⟩ = some (.slice A1 n1 c1')) [10, 12] (by kernel_rfl) q1 (fun hHeld => ?_)
        (refine wpAnyL_take0 0 (v := ?_) rfl (by kernel_rfl) (by kernel_rfl) (by kernel_rfl) (by kernel_rfl) (fun _ _ _ h => h) (fun _ => by assumption) (by rfl) ?_ ?_; rotate_left; · (intro w; go_simp; try with_reducible rfl); try simp only [Act.put, List.setIfInBounds_toArray, List.set_cons_zero, List.set_cons_succ])
        (refine wpAnyL_take 1 (v := ?_) rfl (by kernel_rfl) (by kernel_rfl) (by kernel_rfl) (by kernel_rfl) (fun _ _ _ h => h) (by assumption) (by rfl) ?_ ?_; rotate_left; · (intro w hSw; (try dsimp only at hSw); go_split_ands; go_simp; try with_reducible rfl); try simp only [Act.put, List.setIfInBounds_toArray, List.set_cons_zero, List.set_cons_succ])
        (refine wpAnyL_take0 2 (v := ?_) rfl (by kernel_rfl) (by kernel_rfl) (by kernel_rfl) (by kernel_rfl) (fun _ _ _ h => h) (fun _ => by assumption) (by rfl) ?_ ?_; rotate_left; · (intro w; go_simp; try with_reducible rfl); try simp only [Act.put, List.setIfInBounds_toArray, List.set_cons_zero, List.set_cons_succ])
        (refine wpAnyL_take0 4 (v := ?_) rfl (by kernel_rfl) (by kernel_rfl) (by kernel_rfl) (by kernel_rfl) (fun _ _ _ h => h) (fun _ => by assumption) (by rfl) ?_ ?_; rotate_left; · (intro w; go_simp; try with_reducible rfl); try simp only [Act.put, List.setIfInBounds_toArray, List.set_cons_zero, List.set_cons_succ])
        (refine wpAnyL_take0 5 (v := ?_) rfl (by kernel_rfl) (by kernel_rfl) (by kernel_rfl) (by kernel_rfl) (fun _ _ _ h => h) (fun _ => by assumption) (by rfl) ?_ ?_; rotate_left; · (intro w; go_simp; try with_reducible rfl); try simp only [Act.put, List.setIfInBounds_toArray, List.set_cons_zero, List.set_cons_succ])
        (refine wpAnyL_take0 6 (v := ?_) rfl (by kernel_rfl) (by kernel_rfl) (by kernel_rfl) (by kernel_rfl) (fun _ _ _ h => h) (fun _ => by assumption) (by rfl) ?_ ?_; rotate_left; · (intro w; go_simp; try with_reducible rfl); try simp only [Act.put, List.setIfInBounds_toArray, List.set_cons_zero, List.set_cons_succ])
        clear hHeld q1
        (refine wpAnyL_step 3 (by kernel_rfl) rfl (fun K hK => ?_))
        go_simp
        refine (pname_any b hb0 s4 _ HPD.out.kw HPD.out.ps).mono ?_
        rintro e w5 ⟨rfl, hg5, hp5⟩
        rw [H5.out] at hp5 ⊢
        simp only at hp5 ⊢
        have HPW5 := Lib.hid (HPD.out.call hb0 hg5 hp5)
        have HQ5 := Lib.hid (HQ.out.call hg5 hbw)
        have HK5 := Lib.hid (Kp.grown (base := w.heap.size) (T := Id.schT) hg5 hbw)
        clear hg5 hp5
        (refine hK.out _ _ (fun hnn => HQ5.out.cell 1) ?_; clear hK K; try simp only [Act.put, List.setIfInBounds_toArray, List.set_cons_zero, List.set_cons_succ])
        have hzi := HPW5.out.gb.size
        (refine wpAnyL_step 7 (by kernel_rfl) rfl (fun K hK => ?_))
        go_simp
        refine (pwithin_field b hb0 s5 (by omega) _ HPW5.out.kw HPW5.out.ps).mono ?_
        rintro e w6 ⟨v6, rfl, hg6, hp6, hr6⟩
        rw [H6.out] at hp6 hr6
        simp only at hp6 hr6 ⊢
        have HPW6 := Lib.hid (HPW5.out.call hb0 hg6 hp6)
        have HQ6 := Lib.hid (HQ5.out.call hg6 hbw)
        have HK6 := Lib.hid (HK5.out.trans (Kp.grown (T := Id.schT) hg6 hbw))
        obtain ⟨A6, n6, c6, rfl⟩ := ERow.is hr6
        have HR6 : Hid (Id.FldsR w6 (some w.heap.size) (.slice A6 n6 c6) fs) := Lib.hid (ERow.mono hr6 (fun _ _ h => h.weak (fun b' e => ⟨_, rfl, by injection e with e; omega⟩)) (fun cs x he => by obtain ⟨u, e, hs⟩ := he; exact ⟨u, e, ERow.mono hs (fun _ _ h => h.weak (fun b' e => ⟨_, rfl, by injection e with e; omega⟩)) (fun _ _ h => h)⟩))
        clear hg6 hp6 hr6
        (refine hK.out _ _ (fun hnn => HQ6.out.cell 1) ?_; clear hK K; try simp only [Act.put, List.setIfInBounds_toArray, List.set_cons_zero, List.set_cons_succ])
        (refine wpAnyL_step 8 (by kernel_rfl) rfl (fun K hK => ?_))
        go_simp
        (refine hK.out _ _ (fun hnn => HQ6.out.cell 1) ?_; clear hK K; try simp only [Act.put, List.setIfInBounds_toArray, List.set_cons_zero, List.set_cons_succ])
        (refine wpAnyL_step 9 (by kernel_rfl) rfl (fun K hK => ?_))
        go_simp
        (refine hK.out _ _ (fun hnn => (HQ6.out.alloc _).cell 1) ?_; clear hK K; try simp only [Act.put, List.setIfInBounds_toArray, List.set_cons_zero, List.set_cons_succ])
        have hz6 := HPW6.out.gb.size
        (refine wpAnyL_step 10 (by kernel_rfl) rfl (fun K hK => ?_))
        refine step_append_el rfl _ _ _ rfl w.heap.size 66 _ 3 48 Tryz.underlying22 Id.info_rec rfl (by decide) (Id.RecE (some w.heap.size)) (.slice A1 n1 c1') x.records rfl (Id.RecsR.kp HR1.out (HK6.out.trans (Kp.below ((Below.refl _ _).alloc (Nat.le_refl _) _))) (Nat.le_refl _) (by decide) (by decide) (by decide)) [.string n5, .bool true, .slice A6 n6 c6] rfl _ rfl (Bk.new _ _ _) (by simp [Value.oneCell']) (by simp only [maxLen]; omega) (by omega) (by simp; omega) ?_
        intro A7 n7' c7 w8 hrow8 hb8 ho8
        have HROW := Lib.hid hrow8
        have HB8 := Lib.hid hb8
        have HO8 := Lib.hid ho8
        have HQ8 := Lib.hid (ho8.bk (HQ6.out.alloc _) (by decide))
        clear hrow8 hb8 ho8
        (refine hK.out _ _ (fun hnn => absurd hnn (by decide)) ?_; clear hK K; try simp only [Act.put, List.setIfInBounds_toArray, List.set_cons_zero, List.set_cons_succ])
        (refine wpAnyL_step 11 (by kernel_rfl) rfl (fun K hK => ?_))
        go_simp
        (refine hK.out _ _ (fun hnn => absurd hnn (by decide)) ?_; clear hK K; try simp only [Act.put, List.setIfInBounds_toArray, List.set_cons_zero, List.set_cons_succ])
        have q8 := HQ8.out.cell 1
        have q9 := HQ8.out.frozen 1
        simp only [List.size_toArray, List.length_cons, List.length_nil, List.getElem?_toArray, List.getElem?_cons_succ, List.getElem?_cons_zero] at q8
        (refine wpAnyL_step 12 (by kernel_rfl) rfl (fun K hK => ?_))
        go_simp
        (refine hK.out _ _ (fun hnn => absurd hnn (by decide)) ?_; clear hK K; try simp only [Act.put, List.setIfInBounds_toArray, List.set_cons_zero, List.set_cons_succ])
        clear q8 q9
        refine wpAnyL_done (by kernel_rfl) ?_ _
        refine NoPanic.normal ?_
        go_wp2_with fail
        have HPW8 := Lib.hid ((HPW6.out.alloc (.cells #[.string n5, .bool true, .slice A6 n6 c6] 66)).row HB8.out HO8.out (by omega) (by decide) (by decide))
        have HKX := Lib.hid ((HK6.out.sub (Nat.le_refl _) (by decide)).trans ((Kp.below ((Below.refl _ _).alloc (Nat.le_refl _) (.cells #[.string n5, .bool true, .slice A6 n6 c6] 66))).trans (HO8.out.kp w.heap.size (T := [77, 85, 81, 88]) (by decide))))
        have HKI := (Kp.below (base := w.heap.size) (T := [68, 60]) ((Below.refl w6.heap.size w6).alloc (Nat.le_refl _) (.cells #[.string n5, .bool true, .slice A6 n6 c6] 66))).trans (HO8.out.kp w.heap.size (T := [68, 60]) (by decide))
        have hnew := HROW.out ⟨n5, true, fs⟩ (Id.RecE.kp (T := [68, 60]) (HO8.out.kp w.heap.size (by decide)) (Nat.le_refl _) (by decide) (by decide)) ⟨_, rfl, ERow.kp HR6.out HKI (Nat.le_refl _) (by decide) (Id.FldE.kp HKI (Nat.le_refl _) (by decide))⟩
        go_roundg f
        case rel => exact ⟨s6, _, Lib.hid ⟨fun _ => by omega, by omega, by simp; omega, HPW8.out.set HQ8.out (Nat.le_refl _) (by omega) (by decide) (by decide) 1 _, Id.SchB.rec HQ8.out hnew (HR2.out.kp HKX.out (Nat.le_refl _) (by decide) (by decide)) (HR3.out.kp HKX.out (Nat.le_refl _) (by decide) (by decide)), HE2.out⟩⟩
        case measure => omega
      by_cases e3 : wd.toList = [115, 101, 114, 118, 105, 99, 101]
      · have HE : Hid (Id.schemaF f (Id.service s4).2 { x with services := x.services ++ [(Id.service s4).1] } = R) := Lib.hid (by rw [HX2.out, if_neg e1, if_neg e2, if_pos e3])
        have t3 : (wd.toList == [115, 101, 114, 118, 105, 99, 101]) = true := beq_iff_eq.2 e3
        have t1 : (wd.toList == [114, 101, 99, 111, 114, 100]) = false := beq_eq_false_iff_ne.2 e1
        have t2 : (wd.toList == [99, 104, 111, 105, 99, 101]) = false := beq_eq_false_iff_ne.2 e2
        have hs4 : s4.1.length + 1 = m + 1 := by
          rcases hwc with ⟨_, h⟩ | ⟨_, h⟩
          · exact h
          · rw [h, Id.empty_toList] at e3
            cases e3
        have hn5 := Id.name_le s4
        obtain ⟨⟨n5, s5⟩, H5⟩ : ∃ R, Hid (Id.name s4 = R) := ⟨_, Lib.hid rfl⟩
        rw [H5.out] at hn5
        have hn6 := Id.within_le Id.method_le s5
        obtain ⟨⟨fs, s6⟩, H6⟩ : ∃ R, Hid (Id.within Id.method s5 = R) := ⟨_, Lib.hid rfl⟩
        rw [H6.out] at hn6
        simp only at hn5 hn6
        have HE2 : Hid (Id.schemaF f s6 { x with services := x.services ++ [⟨n5, fs⟩] } = R) := Lib.hid (by rw [← HE.out]; simp only [Id.service, H5.out, H6.out])
        have HPD := Lib.hid (HPW4.out.below (Below.refl _ _).drew)
        obtain ⟨A1, n1, c1', A2, n2, c2', A3, n3, c3', hq, r1, r2, r3⟩ := HSB4.out.below (Below.refl _ _).drew
        have HR1 := Lib.hid r1
        have HR2 := Lib.hid r2
        have HR3 := Lib.hid r3
        have q1 : w4.drew.cell? ⟨w.heap.size, 2, none⟩ = some (.slice A2 n2 c2') := hq.cell 2
        have HQ := Lib.hid hq
        clear r1 r2 r3 HX2 HE e1 e2 e3 hq HSB4 HPW4 hwc
        go_wp2_with fail
        refine wp_region_L_calm (fun w' => w'.cell? ⟨w.heap.size, 2, none⟩ = some (.slice A2 n2 c2')) [10, 12] (by kernel_rfl) q1 (fun hHeld => ?_)
        (refine wpAnyL_take0 0 (v := ?_) rfl (by kernel_rfl) (by kernel_rfl) (by kernel_rfl) (by kernel_rfl) (fun _ _ _ h => h) (fun _ => by assumption) (by rfl) ?_ ?_; rotate_left; · (intro w; go_simp; try with_reducible rfl); try simp only [Act.put, List.setIfInBounds_toArray, List.set_cons_zero, List.set_cons_succ])
        (refine wpAnyL_take 1 (v := ?_) rfl (by kernel_rfl) (by kernel_rfl) (by kernel_rfl) (by kernel_rfl) (fun _ _ _ h => h) (by assumption) (by rfl) ?_ ?_; rotate_left; · (intro w hSw; (try dsimp only at hSw); go_split_ands; go_simp; try with_reducible rfl); try simp only [Act.put, List.setIfInBounds_toArray, List.set_cons_zero, List.set_cons_succ])
        (refine wpAnyL_take0 2 (v := ?_) rfl (by kernel_rfl) (by kernel_rfl) (by kernel_rfl) (by kernel_rfl) (fun _ _ _ h => h) (fun _ => by assumption) (by rfl) ?_ ?_; rotate_left; · (intro w; go_simp; try with_reducible rfl); try simp only [Act.put, List.setIfInBounds_toArray, List.set_cons_zero, List.set_cons_succ])
        (refine wpAnyL_take0 4 (v := ?_) rfl (by kernel_rfl) (by kernel_rfl) (by kernel_rfl) (by kernel_rfl) (fun _ _ _ h => h) (fun _ => by assumption) (by rfl) ?_ ?_; rotate_left; · (intro w; go_simp; try with_reducible rfl); try simp only [Act.put, List.setIfInBounds_toArray, List.set_cons_zero, List.set_cons_succ])
        (refine wpAnyL_take0 5 (v := ?_) rfl (by kernel_rfl) (by kernel_rfl) (by kernel_rfl) (by kernel_rfl) (fun _ _ _ h => h) (fun _ => by assumption) (by rfl) ?_ ?_; rotate_left; · (intro w; go_simp; try with_reducible rfl); try simp only [Act.put, List.setIfInBounds_toArray, List.set_cons_zero, List.set_cons_succ])
        (refine wpAnyL_take0 6 (v := ?_) rfl (by kernel_rfl) (by kernel_rfl) (by kernel_rfl) (by kernel_rfl) (fun _ _ _ h => h) (fun _ => by assumption) (by rfl) ?_ ?_; rotate_left; · (intro w; go_simp; try with_reducible rfl); try simp only [Act.put, List.setIfInBounds_toArray, List.set_cons_zero, List.set_cons_succ])
        clear hHeld q1
        (refine wpAnyL_step 3 (by kernel_rfl) rfl (fun K hK => ?_))
        go_simp
        refine (pname_any b hb0 s4 _ HPD.out.kw HPD.out.ps).mono ?_
        rintro e w5 ⟨rfl, hg5, hp5⟩
        rw [H5.out] at hp5 ⊢
        simp only at hp5 ⊢
        have HPW5 := Lib.hid (HPD.out.call hb0 hg5 hp5)
        have HQ5 := Lib.hid (HQ.out.call hg5 hbw)
        have HK5 := Lib.hid (Kp.grown (base := w.heap.size) (T := Id.schT) hg5 hbw)
        clear hg5 hp5
        (refine hK.out _ _ (fun hnn => HQ5.out.cell 2) ?_; clear hK K; try simp only [Act.put, List.setIfInBounds_toArray, List.set_cons_zero, List.set_cons_succ])
        have hzi := HPW5.out.gb.size
        (refine wpAnyL_step 7 (by kernel_rfl) rfl (fun K hK => ?_))
        go_simp
        refine (pwithin_method b hb0 s5 (by omega) _ HPW5.out.kw HPW5.out.ps).mono ?_
        rintro e w6 ⟨v6, rfl, hg6, hp6, hr6⟩
        rw [H6.out] at hp6 hr6
        simp only at hp6 hr6 ⊢
        have HPW6 := Lib.hid (HPW5.out.call hb0 hg6 hp6)
        have HQ6 := Lib.hid (HQ5.out.call hg6 hbw)
        have HK6 := Lib.hid (HK5.out.trans (Kp.grown (T := Id.schT) hg6 hbw))
        obtain ⟨A6, n6, c6, rfl⟩ := ERow.is hr6
        have HR6 : Hid (ERow w6 (some w.heap.size) 85 5 Id.MthE (.slice A6 n6 c6) fs) := Lib.hid (ERow.mono hr6 (fun _ _ h => h.weak (fun b' e => ⟨_, rfl, by injection e with e; omega⟩)) (fun _ _ h => h))
        clear hg6 hp6 hr6
        (refine hK.out _ _ (fun hnn => HQ6.out.cell 2) ?_; clear hK K; try simp only [Act.put, List.setIfInBounds_toArray, List.set_cons_zero, List.set_cons_succ])
        (refine wpAnyL_step 8 (by kernel_rfl) rfl (fun K hK => ?_))
        go_simp
        (refine hK.out _ _ (fun hnn => HQ6.out.cell 2) ?_; clear hK K; try simp only [Act.put, List.setIfInBounds_toArray, List.set_cons_zero, List.set_cons_succ])
        (refine wpAnyL_step 9 (by kernel_rfl) rfl (fun K hK => ?_))
        go_simp
        (refine hK.out _ _ (fun hnn => (HQ6.out.alloc _).cell 2) ?_; clear hK K; try simp only [Act.put, List.setIfInBounds_toArray, List.set_cons_zero, List.set_cons_succ])
        have hz6 := HPW6.out.gb.size
        (refine wpAnyL_step 10 (by kernel_rfl) rfl (fun K hK => ?_))
        refine step_append_el rfl _ _ _ rfl w.heap.size 77 _ 2 40 Tryz.underlying23 Id.info_svc rfl (by decide) (Id.SvcE (some w.heap.size)) (.slice A2 n2 c2') x.services rfl (Id.SvcsR.kp HR2.out (HK6.out.trans (Kp.below ((Below.refl _ _).alloc (Nat.le_refl _) _))) (Nat.le_refl _) (by decide) (by decide)) [.string n5, .slice A6 n6 c6] rfl _ rfl (Bk.new _ _ _) (by simp [Value.oneCell']) (by simp only [maxLen]; omega) (by omega) (by simp; omega) ?_
        intro A7 n7' c7 w8 hrow8 hb8 ho8
        have HROW := Lib.hid hrow8
        have HB8 := Lib.hid hb8
        have HO8 := Lib.hid ho8
        have HQ8 := Lib.hid (ho8.bk (HQ6.out.alloc _) (by decide))
        clear hrow8 hb8 ho8
        (refine hK.out _ _ (fun hnn => absurd hnn (by decide)) ?_; clear hK K; try simp only [Act.put, List.setIfInBounds_toArray, List.set_cons_zero, List.set_cons_succ])
        (refine wpAnyL_step 11 (by kernel_rfl) rfl (fun K hK => ?_))
        go_simp
        (refine hK.out _ _ (fun hnn => absurd hnn (by decide)) ?_; clear hK K; try simp only [Act.put, List.setIfInBounds_toArray, List.set_cons_zero, List.set_cons_succ])
        have q8 := HQ8.out.cell 2
        have q9 := HQ8.out.frozen 2
        simp only [List.size_toArray, List.length_cons, List.length_nil, List.getElem?_toArray, List.getElem?_cons_succ, List.getElem?_cons_zero] at q8
        (refine wpAnyL_step 12 (by kernel_rfl) rfl (fun K hK => ?_))
        go_simp
        (refine hK.out _ _ (fun hnn => absurd hnn (by decide)) ?_; clear hK K; try simp only [Act.put, List.setIfInBounds_toArray, List.set_cons_zero, List.set_cons_succ])
        clear q8 q9
        refine wpAnyL_done (by kernel_rfl) ?_ _
        refine NoPanic.normal ?_
        go_wp2_with fail
        have HPW8 := Lib.hid ((HPW6.out.alloc (.cells #[.string n5, .slice A6 n6 c6] 77)).row HB8.out HO8.out (by omega) (by decide) (by decide))
        have HKX := Lib.hid ((HK6.out.sub (Nat.le_refl _) (by decide)).trans ((Kp.below ((Below.refl _ _).alloc (Nat.le_refl _) (.cells #[.string n5, .slice A6 n6 c6] 77))).trans (HO8.out.kp w.heap.size (T := [66, 68, 60, 81, 88]) (by decide))))
        have HKI := (Kp.below (base := w.heap.size) (T := [85]) ((Below.refl w6.heap.size w6).alloc (Nat.le_refl _) (.cells #[.string n5, .slice A6 n6 c6] 77))).trans (HO8.out.kp w.heap.size (T := [85]) (by decide))
        have hnew := HROW.out ⟨n5, fs⟩ (Id.SvcE.kp (T := [85]) (HO8.out.kp w.heap.size (by decide)) (Nat.le_refl _) (by decide)) ⟨_, rfl, ERow.kp HR6.out HKI (Nat.le_refl _) (by decide) Id.MthE.kp⟩
        go_roundg f
        case rel => exact ⟨s6, _, Lib.hid ⟨fun _ => by omega, by omega, by simp; omega, HPW8.out.set HQ8.out (Nat.le_refl _) (by omega) (by decide) (by decide) 2 _, Id.SchB.svc HQ8.out (HR1.out.kp HKX.out (Nat.le_refl _) (by decide) (by decide) (by decide)) hnew (HR3.out.kp HKX.out (Nat.le_refl _) (by decide) (by decide)), HE2.out⟩⟩
        case measure => omega
      by_cases e4 : wd.toList = [115, 97, 103, 97]
      · have HE : Hid (Id.schemaF f (Id.saga s4).2 { x with sagas := x.sagas ++ [(Id.saga s4).1] } = R) := Lib.hid (by rw [HX2.out, if_neg e1, if_neg e2, if_neg e3, if_pos e4])
        have t4 : (wd.toList == [115, 97, 103, 97]) = true := beq_iff_eq.2 e4
        have t1 : (wd.toList == [114, 101, 99, 111, 114, 100]) = false := beq_eq_false_iff_ne.2 e1
        have t2 : (wd.toList == [99, 104, 111, 105, 99, 101]) = false := beq_eq_false_iff_ne.2 e2
        have t3 : (wd.toList == [115, 101, 114, 118, 105, 99, 101]) = false := beq_eq_false_iff_ne.2 e3
        have hs4 : s4.1.length + 1 = m + 1 := by
          rcases hwc with ⟨_, h⟩ | ⟨_, h⟩
          · exact h
          · rw [h, Id.empty_toList] at e4
            cases e4
        have hn5 := Id.name_le s4
        obtain ⟨⟨n5, s5⟩, H5⟩ : ∃ R, Hid (Id.name s4 = R) := ⟨_, Lib.hid rfl⟩
        rw [H5.out] at hn5
        have hn7 := Id.arg_le s5
        obtain ⟨⟨n7, s7⟩, H7⟩ : ∃ R, Hid (Id.arg s5 = R) := ⟨_, Lib.hid rfl⟩
        rw [H7.out] at hn7
        simp only at hn7
        have hn6 := Id.within_le Id.step_le s7
        obtain ⟨⟨fs, s6⟩, H6⟩ : ∃ R, Hid (Id.within Id.step s7 = R) := ⟨_, Lib.hid rfl⟩
        rw [H6.out] at hn6
        simp only at hn5 hn6
        have HE2 : Hid (Id.schemaF f s6 { x with sagas := x.sagas ++ [⟨n5, n7, fs⟩] } = R) := Lib.hid (by rw [← HE.out]; simp only [Id.saga, H5.out, H7.out, H6.out])
        have HPD := Lib.hid (HPW4.out.below (Below.refl _ _).drew)
        obtain ⟨A1, n1, c1', A2, n2, c2', A3, n3, c3', hq, r1, r2, r3⟩ := HSB4.out.below (Below.refl _ _).drew
        have HR1 := Lib.hid r1
        have HR2 := Lib.hid r2
        have HR3 := Lib.hid r3
        have q1 : w4.drew.cell? ⟨w.heap.size, 3, none⟩ = some (.slice A3 n3 c3') := hq.cell 3
        have HQ := Lib.hid hq
        clear r1 r2 r3 HX2 HE e1 e2 e3 e4 hq HSB4 HPW4 hwc
        go_wp2_with fail
        refine wp_region_L_calm (fun w' => w'.cell? ⟨w.heap.size, 3, none⟩ = some (.slice A3 n3 c3')) [12, 14] (by kernel_rfl) q1 (fun hHeld => ?_)
        (refine wpAnyL_take0 0 (v := ?_) rfl (by kernel_rfl) (by kernel_rfl) (by kernel_rfl) (by kernel_rfl) (fun _ _ _ h => h) (fun _ => by assumption) (by rfl) ?_ ?_; rotate_left; · (intro w; go_simp; try with_reducible rfl); try simp only [Act.put, List.setIfInBounds_toArray, List.set_cons_zero, List.set_cons_succ])
        (refine wpAnyL_take 1 (v := ?_) rfl (by kernel_rfl) (by kernel_rfl) (by kernel_rfl) (by kernel_rfl) (fun _ _ _ h => h) (by assumption) (by rfl) ?_ ?_; rotate_left; · (intro w hSw; (try dsimp only at hSw); go_split_ands; go_simp; try with_reducible rfl); try simp only [Act.put, List.setIfInBounds_toArray, List.set_cons_zero, List.set_cons_succ])
        (refine wpAnyL_take0 2 (v := ?_) rfl (by kernel_rfl) (by kernel_rfl) (by kernel_rfl) (by kernel_rfl) (fun _ _ _ h => h) (fun _ => by assumption) (by rfl) ?_ ?_; rotate_left; · (intro w; go_simp; try with_reducible rfl); try simp only [Act.put, List.setIfInBounds_toArray, List.set_cons_zero, List.set_cons_succ])
        (refine wpAnyL_take0 4 (v := ?_) rfl (by kernel_rfl) (by kernel_rfl) (by kernel_rfl) (by kernel_rfl) (fun _ _ _ h => h) (fun _ => by assumption) (by rfl) ?_ ?_; rotate_left; · (intro w; go_simp; try with_reducible rfl); try simp only [Act.put, List.setIfInBounds_toArray, List.set_cons_zero, List.set_cons_succ])
        (refine wpAnyL_take0 6 (v := ?_) rfl (by kernel_rfl) (by kernel_rfl) (by kernel_rfl) (by kernel_rfl) (fun _ _ _ h => h) (fun _ => by assumption) (by rfl) ?_ ?_; rotate_left; · (intro w; go_simp; try with_reducible rfl); try simp only [Act.put, List.setIfInBounds_toArray, List.set_cons_zero, List.set_cons_succ])
        (refine wpAnyL_take0 7 (v := ?_) rfl (by kernel_rfl) (by kernel_rfl) (by kernel_rfl) (by kernel_rfl) (fun _ _ _ h => h) (fun _ => by assumption) (by rfl) ?_ ?_; rotate_left; · (intro w; go_simp; try with_reducible rfl); try simp only [Act.put, List.setIfInBounds_toArray, List.set_cons_zero, List.set_cons_succ])
        (refine wpAnyL_take0 8 (v := ?_) rfl (by kernel_rfl) (by kernel_rfl) (by kernel_rfl) (by kernel_rfl) (fun _ _ _ h => h) (fun _ => by assumption) (by rfl) ?_ ?_; rotate_left; · (intro w; go_simp; try with_reducible rfl); try simp only [Act.put, List.setIfInBounds_toArray, List.set_cons_zero, List.set_cons_succ])
        clear hHeld q1
        (refine wpAnyL_step 3 (by kernel_rfl) rfl (fun K hK => ?_))
        go_simp
        refine (pname_any b hb0 s4 _ HPD.out.kw HPD.out.ps).mono ?_
        rintro e w5 ⟨rfl, hg5, hp5⟩
        rw [H5.out] at hp5 ⊢
        simp only at hp5 ⊢
        have HPW5 := Lib.hid (HPD.out.call hb0 hg5 hp5)
        have HQ5 := Lib.hid (HQ.out.call hg5 hbw)
        have HK5 := Lib.hid (Kp.grown (base := w.heap.size) (T := Id.schT) hg5 hbw)
        clear hg5 hp5
        (refine hK.out _ _ (fun hnn => HQ5.out.cell 3) ?_; clear hK K; try simp only [Act.put, List.setIfInBounds_toArray, List.set_cons_zero, List.set_cons_succ])
        (refine wpAnyL_step 5 (by kernel_rfl) rfl (fun K hK => ?_))
        go_simp
        refine (parg_any b hb0 s5 _ HPW5.out.kw HPW5.out.ps).mono ?_
        rintro e w7 ⟨rfl, hg5, hp5⟩
        rw [H7.out] at hp5 ⊢
        simp only at hp5 ⊢
        have HPW7 := Lib.hid (HPW5.out.call hb0 hg5 hp5)
        have HQ7 := Lib.hid (HQ5.out.call hg5 hbw)
        have HK7 := Lib.hid (HK5.out.trans (Kp.grown (T := Id.schT) hg5 hbw))
        clear hg5 hp5
        (refine hK.out _ _ (fun hnn => HQ7.out.cell 3) ?_; clear hK K; try simp only [Act.put, List.setIfInBounds_toArray, List.set_cons_zero, List.set_cons_succ])
        have hzi := HPW7.out.gb.size
        (refine wpAnyL_step 9 (by kernel_rfl) rfl (fun K hK => ?_))
        go_simp
        refine (pwithin_step b hb0 s7 (by omega) _ HPW7.out.kw HPW7.out.ps).mono ?_
        rintro e w6 ⟨v6, rfl, hg6, hp6, hr6⟩
        rw [H6.out] at hp6 hr6
        simp only at hp6 hr6 ⊢
        have HPW6 := Lib.hid (HPW7.out.call hb0 hg6 hp6)
        have HQ6 := Lib.hid (HQ7.out.call hg6 hbw)
        have HK6 := Lib.hid (HK7.out.trans (Kp.grown (T := Id.schT) hg6 hbw))
        obtain ⟨A6, n6, c6, rfl⟩ := ERow.is hr6
        have HR6 : Hid (ERow w6 (some w.heap.size) 88 3 Id.StpE (.slice A6 n6 c6) fs) := Lib.hid (ERow.mono hr6 (fun _ _ h => h.weak (fun b' e => ⟨_, rfl, by injection e with e; omega⟩)) (fun _ _ h => h))
        clear hg6 hp6 hr6
        (refine hK.out _ _ (fun hnn => HQ6.out.cell 3) ?_; clear hK K; try simp only [Act.put, List.setIfInBounds_toArray, List.set_cons_zero, List.set_cons_succ])
        (refine wpAnyL_step 10 (by kernel_rfl) rfl (fun K hK => ?_))
        go_simp
        (refine hK.out _ _ (fun hnn => HQ6.out.cell 3) ?_; clear hK K; try simp only [Act.put, List.setIfInBounds_toArray, List.set_cons_zero, List.set_cons_succ])
        (refine wpAnyL_step 11 (by kernel_rfl) rfl (fun K hK => ?_))
        go_simp
        (refine hK.out _ _ (fun hnn => (HQ6.out.alloc _).cell 3) ?_; clear hK K; try simp only [Act.put, List.setIfInBounds_toArray, List.set_cons_zero, List.set_cons_succ])
        have hz6 := HPW6.out.gb.size
        (refine wpAnyL_step 12 (by kernel_rfl) rfl (fun K hK => ?_))
        refine step_append_el rfl _ _ _ rfl w.heap.size 81 _ 3 56 Tryz.underlying24 Id.info_sag rfl (by decide) (Id.SagE (some w.heap.size)) (.slice A3 n3 c3') x.sagas rfl (Id.SagsR.kp HR3.out (HK6.out.trans (Kp.below ((Below.refl _ _).alloc (Nat.le_refl _) _))) (Nat.le_refl _) (by decide) (by decide)) [.string n5, .string n7, .slice A6 n6 c6] rfl _ rfl (Bk.new _ _ _) (by simp [Value.oneCell']) (by simp only [maxLen]; omega) (by omega) (by simp; omega) ?_
        intro A7 n7' c7 w8 hrow8 hb8 ho8
        have HROW := Lib.hid hrow8
        have HB8 := Lib.hid hb8
        have HO8 := Lib.hid ho8
        have HQ8 := Lib.hid (ho8.bk (HQ6.out.alloc _) (by decide))
        clear hrow8 hb8 ho8
        (refine hK.out _ _ (fun hnn => absurd hnn (by decide)) ?_; clear hK K; try simp only [Act.put, List.setIfInBounds_toArray, List.set_cons_zero, List.set_cons_succ])
        (refine wpAnyL_step 13 (by kernel_rfl) rfl (fun K hK => ?_))
        go_simp
        (refine hK.out _ _ (fun hnn => absurd hnn (by decide)) ?_; clear hK K; try simp only [Act.put, List.setIfInBounds_toArray, List.set_cons_zero, List.set_cons_succ])
        have q8 := HQ8.out.cell 3
        have q9 := HQ8.out.frozen 3
        simp only [List.size_toArray, List.length_cons, List.length_nil, List.getElem?_toArray, List.getElem?_cons_succ, List.getElem?_cons_zero] at q8
        (refine wpAnyL_step 14 (by kernel_rfl) rfl (fun K hK => ?_))
        go_simp
        (refine hK.out _ _ (fun hnn => absurd hnn (by decide)) ?_; clear hK K; try simp only [Act.put, List.setIfInBounds_toArray, List.set_cons_zero, List.set_cons_succ])
        clear q8 q9
        refine wpAnyL_done (by kernel_rfl) ?_ _
        refine NoPanic.normal ?_
        go_wp2_with fail
        have HPW8 := Lib.hid ((HPW6.out.alloc (.cells #[.string n5, .string n7, .slice A6 n6 c6] 81)).row HB8.out HO8.out (by omega) (by decide) (by decide))
        have HKX := Lib.hid ((HK6.out.sub (Nat.le_refl _) (by decide)).trans ((Kp.below ((Below.refl _ _).alloc (Nat.le_refl _) (.cells #[.string n5, .string n7, .slice A6 n6 c6] 81))).trans (HO8.out.kp w.heap.size (T := [66, 68, 60, 77, 85]) (by decide))))
        have HKI := (Kp.below (base := w.heap.size) (T := [88]) ((Below.refl w6.heap.size w6).alloc (Nat.le_refl _) (.cells #[.string n5, .string n7, .slice A6 n6 c6] 81))).trans (HO8.out.kp w.heap.size (T := [88]) (by decide))
        have hnew := HROW.out ⟨n5, n7, fs⟩ (Id.SagE.kp (T := [88]) (HO8.out.kp w.heap.size (by decide)) (Nat.le_refl _) (by decide)) ⟨_, rfl, ERow.kp HR6.out HKI (Nat.le_refl _) (by decide) Id.StpE.kp⟩
        go_roundg f
        case rel => exact ⟨s6, _, Lib.hid ⟨fun _ => by omega, by omega, by simp; omega, HPW8.out.set HQ8.out (Nat.le_refl _) (by omega) (by decide) (by decide) 3 _, Id.SchB.sag HQ8.out (HR1.out.kp HKX.out (Nat.le_refl _) (by decide) (by decide) (by decide)) (HR2.out.kp HKX.out (Nat.le_refl _) (by decide) (by decide)) hnew, HE2.out⟩⟩
        case measure => omega
      have HE : Hid (Id.schemaF f s4 x = R) := Lib.hid (by rw [HX2.out, if_neg e1, if_neg e2, if_neg e3, if_neg e4])
      have t1 : (wd.toList == [114, 101, 99, 111, 114, 100]) = false := beq_eq_false_iff_ne.2 e1
      have t2 : (wd.toList == [99, 104, 111, 105, 99, 101]) = false := beq_eq_false_iff_ne.2 e2
      have t3 : (wd.toList == [115, 101, 114, 118, 105, 99, 101]) = false := beq_eq_false_iff_ne.2 e3
      have t4 : (wd.toList == [115, 97, 103, 97]) = false := beq_eq_false_iff_ne.2 e4
      clear HX2 e1 e2 e3 e4
      go_wp2_with fail
      go_roundg f
      case rel => exact ⟨s4, x, Lib.hid ⟨fun h => by rcases hwc with ⟨_, h2⟩ | ⟨h2, _⟩ <;> first | omega | (rw [h2] at h; cases h), by omega, by omega, HPW4.out, HSB4.out, HE.out⟩⟩
      case measure => omega
end Go.Proofs.YtmncppnpppdfkaaGreatDoor
set_option linter.unusedVariables false
set_option linter.unusedSimpArgs false
namespace Go.Proofs.YtmncppnpppdfkaaGreatDoor
open Go.RowKit
theorem Tk.scan_len (d : Nat) (s : ByteArray) : ∀ (f k : Nat) (acc : List Tk.Tok), k ≤ s.size → acc.length ≤ k → (Tk.scan d s f k acc).1.length ≤ s.size
  | 0, k, acc, hk, ha => by unfold Tk.scan; exact Nat.le_trans ha hk
  | f + 1, k, acc, hk, ha => by
    unfold Tk.scan
    split
    · rename_i hlt
      split
      · simp
      · rename_i he
        have hok := Tk.oneAt_ok (d := d) (s := s) (k := k) hlt (by simpa using he)
        refine Tk.scan_len d s f _ _ (Tk.gapEnd_le false hok.2) ?_
        rw [List.length_append, List.length_singleton]
        have := Tk.gapEnd_ge false s (k + (Tk.oneAt d s k).1.text.size)
        omega
    · exact Nat.le_trans ha hk
theorem Tk.all_len (s : ByteArray) : (Tk.all s).1.length ≤ 65536 := by
  unfold Tk.all
  split
  · simp
  · rename_i h
    have := Tk.scan_len 3 s (s.size + 1) (Tk.gapEnd false s 0) [] (Tk.gapEnd_le false (by omega)) (by simp)
    omega
theorem Id.Ps.of_own {w : World} {base : Nat} {v : Value} {ls : List Tk.Tok} (h : w.ownsRow base 154 4 v ls.length (Tk.flat ls)) : Id.Ps (w.alloc (.cells #[v, .bool false] 152)) w.heap.size (ls, false) := by
  obtain ⟨A, c, hv, hr, hl⟩ := Tk.row_reads h
  have hbl := (Below.refl w.heap.size w).alloc (Nat.le_refl _) (.cells #[v, .bool false] 152)
  have hbk := Bk.new w 152 #[v, .bool false]
  subst hv
  have key : ls.length ≤ c ∧ c ≤ 9223372036854775807 ∧ (∀ ad, A = some ad → ad.block < w.heap.size) ∧ (∀ g off, A = some ⟨g, off, none⟩ → Id.Typed w g) := by
    rcases h.2 with ⟨e, _⟩ | ⟨g, cap, cur, e, hb, hg, hn, hc, _⟩
    · injection e with e1 e2 e3
      subst e1
      exact ⟨by omega, by omega, (fun ad e => by cases e), (fun g off e => by cases e)⟩
    · injection e with e1 e2 e3
      subst e1 e3
      unfold maxLen at hc
      exact ⟨hn, by omega, (fun ad e => by injection e with e; subst e; exact (Array.getElem?_eq_some_iff.1 hg).1), (fun g' off e => by injection e with e; injection e with e1 _; subst e1; exact ⟨_, _, hg⟩)⟩
  exact ⟨⟨A, c, hbk, hr.below hbl, key.1, key.2.1, fun ad e => by have := key.2.2.1 ad e; omega⟩, Id.typ_of hbk (fun g off e => (key.2.2.2 g off e).below hbl)⟩
theorem Tk.ReadT.only {w w' : World} {A : Option Addr} {ls : List Tk.Tok} {e : TypeId} (h : Tk.ReadT w A ls) (ho : Only e w w') (ht : ∀ g off, A = some ⟨g, off, none⟩ → Id.Typed w g) (he : 154 ≠ e) : Tk.ReadT w' A ls := fun h0 => by
  obtain ⟨g, off, e1, hc⟩ := h h0
  obtain ⟨cs, fr, hh⟩ := ht g off e1
  have kc : ∀ o, w'.cell? ⟨g, o, none⟩ = w.cell? ⟨g, o, none⟩ := fun o => World.cell?_of_block (a := ⟨g, o, none⟩) ((ho.typed hh he).trans hh.symm)
  exact ⟨g, off, e1, fun j hj => by rw [kc, kc, kc, kc]; exact hc j hj⟩
theorem Id.Typed.ne {w : World} {g b : Nat} {t : TypeId} {cs : Array Value} (h : Id.Typed w g) (hb : Bk w b t cs) (ht : 154 ≠ t) : ¬ g = b := by
  rintro rfl
  obtain ⟨cs', fr, hh⟩ := h
  unfold Bk at hb
  rw [hh] at hb
  injection hb with hb
  injection hb with _ h2
  exact ht h2
namespace Id
def whole {α : Type} (zero : α) (read : St → α × St) (s : ByteArray) : α × Nat × Nat :=
  if (Tk.all s).2.2 ≠ 0 then (zero, (Tk.all s).2.1, (Tk.all s).2.2) else
  match (read ((Tk.all s).1, false)).2.1 with
  | [] => if (read ((Tk.all s).1, false)).2.2 then (zero, s.size, 120) else ((read ((Tk.all s).1, false)).1, 0, 0)
  | t :: _ => (zero, t.at_, 120)
def Sch.zero : Sch := ⟨⟨#[]⟩, [], [], []⟩
def parse (s : ByteArray) : Sch × Nat × Nat := whole Sch.zero schema s
def type (s : ByteArray) : List Srt × Nat × Nat := whole [] sorts s
/-- A schema as it is handed on. -/
def SchV (w : World) (B : Option Nat) (v : Value) (x : Sch) : Prop := ∃ A1 n1 c1 A2 n2 c2 A3 n3 c3, v = .agg #[.string x.name, .slice A1 n1 c1, .slice A2 n2 c2, .slice A3 n3 c3] ∧ RecsR w B (.slice A1 n1 c1) x.records ∧ SvcsR w B (.slice A2 n2 c2) x.services ∧ SagsR w B (.slice A3 n3 c3) x.sagas
theorem FldE.below {B : Option Nat} {w w' : World} (h : Below w.heap.size w w') (cs : List Value) (x : Fld) (he : FldE B w cs x) : FldE B w' cs x := by
  obtain ⟨u, e, hs⟩ := he
  exact ⟨u, e, ERow.below hs h (fun _ _ h => h)⟩
theorem RecE.below {B : Option Nat} {w w' : World} (h : Below w.heap.size w w') (cs : List Value) (x : Rec) (he : RecE B w cs x) : RecE B w' cs x := by
  obtain ⟨u, e, hs⟩ := he
  exact ⟨u, e, ERow.below hs h (FldE.below h)⟩
theorem SvcE.below {B : Option Nat} {w w' : World} (h : Below w.heap.size w w') (cs : List Value) (x : Svc) (he : SvcE B w cs x) : SvcE B w' cs x := by
  obtain ⟨u, e, hs⟩ := he
  exact ⟨u, e, ERow.below hs h (fun _ _ h => h)⟩
theorem SagE.below {B : Option Nat} {w w' : World} (h : Below w.heap.size w w') (cs : List Value) (x : Sag) (he : SagE B w cs x) : SagE B w' cs x := by
  obtain ⟨u, e, hs⟩ := he
  exact ⟨u, e, ERow.below hs h (fun _ _ h => h)⟩
theorem SchV.below {B : Option Nat} {w w' : World} {v : Value} {x : Sch} (hb : Below w.heap.size w w') (h : SchV w B v x) : SchV w' B v x := by
  obtain ⟨A1, n1, c1, A2, n2, c2, A3, n3, c3, e, h1, h2, h3⟩ := h
  exact ⟨A1, n1, c1, A2, n2, c2, A3, n3, c3, e, ERow.below h1 hb (RecE.below hb), ERow.below h2 hb (SvcE.below hb), ERow.below h3 hb (SagE.below hb)⟩
theorem SchV.only {b : Nat} {w w' : World} {v : Value} {x : Sch} (h : SchV w (some b) v x) {e : TypeId} (ho : Only e w w') (he : e ∉ schT) : SchV w' (some b) v x := by
  have hk := ho.kp b he
  obtain ⟨A1, n1, c1, A2, n2, c2, A3, n3, c3, e, h1, h2, h3⟩ := h
  exact ⟨A1, n1, c1, A2, n2, c2, A3, n3, c3, e, h1.kp hk (Nat.le_refl _) (by decide) (by decide) (by decide), h2.kp hk (Nat.le_refl _) (by decide) (by decide), h3.kp hk (Nat.le_refl _) (by decide) (by decide)⟩
def wkB (B B' : Option Nat) : Prop := ∀ b', B' = some b' → ∃ b, B = some b ∧ b' ≤ b
theorem FldE.weak {B B' : Option Nat} {w : World} (h : wkB B B') (cs : List Value) (x : Fld) (he : FldE B w cs x) : FldE B' w cs x := by
  obtain ⟨u, e, hs⟩ := he
  exact ⟨u, e, ERow.mono hs (fun _ _ hr => hr.weak h) (fun _ _ h => h)⟩
theorem RecE.weak {B B' : Option Nat} {w : World} (h : wkB B B') (cs : List Value) (x : Rec) (he : RecE B w cs x) : RecE B' w cs x := by
  obtain ⟨u, e, hs⟩ := he
  exact ⟨u, e, ERow.mono hs (fun _ _ hr => hr.weak h) (FldE.weak h)⟩
theorem SvcE.weak {B B' : Option Nat} {w : World} (h : wkB B B') (cs : List Value) (x : Svc) (he : SvcE B w cs x) : SvcE B' w cs x := by
  obtain ⟨u, e, hs⟩ := he
  exact ⟨u, e, ERow.mono hs (fun _ _ hr => hr.weak h) (fun _ _ h => h)⟩
theorem SagE.weak {B B' : Option Nat} {w : World} (h : wkB B B') (cs : List Value) (x : Sag) (he : SagE B w cs x) : SagE B' w cs x := by
  obtain ⟨u, e, hs⟩ := he
  exact ⟨u, e, ERow.mono hs (fun _ _ hr => hr.weak h) (fun _ _ h => h)⟩
theorem SchV.weak {B B' : Option Nat} {w : World} {v : Value} {x : Sch} (hb : wkB B B') (h : SchV w B v x) : SchV w B' v x := by
  obtain ⟨A1, n1, c1, A2, n2, c2, A3, n3, c3, e, h1, h2, h3⟩ := h
  exact ⟨A1, n1, c1, A2, n2, c2, A3, n3, c3, e, ERow.mono h1 (fun _ _ hr => hr.weak hb) (RecE.weak hb), ERow.mono h2 (fun _ _ hr => hr.weak hb) (SvcE.weak hb), ERow.mono h3 (fun _ _ hr => hr.weak hb) (SagE.weak hb)⟩
theorem wk_le {b b' : Nat} (h : b' ≤ b) : wkB (some b) (some b') := fun _ e => ⟨b, rfl, by injection e with e; omega⟩
theorem wk_none (B : Option Nat) : wkB B none := fun _ e => by cases e
theorem SchV.zero (w : World) (b : Nat) : SchV w (some b) (.agg #[.string ⟨#[]⟩, .slice none 0 0, .slice none 0 0, .slice none 0 0]) Sch.zero := ⟨_, _, _, _, _, _, _, _, _, rfl, ERow.nil _ _ _ _ _, ERow.nil _ _ _ _ _, ERow.nil _ _ _ _ _⟩
end Id
set_option maxRecDepth 100000 in
set_option maxHeartbeats 8000000 in
theorem pwhole_schema (s : ByteArray) (hs : s.size ≤ 9223372036854775807) (w : World) (hk : Tk.KW w) :
    Calls Tryz.prog 56 #[.string s, .func (.func 57) #[] #[]] w fun e w' => ∃ v, e = .returned (.tuple #[v, .int .i64 (Id.parse s).2.1, .int .i64 (Id.parse s).2.2]) ∧ Below w.heap.size w w' ∧ Id.SchV w' (some w.heap.size) v (Id.parse s).1 := by
  obtain ⟨R, HR⟩ : ∃ R, Hid (Id.parse s = R) := ⟨_, Lib.hid rfl⟩
  rw [HR.out]
  obtain ⟨⟨pl, pat, pe⟩, HT⟩ : ∃ T, Hid (Tk.all s = T) := ⟨_, Lib.hid rfl⟩
  have hpl := Tk.all_len s
  rw [HT.out] at hpl
  simp only at hpl
  have hbl := ((Below.refl w.heap.size w).alloc (Nat.le_refl _) (.cells #[.string ⟨#[]⟩, .slice none 0 0, .slice none 0 0, .slice none 0 0] 26)).alloc (by simp) (.cells #[.string ⟨#[]⟩, .slice none 0 0, .slice none 0 0, .slice none 0 0] 26)
  have hq := (Bk.new w 26 #[.string ⟨#[]⟩, .slice none 0 0, .slice none 0 0, .slice none 0 0]).alloc (.cells #[.string ⟨#[]⟩, .slice none 0 0, .slice none 0 0, .slice none 0 0] 26)
  have hz := Bk.new (w.alloc (.cells #[.string ⟨#[]⟩, .slice none 0 0, .slice none 0 0, .slice none 0 0] 26)) 26 #[.string ⟨#[]⟩, .slice none 0 0, .slice none 0 0, .slice none 0 0]
  have hkb := hk.below hbl
  have hz1 : ((w.alloc (.cells #[.string ⟨#[]⟩, .slice none 0 0, .slice none 0 0, .slice none 0 0] 26)).alloc (.cells #[.string ⟨#[]⟩, .slice none 0 0, .slice none 0 0, .slice none 0 0] 26)).heap.size = w.heap.size + 2 := by simp
  rw [World.size_alloc] at hz
  clear hk
  go_enter Tryz.func56, Tryz.ntmps56
  go_wp2_with fail
  generalize ((w.alloc (.cells #[.string ⟨#[]⟩, .slice none 0 0, .slice none 0 0, .slice none 0 0] 26)).alloc (.cells #[.string ⟨#[]⟩, .slice none 0 0, .slice none 0 0, .slice none 0 0] 26)) = w1 at *
  refine (all_any s (by unfold maxLen; omega) _).mono ?_
  rintro e w2 ⟨v2, rfl, hb2, hown⟩
  rw [HT.out] at hown ⊢
  simp only at hown ⊢
  have hq2 := hq.below hb2 hq.lt
  have hz2 := hz.below hb2 hz.lt
  have hk2 := hkb.below hb2
  have hB2 : Below w.heap.size w w2 := hbl.trans (hb2.mono (by omega))
  have hsz2 := hb2.size
  by_cases hpe : pe = 0
  case neg =>
    have HE : Hid (R = (Id.Sch.zero, pat, pe)) := Lib.hid (by rw [← HR.out]; unfold Id.parse Id.whole; rw [HT.out]; simp [hpe])
    have tpe : ((pe : Int) != 0) = true := by rw [bne_iff_ne]; omega
    have tpe2 : decide (pe = 0) = false := by simpa using hpe
    clear hpe hq hz hkb hb2
    obtain ⟨⟨q0, q1, q2, q3⟩, q4, q5, q6, q7⟩ := hq2.k4
    obtain ⟨⟨z0, z1, z2, z3⟩, _⟩ := hz2.k4
    go_wp2_with fail
    have hqf := ((((hq2.set_ 0 (.string ⟨#[]⟩)).set_ 1 (.slice none 0 0)).set_ 2 (.slice none 0 0)).set_ 3 (.slice none 0 0))
    have hBf : Below w.heap.size w _ := ((((hB2.setCell (p := ⟨w.heap.size, 0, none⟩) (Nat.le_refl _) (.string ⟨#[]⟩)).setCell (p := ⟨w.heap.size, 1, none⟩) (Nat.le_refl _) (.slice none 0 0)).setCell (p := ⟨w.heap.size, 2, none⟩) (Nat.le_refl _) (.slice none 0 0)).setCell (p := ⟨w.heap.size, 3, none⟩) (Nat.le_refl _) (.slice none 0 0))
    generalize ((((w2.setCell ⟨w.heap.size, 0, none⟩ (.string ⟨#[]⟩)).setCell ⟨w.heap.size, 1, none⟩ (.slice none 0 0)).setCell ⟨w.heap.size, 2, none⟩ (.slice none 0 0)).setCell ⟨w.heap.size, 3, none⟩ (.slice none 0 0)) = wf at *
    obtain ⟨⟨y0, y1, y2, y3⟩, _⟩ := hqf.k4
    refine bodyPost_ret (v := .tuple #[.agg #[.string ⟨#[]⟩, .slice none 0 0, .slice none 0 0, .slice none 0 0], .int .i64 pat, .int .i64 pe]) ?_ rfl ⟨_, by first | (rw [HE.out]; done) | (rw [HE.out]; rfl), hBf, by rw [HE.out]; exact Id.SchV.zero _ _⟩
    rw [res_ctt rfl]
    go_simp
    try rfl
  subst hpe
  have hPS := Id.Ps.of_own hown
  have hbl3 := (Below.refl w2.heap.size w2).alloc (Nat.le_refl _) (.cells #[v2, .bool false] 152)
  have hk3 := hk2.below hbl3
  have hq3 := hq2.below hbl3 hq2.lt
  have hz3 := hz2.below hbl3 hz2.lt
  have hb0 : 0 < w2.heap.size := hk2.1
  have hsz3 : w2.heap.size < (w2.alloc (.cells #[v2, .bool false] 152)).heap.size := by simp
  obtain ⟨A2, c2, rfl, _⟩ := Tk.row_reads hown
  obtain ⟨⟨x, s3⟩, H3⟩ : ∃ T, Hid (Id.schema (pl, false) = T) := ⟨_, Lib.hid rfl⟩
  have HR2 : Hid (R = match s3.1 with
    | [] => if s3.2 then (Id.Sch.zero, s.size, 120) else (x, 0, 0)
    | t :: _ => (Id.Sch.zero, t.at_, 120)) := Lib.hid (by rw [← HR.out]; unfold Id.parse Id.whole; rw [HT.out]; simp only [H3.out]; rfl)
  have HPS := Lib.hid hPS
  have HQ3 := Lib.hid hq3
  have HZ3 := Lib.hid hz3
  have HB3 := Lib.hid (hB2.trans (hbl3.mono (by omega)))
  have hrb : w.heap.size < w2.heap.size := hq2.lt
  have hzb : w.heap.size + 1 < w2.heap.size := hz2.lt
  clear hPS hbl3 hk2 hq2 hz2 hq hz hkb hb2 hown hB2 hq3 hz3 hbl hz1
  go_wp2_with fail
  refine (pschema_any w2.heap.size hb0 (pl, false) (by simp only; omega) _ hk3 HPS.out).mono ?_
  rintro e w4 ⟨v1, v2', v3, rfl, hg4, hp4, r1, r2, r3⟩
  rw [H3.out] at hp4 r1 r2 r3 ⊢
  simp only at hp4 r1 r2 r3 ⊢
  obtain ⟨A5, n5, c5, rfl⟩ := ERow.is r1
  obtain ⟨A6, n6, c6, rfl⟩ := ERow.is r2
  obtain ⟨A7, n7, c7, rfl⟩ := ERow.is r3
  have hne : ¬ w2.heap.size = w.heap.size := by omega
  have hne2 : ¬ w.heap.size + 1 = w.heap.size := by omega
  have HQ4 := Lib.hid (HQ3.out.grown hg4 (by intro e; injection e with e; omega))
  have HZ4 := Lib.hid (HZ3.out.grown hg4 (by intro e; injection e with e; omega))
  have HB4 := Lib.hid (below_gb HB3.out hg4 (by omega) (by omega))
  have hSV4 : Id.SchV w4 (some w.heap.size) (.agg #[.string x.name, .slice A5 n5 c5, .slice A6 n6 c6, .slice A7 n7 c7]) x := Id.SchV.weak (Id.wk_le (by omega)) ⟨_, _, _, _, _, _, _, _, _, rfl, r1, r2, r3⟩
  have HSV := Lib.hid hSV4
  obtain ⟨A, c, hpk, hpr, hpc, hpc2, hpn⟩ := hp4.lies
  have HTY := Lib.hid hp4.typ
  clear r1 r2 r3 hSV4 hp4 hk3 HPS HQ3 HZ3 HB3 hg4 hsz2 hsz3
  obtain ⟨⟨q0, q1, q2, q3⟩, q4, q5, q6, q7⟩ := HQ4.out.k4
  go_upto_region 7 with (fail)
  clear q0 q1 q2 q3 q4 q5 q6 q7
  have ho := ((((Only.set HQ4.out 0 (.string x.name)).trans (Only.set (HQ4.out.set_ 0 (.string x.name)) 1 (.slice A5 n5 c5))).trans (Only.set ((HQ4.out.set_ 0 (.string x.name)).set_ 1 (.slice A5 n5 c5)) 2 (.slice A6 n6 c6))).trans (Only.set (((HQ4.out.set_ 0 (.string x.name)).set_ 1 (.slice A5 n5 c5)).set_ 2 (.slice A6 n6 c6)) 3 (.slice A7 n7 c7)))
  have hq5 : Bk _ w.heap.size 26 #[.string x.name, .slice A5 n5 c5, .slice A6 n6 c6, .slice A7 n7 c7] := ((((HQ4.out.set_ 0 (.string x.name)).set_ 1 (.slice A5 n5 c5)).set_ 2 (.slice A6 n6 c6)).set_ 3 (.slice A7 n7 c7))
  have hp5 := ((((hpk.far (p := ⟨w.heap.size, 0, none⟩) hne (.string x.name)).far (p := ⟨w.heap.size, 1, none⟩) hne (.slice A5 n5 c5)).far (p := ⟨w.heap.size, 2, none⟩) hne (.slice A6 n6 c6)).far (p := ⟨w.heap.size, 3, none⟩) hne (.slice A7 n7 c7))
  have hz5 := ((((HZ4.out.far (p := ⟨w.heap.size, 0, none⟩) hne2 (.string x.name)).far (p := ⟨w.heap.size, 1, none⟩) hne2 (.slice A5 n5 c5)).far (p := ⟨w.heap.size, 2, none⟩) hne2 (.slice A6 n6 c6)).far (p := ⟨w.heap.size, 3, none⟩) hne2 (.slice A7 n7 c7))
  have HB5 := Lib.hid ((((HB4.out.setCell (p := ⟨w.heap.size, 0, none⟩) (Nat.le_refl _) (.string x.name)).setCell (p := ⟨w.heap.size, 1, none⟩) (Nat.le_refl _) (.slice A5 n5 c5)).setCell (p := ⟨w.heap.size, 2, none⟩) (Nat.le_refl _) (.slice A6 n6 c6)).setCell (p := ⟨w.heap.size, 3, none⟩) (Nat.le_refl _) (.slice A7 n7 c7))
  have hr5 : Tk.ReadT _ A s3.1 := hpr.only ho (fun g off e => HTY.out g off _ _ _ (by subst e; exact hpk)) (by decide)
  have HGN : Hid (∀ g off, A = some ⟨g, off, none⟩ → ¬ g = w.heap.size) := Lib.hid (fun g off e => Id.Typed.ne (HTY.out g off _ _ _ (by subst e; exact hpk)) HQ4.out (by decide))
  have HSV5 := Lib.hid (HSV.out.only ho (by decide))
  generalize ((((w4.setCell ⟨w.heap.size, 0, none⟩ (.string x.name)).setCell ⟨w.heap.size, 1, none⟩ (.slice A5 n5 c5)).setCell ⟨w.heap.size, 2, none⟩ (.slice A6 n6 c6)).setCell ⟨w.heap.size, 3, none⟩ (.slice A7 n7 c7)) = w5 at *
  clear ho hpk hpr HB4 HSV HZ4 HQ4 HTY
  obtain ⟨l3, bad⟩ := s3
  simp only at hp5 hr5 hpc HR2
  cases l3 with
  | nil =>
    simp only [List.length_nil] at hp5
    obtain ⟨⟨p0, p1⟩, _⟩ := hp5.k2
    obtain ⟨⟨q0, q1, q2, q3⟩, q4, q5, q6, q7⟩ := hq5.k4
    obtain ⟨⟨z0, z1, z2, z3⟩, _⟩ := hz5.k4
    clear hr5 hpc hpn
    cases bad
    · have HE : Hid (R = (x, 0, 0)) := Lib.hid (by rw [HR2.out]; rfl)
      go_wp2_with fail
      clear q0 q1 q2 q3 q4 q5 q6 q7
      have hqf : Bk _ w.heap.size 26 #[.string x.name, .slice A5 n5 c5, .slice A6 n6 c6, .slice A7 n7 c7] := ((((hq5.set_ 0 (.string x.name)).set_ 1 (.slice A5 n5 c5)).set_ 2 (.slice A6 n6 c6)).set_ 3 (.slice A7 n7 c7))
      have hBf := ((((HB5.out.setCell (p := ⟨w.heap.size, 0, none⟩) (Nat.le_refl _) (.string x.name)).setCell (p := ⟨w.heap.size, 1, none⟩) (Nat.le_refl _) (.slice A5 n5 c5)).setCell (p := ⟨w.heap.size, 2, none⟩) (Nat.le_refl _) (.slice A6 n6 c6)).setCell (p := ⟨w.heap.size, 3, none⟩) (Nat.le_refl _) (.slice A7 n7 c7))
      have hof := ((((Only.set hq5 0 (.string x.name)).trans (Only.set (hq5.set_ 0 (.string x.name)) 1 (.slice A5 n5 c5))).trans (Only.set ((hq5.set_ 0 (.string x.name)).set_ 1 (.slice A5 n5 c5)) 2 (.slice A6 n6 c6))).trans (Only.set (((hq5.set_ 0 (.string x.name)).set_ 1 (.slice A5 n5 c5)).set_ 2 (.slice A6 n6 c6)) 3 (.slice A7 n7 c7)))
      have hsf := HSV5.out.only hof (by decide)
      generalize ((((w5.setCell ⟨w.heap.size, 0, none⟩ (.string x.name)).setCell ⟨w.heap.size, 1, none⟩ (.slice A5 n5 c5)).setCell ⟨w.heap.size, 2, none⟩ (.slice A6 n6 c6)).setCell ⟨w.heap.size, 3, none⟩ (.slice A7 n7 c7)) = wf at *
      obtain ⟨⟨y0, y1, y2, y3⟩, _⟩ := hqf.k4
      refine bodyPost_ret (v := .tuple #[.agg #[.string x.name, .slice A5 n5 c5, .slice A6 n6 c6, .slice A7 n7 c7], .int .i64 0, .int .i64 0]) ?_ rfl ⟨_, by first | (rw [HE.out]; done) | (rw [HE.out]; rfl), hBf, by rw [HE.out]; exact hsf⟩
      rw [res_ctt rfl]
      go_simp
      try rfl
    · have HE : Hid (R = (Id.Sch.zero, s.size, 120)) := Lib.hid (by rw [HR2.out]; rfl)
      go_wp2_with fail
      clear q0 q1 q2 q3 q4 q5 q6 q7
      have hqf : Bk _ w.heap.size 26 #[.string ⟨#[]⟩, .slice none 0 0, .slice none 0 0, .slice none 0 0] := ((((hq5.set_ 0 (.string ⟨#[]⟩)).set_ 1 (.slice none 0 0)).set_ 2 (.slice none 0 0)).set_ 3 (.slice none 0 0))
      have hBf := ((((HB5.out.setCell (p := ⟨w.heap.size, 0, none⟩) (Nat.le_refl _) (.string ⟨#[]⟩)).setCell (p := ⟨w.heap.size, 1, none⟩) (Nat.le_refl _) (.slice none 0 0)).setCell (p := ⟨w.heap.size, 2, none⟩) (Nat.le_refl _) (.slice none 0 0)).setCell (p := ⟨w.heap.size, 3, none⟩) (Nat.le_refl _) (.slice none 0 0))
      have hof := ((((Only.set hq5 0 (.string ⟨#[]⟩)).trans (Only.set (hq5.set_ 0 (.string ⟨#[]⟩)) 1 (.slice none 0 0))).trans (Only.set ((hq5.set_ 0 (.string ⟨#[]⟩)).set_ 1 (.slice none 0 0)) 2 (.slice none 0 0))).trans (Only.set (((hq5.set_ 0 (.string ⟨#[]⟩)).set_ 1 (.slice none 0 0)).set_ 2 (.slice none 0 0)) 3 (.slice none 0 0)))
      generalize ((((w5.setCell ⟨w.heap.size, 0, none⟩ (.string ⟨#[]⟩)).setCell ⟨w.heap.size, 1, none⟩ (.slice none 0 0)).setCell ⟨w.heap.size, 2, none⟩ (.slice none 0 0)).setCell ⟨w.heap.size, 3, none⟩ (.slice none 0 0)) = wf at *
      obtain ⟨⟨y0, y1, y2, y3⟩, _⟩ := hqf.k4
      refine bodyPost_ret (v := .tuple #[.agg #[.string ⟨#[]⟩, .slice none 0 0, .slice none 0 0, .slice none 0 0], .int .i64 s.size, .int .i64 120]) ?_ rfl ⟨_, by first | (rw [HE.out]; done) | (rw [HE.out]; rfl), hBf, by rw [HE.out]; exact Id.SchV.zero _ _⟩
      rw [res_ctt rfl]
      go_simp
      try rfl
  | cons t r =>
    have HE : Hid (R = (Id.Sch.zero, t.at_, 120)) := Lib.hid HR2.out
    obtain ⟨g, off, rfl, hcs⟩ := hr5 (by simp)
    obtain ⟨t0, t1, t2, t3⟩ := hcs 0 (by simp)
    simp only [Nat.zero_mul, Nat.add_zero, List.getElem_cons_zero] at t0 t1 t2 t3
    simp only [List.length_cons] at hp5 hpc
    obtain ⟨m, hm⟩ : ∃ m, m = r.length := ⟨_, rfl⟩
    rw [← hm] at hp5 hpc
    have hm1 : ¬ (m : Int) + 1 = 0 := by omega
    have hm2 : (0 : Int) < (m : Int) + 1 := by omega
    have hm3 : ((m : Int) + 1 == 0) = false := by rw [beq_eq_false_iff_ne]; omega
    have hm4 : 0 < m + 1 := by omega
    obtain ⟨⟨p0, p1⟩, _⟩ := hp5.k2
    obtain ⟨⟨q0, q1, q2, q3⟩, q4, q5, q6, q7⟩ := hq5.k4
    obtain ⟨⟨z0, z1, z2, z3⟩, _⟩ := hz5.k4
    clear hcs hm hpn
    have hgn : ¬ g = w.heap.size := HGN.out _ _ rfl
    cases bad
    all_goals
      go_wp2_with fail
      go_region
      clear q0 q1 q2 q3 q4 q5 q6 q7 z0 z1 z2 z3 p0 p1 t0 t1 t2 t3
      have hqf : Bk _ w.heap.size 26 #[.string ⟨#[]⟩, .slice none 0 0, .slice none 0 0, .slice none 0 0] := ((((hq5.set_ 0 (.string ⟨#[]⟩)).set_ 1 (.slice none 0 0)).set_ 2 (.slice none 0 0)).set_ 3 (.slice none 0 0)).drew
      have hBf := ((((HB5.out.setCell (p := ⟨w.heap.size, 0, none⟩) (Nat.le_refl _) (.string ⟨#[]⟩)).setCell (p := ⟨w.heap.size, 1, none⟩) (Nat.le_refl _) (.slice none 0 0)).setCell (p := ⟨w.heap.size, 2, none⟩) (Nat.le_refl _) (.slice none 0 0)).setCell (p := ⟨w.heap.size, 3, none⟩) (Nat.le_refl _) (.slice none 0 0)).drew
      generalize ((((w5.setCell ⟨w.heap.size, 0, none⟩ (.string ⟨#[]⟩)).setCell ⟨w.heap.size, 1, none⟩ (.slice none 0 0)).setCell ⟨w.heap.size, 2, none⟩ (.slice none 0 0)).setCell ⟨w.heap.size, 3, none⟩ (.slice none 0 0)).drew = wf at *
      go_wp2_with fail
      obtain ⟨⟨y0, y1, y2, y3⟩, _⟩ := hqf.k4
      refine bodyPost_ret (v := .tuple #[.agg #[.string ⟨#[]⟩, .slice none 0 0, .slice none 0 0, .slice none 0 0], .int .i64 t.at_, .int .i64 120]) ?_ rfl ⟨_, by first | (rw [HE.out]; done) | (rw [HE.out]; rfl), hBf, by rw [HE.out]; exact Id.SchV.zero _ _⟩
      rw [res_ctt rfl]
      go_simp
      try rfl
set_option maxRecDepth 100000 in
set_option maxHeartbeats 8000000 in
theorem pparse_any (s : ByteArray) (hs : s.size ≤ 9223372036854775807) (w : World) (hk : Tk.KW w) :
    Calls Tryz.prog 22 #[.string s] w fun e w' => ∃ v, e = .returned (.tuple #[v, .int .i64 (Id.parse s).2.1, .int .i64 (Id.parse s).2.2]) ∧ Below w.heap.size w w' ∧ Id.SchV w' (some w.heap.size) v (Id.parse s).1 := by
  obtain ⟨R, HR⟩ : ∃ R, Hid (Id.parse s = R) := ⟨_, Lib.hid rfl⟩
  rw [HR.out]
  have hbl := (Below.refl w.heap.size w).alloc (Nat.le_refl _) (.cells #[.string ⟨#[]⟩, .slice none 0 0, .slice none 0 0, .slice none 0 0] 26)
  have hq := Bk.new w 26 #[.string ⟨#[]⟩, .slice none 0 0, .slice none 0 0, .slice none 0 0]
  have hk1 := hk.below hbl
  clear hk
  go_enter Tryz.func22, Tryz.ntmps22
  go_wp2_with fail
  refine (pwhole_schema s hs _ hk1).mono ?_
  rintro e w2 ⟨v, rfl, hb2, hsv⟩
  rw [HR.out] at hsv ⊢
  have hB2 := Lib.hid (hbl.trans (hb2.mono (by simp)))
  have hq5 := hq.below hb2 hq.lt
  have HSV := Lib.hid (Id.SchV.weak (Id.wk_le (by simp)) hsv : Id.SchV w2 (some w.heap.size) v R.1)
  obtain ⟨A5, n5, c5, A6, n6, c6, A7, n7, c7, rfl, _⟩ := hsv
  clear hq hbl hk1 hb2
  obtain ⟨⟨q0, q1, q2, q3⟩, q4, q5, q6, q7⟩ := hq5.k4
  generalize R.1.name = xn at *
  go_wp2_with fail
  clear q0 q1 q2 q3 q4 q5 q6 q7
  have hqf : Bk _ w.heap.size 26 #[.string xn, .slice A5 n5 c5, .slice A6 n6 c6, .slice A7 n7 c7] := ((((hq5.set_ 0 (.string xn)).set_ 1 (.slice A5 n5 c5)).set_ 2 (.slice A6 n6 c6)).set_ 3 (.slice A7 n7 c7))
  have hBf := ((((hB2.out.setCell (p := ⟨w.heap.size, 0, none⟩) (Nat.le_refl _) (.string xn)).setCell (p := ⟨w.heap.size, 1, none⟩) (Nat.le_refl _) (.slice A5 n5 c5)).setCell (p := ⟨w.heap.size, 2, none⟩) (Nat.le_refl _) (.slice A6 n6 c6)).setCell (p := ⟨w.heap.size, 3, none⟩) (Nat.le_refl _) (.slice A7 n7 c7))
  have hsf := HSV.out.only ((((Only.set hq5 0 (.string xn)).trans (Only.set (hq5.set_ 0 (.string xn)) 1 (.slice A5 n5 c5))).trans (Only.set ((hq5.set_ 0 (.string xn)).set_ 1 (.slice A5 n5 c5)) 2 (.slice A6 n6 c6))).trans (Only.set (((hq5.set_ 0 (.string xn)).set_ 1 (.slice A5 n5 c5)).set_ 2 (.slice A6 n6 c6)) 3 (.slice A7 n7 c7))) (by decide)
  generalize ((((w2.setCell ⟨w.heap.size, 0, none⟩ (.string xn)).setCell ⟨w.heap.size, 1, none⟩ (.slice A5 n5 c5)).setCell ⟨w.heap.size, 2, none⟩ (.slice A6 n6 c6)).setCell ⟨w.heap.size, 3, none⟩ (.slice A7 n7 c7)) = wf at *
  obtain ⟨⟨y0, y1, y2, y3⟩, _⟩ := hqf.k4
  refine bodyPost_ret (v := .tuple #[.agg #[.string xn, .slice A5 n5 c5, .slice A6 n6 c6, .slice A7 n7 c7], .int .i64 R.2.1, .int .i64 R.2.2]) ?_ rfl ⟨_, rfl, hBf, hsf⟩
  rw [res_ctt rfl]
  go_simp
  try rfl
end Go.Proofs.YtmncppnpppdfkaaGreatDoor
set_option linter.unusedVariables false
set_option linter.unusedSimpArgs false
namespace Go.Proofs.YtmncppnpppdfkaaGreatDoor
open Go.RowKit
theorem calls_qd' {P : Program} {f : FuncId} {args : Array Value} {w : World} {v : Value} (n : Nat) (h : Calls P f args (w.drewN n) fun e w' => e = .returned v ∧ ∃ q, w' = (w.drewN n).drewN q) : Calls P f args (w.drewN n) fun e w' => e = .returned v ∧ ∃ q, w' = w.drewN q :=
  h.mono fun _ _ ⟨he, q, hq⟩ => ⟨he, n + q, by rw [hq, World.drewN_drewN]⟩
namespace Id
def sameF {α : Type} (eq : α → α → Bool) : List α → List α → Bool
  | [], [] => true
  | x :: a, y :: b => eq x y && sameF eq a b
  | _, _ => false
theorem sameF_len {α : Type} {eq : α → α → Bool} : ∀ (a b : List α), a.length ≠ b.length → sameF eq a b = false
  | [], [], h => absurd rfl h
  | [], _ :: _, _ => rfl
  | _ :: _, [], _ => rfl
  | x :: a, y :: b, h => by
    unfold sameF
    rw [sameF_len a b (by simpa using h), Bool.and_false]
theorem sameF_refl {α : Type} {eq : α → α → Bool} (h : ∀ x, eq x x = true) : ∀ a : List α, sameF eq a a = true
  | [] => rfl
  | x :: a => by unfold sameF; rw [h, sameF_refl h a]; rfl
theorem sameF_drop {α : Type} {eq : α → α → Bool} {a b : List α} {k : Nat} (ha : k < a.length) (hb : k < b.length) : sameF eq (a.drop k) (b.drop k) = (eq a[k] b[k] && sameF eq (a.drop (k + 1)) (b.drop (k + 1))) := by
  rw [List.drop_eq_getElem_cons ha, List.drop_eq_getElem_cons hb]
  rfl
theorem sameF_done {α : Type} {eq : α → α → Bool} {a b : List α} {k : Nat} (ha : a.length ≤ k) (hb : b.length ≤ k) : sameF eq (a.drop k) (b.drop k) = true := by
  rw [List.drop_of_length_le ha, List.drop_of_length_le hb]
  rfl
def srtEq (x y : Srt) : Bool := x.kind == y.kind && x.name.toList == y.name.toList
def mthEq (x y : Mth) : Bool := x.name.toList == y.name.toList && x.arg.toList == y.arg.toList && x.result == y.result && x.effect.toList == y.effect.toList && x.undo.toList == y.undo.toList
def stpEq (x y : Stp) : Bool := x.service.toList == y.service.toList && x.method.toList == y.method.toList && x.at_ == y.at_
def fldEq (x y : Fld) : Bool := x.name.toList == y.name.toList && sameF srtEq x.type y.type
def recEq (x y : Rec) : Bool := x.name.toList == y.name.toList && x.choice == y.choice && sameF fldEq x.fields y.fields
def svcEq (x y : Svc) : Bool := x.name.toList == y.name.toList && sameF mthEq x.methods y.methods
def sagEq (x y : Sag) : Bool := x.name.toList == y.name.toList && x.arg.toList == y.arg.toList && sameF stpEq x.steps y.steps
def schEq (x y : Sch) : Bool := x.name.toList == y.name.toList && sameF recEq x.records y.records && sameF svcEq x.services y.services && sameF sagEq x.sagas y.sagas
theorem srtEq_refl (x : Srt) : srtEq x x = true := by simp [srtEq]
theorem mthEq_refl (x : Mth) : mthEq x x = true := by simp [mthEq]
theorem stpEq_refl (x : Stp) : stpEq x x = true := by simp [stpEq]
theorem fldEq_refl (x : Fld) : fldEq x x = true := by simp [fldEq, sameF_refl srtEq_refl]
theorem recEq_refl (x : Rec) : recEq x x = true := by simp [recEq, sameF_refl fldEq_refl]
theorem svcEq_refl (x : Svc) : svcEq x x = true := by simp [svcEq, sameF_refl mthEq_refl]
theorem sagEq_refl (x : Sag) : sagEq x x = true := by simp [sagEq, sameF_refl stpEq_refl]
theorem schEq_refl (x : Sch) : schEq x x = true := by simp [schEq, sameF_refl recEq_refl, sameF_refl svcEq_refl, sameF_refl sagEq_refl]
end Id
set_option maxRecDepth 100000 in
set_option maxHeartbeats 4000000 in
theorem samesorts_any (va vb : Value) (a b : List Id.Srt) (w : World) (ha : Id.SortsR w none va a) (hb : Id.SortsR w none vb b) :
    Calls Tryz.prog 21 #[va, vb] w fun e w' => e = .returned (.bool (Id.sameF Id.srtEq a b)) ∧ ∃ q, w' = w.drewN q := by
  obtain ⟨R, HR⟩ : ∃ R, Hid (Id.sameF Id.srtEq a b = R) := ⟨_, Lib.hid rfl⟩
  rw [HR.out]
  obtain ⟨A, ca, rfl, ha1, ha2, _⟩ := ERow.slice ha
  obtain ⟨B, cb, rfl, hb1, hb2, _⟩ := ERow.slice hb
  have Ha := Lib.hid ha
  have Hb := Lib.hid hb
  by_cases hl : a.length = b.length
  case neg =>
    have HE : Hid (R = false) := Lib.hid (by rw [← HR.out]; exact Id.sameF_len a b hl)
    have h1 : ((a.length : Int) != b.length) = true := by rw [bne_iff_ne]; omega
    clear ha hb
    generalize a.length = n at *
    generalize b.length = m at *
    go_enter Tryz.func21, Tryz.ntmps21
    go_wp2_with fail
    go_ret
    exact ⟨(by first | (rw [HE.out]; done) | (rw [HE.out]; rfl)), 0, rfl⟩
  obtain ⟨n, hn⟩ : ∃ n, n = a.length := ⟨_, rfl⟩
  rw [← hl, ← hn] at Hb ⊢
  rw [← hn] at Ha
  have HNA := Lib.hid hn
  have HNB : Hid (n = b.length) := Lib.hid (hn.trans hl)
  have hnm : n ≤ 9223372036854775807 := by omega
  clear ha hb hl hn ha1 ha2 hb1 hb2
  go_enter Tryz.func21, Tryz.ntmps21
  go_wp2_with fail
  go_loopw [5] (fun i wr => ∃ k q : Nat, k ≤ n ∧ i = .int .i64 k ∧ Hid (R = Id.sameF Id.srtEq (a.drop k) (b.drop k)) ∧ Hid (wr = w.drewN q)) (fun i _ => n - (intOf i).toNat)
  case atStart => exact ⟨0, 0, by omega, rfl, Lib.hid HR.out.symm, Lib.hid rfl⟩
  case round =>
    obtain ⟨k, q, hk, rfl, HK, HW⟩ := hrel
    obtain rfl := HW.out
    by_cases hlt : k < n
    · have hka : k < a.length := by rw [← HNA.out]; exact hlt
      have hkb : k < b.length := by rw [← HNB.out]; exact hlt
      obtain ⟨ag, ao, acs, rfl, _, ea, hca⟩ := Ha.out.get hka (by omega)
      obtain ⟨bg, bo, bcs, rfl, _, eb, hcb⟩ := Hb.out.get hkb (by omega)
      have HD := HK.out
      rw [Id.sameF_drop hka hkb] at HD
      generalize a[k] = x at *
      generalize b[k] = y at *
      obtain ⟨xk, xn⟩ := x
      obtain ⟨yk, yn⟩ := y
      unfold Id.SortE Id.Srt.cells at ea eb
      subst ea eb
      have a0 := hca 0 _ rfl
      have a1 := hca 1 _ rfl
      have b0 := hcb 0 _ rfl
      have b1 := hcb 1 _ rfl
      simp only [Nat.add_zero] at a0 b0
      have i0 : (0 : Int) ≤ (k : Int) := by omega
      have i1 : (k : Int) < (n : Int) := by omega
      have HD2 := Lib.hid HD
      clear hca hcb HD HW HK hka hkb
      by_cases hkk : xk = yk
      · subst hkk
        cases hnn : (xn.toList == yn.toList)
        · have HE : Hid (R = false) := Lib.hid (by rw [HD2.out]; simp [Id.srtEq, hnn])
          go_wp2_with fail
          go_quiet (fail)
          go_wp2_with fail
          go_ret
          exact ⟨(by first | (rw [HE.out]; done) | (rw [HE.out]; rfl)), _, World.drewN_drewN _ _ _⟩
        · have HE : Hid (R = Id.sameF Id.srtEq (a.drop (k + 1)) (b.drop (k + 1))) := Lib.hid (by rw [HD2.out]; simp [Id.srtEq, hnn])
          go_wp2_with fail
          go_quiet (fail)
          go_wp2_with fail
          go_roundw
          case rel => exact ⟨k + 1, _, by omega, by go_num, HE, Lib.hid rfl⟩
          case measure => simp [intOf]; omega
      · have HE : Hid (R = false) := Lib.hid (by rw [HD2.out]; simp [Id.srtEq, hkk])
        have hki : ((xk : Int) == (yk : Int)) = false := by rw [beq_eq_false_iff_ne]; omega
        clear hkk
        go_wp2_with fail
        go_quiet (fail)
        go_wp2_with fail
        go_ret
        exact ⟨(by first | (rw [HE.out]; done) | (rw [HE.out]; rfl)), _, World.drewN_drewN _ _ _⟩
    · obtain rfl : k = n := by omega
      have HE : Hid (R = true) := Lib.hid (by rw [HK.out, Id.sameF_done (by rw [HNA.out]; exact Nat.le_refl _) (by rw [HNB.out]; exact Nat.le_refl _)])
      go_wp2_with fail
      go_ret
      exact ⟨(by first | (rw [HE.out]; done) | (rw [HE.out]; rfl)), q, rfl⟩
end Go.Proofs.YtmncppnpppdfkaaGreatDoor
