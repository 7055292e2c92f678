/- The parser: schema's walk. -/
import Derived.Test.YtoomlpalkinipaaDoorIdlK2
import Derived.Test.YtoomlpalkinipaaDoorDrawn
set_option linter.unusedVariables false
set_option linter.unusedSimpArgs false
namespace Go.Proofs.YtoomlpalkinipaaDoor
open Go.RowKit
set_option maxRecDepth 100000 in
set_option maxHeartbeats 8000000 in
theorem pschema_any (b : Nat) (hb0 : 0 < b) (s0 : Id.St) (hsz : s0.1.length ≤ 1000000) (w : World) (hk : Tk.KW w) (h : Id.Ps w b s0) :
    Calls Tryd.prog 18 #[.pointer (some ⟨b, 0, none⟩)] w fun e w' => ∃ v1 v2 v3, e = .returned (.agg #[.string (Id.schema s0).1.name, v1, v2, v3]) ∧ w.grownBy w' (some b) ∧ Id.Ps w' b (Id.schema s0).2 ∧ Id.RecsR w' (some w.heap.size) v1 (Id.schema s0).1.records ∧ Id.SvcsR w' (some w.heap.size) v2 (Id.schema s0).1.services ∧ Id.SagsR w' (some w.heap.size) v3 (Id.schema s0).1.sagas := by
  obtain ⟨R, HR⟩ : ∃ R, Hid (Id.schema s0 = R) := ⟨_, Lib.hid rfl⟩
  rw [HR.out]
  have hbw := h.lt
  have hl1 := Id.want_le s0 Id.wModule
  obtain ⟨s1, H1⟩ : ∃ R, Hid (Id.want s0 Id.wModule = R) := ⟨_, Lib.hid rfl⟩
  rw [H1.out] at hl1
  have hl2 := Id.name_le s1
  obtain ⟨⟨nm, s2⟩, H2⟩ : ∃ R, Hid (Id.name s1 = R) := ⟨_, Lib.hid rfl⟩
  rw [H2.out] at hl2
  have hl3 := Id.want_le s2 Id.sSemi
  obtain ⟨s3, H3⟩ : ∃ R, Hid (Id.want s2 Id.sSemi = R) := ⟨_, Lib.hid rfl⟩
  rw [H3.out] at hl3
  simp only at hl2
  have HR0 : Hid (Id.schemaF (s3.1.length + 2) s3 ⟨nm, [], [], []⟩ = R) := Lib.hid (by rw [← HR.out]; unfold Id.schema; simp only [H1.out, H2.out, H3.out])
  have hW := (Id.PW.start h hk).alloc (.cells #[.string ⟨#[]⟩, .slice none 0 0, .slice none 0 0, .slice none 0 0] 26)
  have hq := Bk.new w 26 #[.string ⟨#[]⟩, .slice none 0 0, .slice none 0 0, .slice none 0 0]
  clear h hk
  go_enter Tryd.func18, Tryd.ntmps18
  go_wp2_with fail
  refine (pwant_any b s0 Id.wModule _ hW.ps).mono ?_
  rintro e w1 ⟨rfl, hg, hp⟩
  rw [H1.out] at hp
  replace hW := hW.call hb0 hg hp
  replace hq := hq.call hg (by omega)
  clear hg hp
  go_wp2_with fail
  refine (pname_any b hb0 s1 _ hW.kw hW.ps).mono ?_
  rintro e w2 ⟨rfl, hg, hp⟩
  rw [H2.out] at hp ⊢
  simp only at hp ⊢
  replace hW := hW.call hb0 hg hp
  replace hq := hq.call hg (by omega)
  clear hg hp
  obtain ⟨⟨q0, q1, q2, q3⟩, q4, q5, q6, q7⟩ := hq.k4
  go_wp2_with fail
  clear q0 q1 q2 q3 q4 q5 q6 q7
  replace hW := hW.set hq (Nat.le_refl _) (by omega) (by decide) (by decide) 0 (.string nm)
  replace hq : Bk (w2.setCell ⟨w.heap.size, 0, none⟩ (.string nm)) w.heap.size 26 #[.string nm, .slice none 0 0, .slice none 0 0, .slice none 0 0] := hq.set_ 0 (.string nm)
  refine (pwant_any b s2 Id.sSemi _ hW.ps).mono ?_
  rintro e w3 ⟨rfl, hg, hp⟩
  rw [H3.out] at hp
  replace hW := hW.call hb0 hg hp
  replace hq := hq.call hg (by omega)
  clear hg hp
  have HA0 := Lib.hid (show Id.SchAt w b R (s3.1.length + 2) w3 s3 ⟨nm, [], [], []⟩ from ⟨fun _ => Nat.le_refl _, by omega, by simp; omega, hW, ⟨_, _, _, _, _, _, _, _, _, hq, ERow.nil _ _ _ _ _, ERow.nil _ _ _ _ _, ERow.nil _ _ _ _ _⟩, HR0.out⟩)
  clear hq hW
  go_wp2_with fail
  go_loopg [25] (s3.1.length + 2) (fun n l wr => ∃ (s : Id.St) (x : Id.Sch), Hid (Id.SchAt w b R n wr s x))
  case atStart => exact ⟨s3, _, HA0⟩
  case round =>
    obtain ⟨s, x, HA⟩ := hrel
    obtain ⟨f, rfl⟩ : ∃ f, gk = f + 1 := ⟨gk - 1, by have := HA.out.fo; omega⟩
    obtain ⟨l, bad⟩ := s
    obtain ⟨A, c, hk, hr, hc, hc2, hne⟩ := HA.out.pw.ps.lies
    obtain ⟨⟨c0, c1⟩, f0, f1⟩ := hk.k2
    have hln := HA.out.ln
    have hfu := HA.out.fu
    have hzr := HA.out.pw.gb.size
    simp only at hln hfu
    clear hr hne hk hc f0 f1
    have hend : ((l, bad).2 = true ∨ (l, bad).1 = []) → R = (x, (l, bad)) := fun e => by rw [← HA.out.out, Id.schemaF, if_pos e]
    cases bad
    case' true =>
      have HE : Hid (R = (x, (l, true))) := Lib.hid (hend (.inl rfl))
      clear hfu hend
    case' false =>
      cases l
      case' nil =>
        have HE : Hid (R = (x, ([], false))) := Lib.hid (hend (.inr rfl))
        simp only [List.length_nil] at c0
        clear hfu hend
    case true =>
      obtain ⟨A1, n1, c1', A2, n2, c2', A3, n3, c3', hq, r1, r2, r3⟩ := HA.out.blk
      obtain ⟨xn, xr, xv, xg⟩ := x
      obtain ⟨⟨q0, q1, q2, q3⟩, q4, q5, q6, q7⟩ := hq.k4
      have HR1 := Lib.hid r1
      have HR2 := Lib.hid r2
      have HR3 := Lib.hid r3
      clear r1 r2 r3
      simp only at q0 hq
      go_wp2_with fail
      have ho := (((Only.set hq 0 (.string xn)).trans (Only.set (hq.set_ 0 (.string xn)) 1 (.slice A1 n1 c1'))).trans (Only.set ((hq.set_ 0 (.string xn)).set_ 1 (.slice A1 n1 c1')) 2 (.slice A2 n2 c2'))).trans (Only.set (((hq.set_ 0 (.string xn)).set_ 1 (.slice A1 n1 c1')).set_ 2 (.slice A2 n2 c2')) 3 (.slice A3 n3 c3'))
      have hqf := (((hq.set_ 0 (.string xn)).set_ 1 (.slice A1 n1 c1')).set_ 2 (.slice A2 n2 c2')).set_ 3 (.slice A3 n3 c3')
      have hGf := gb_set (gb_set (gb_set (gb_set HA.out.pw.gb (p := ⟨w.heap.size, 0, none⟩) (.inr (Nat.le_refl _)) (.string xn)) (p := ⟨w.heap.size, 1, none⟩) (.inr (Nat.le_refl _)) (.slice A1 n1 c1')) (p := ⟨w.heap.size, 2, none⟩) (.inr (Nat.le_refl _)) (.slice A2 n2 c2')) (p := ⟨w.heap.size, 3, none⟩) (.inr (Nat.le_refl _)) (.slice A3 n3 c3')
      generalize ((((wr.setCell ⟨w.heap.size, 0, none⟩ (.string xn)).setCell ⟨w.heap.size, 1, none⟩ (.slice A1 n1 c1')).setCell ⟨w.heap.size, 2, none⟩ (.slice A2 n2 c2')).setCell ⟨w.heap.size, 3, none⟩ (.slice A3 n3 c3')) = w6 at *
      have hkp := ho.kp w.heap.size (T := Id.schT) (by decide)
      have g1 := HR1.out.kp hkp (Nat.le_refl _) (by decide) (by decide) (by decide)
      have g2 := HR2.out.kp hkp (Nat.le_refl _) (by decide) (by decide)
      have g3 := HR3.out.kp hkp (Nat.le_refl _) (by decide) (by decide)
      obtain ⟨⟨p0, p1, p2, p3⟩, _⟩ := hqf.k4
      refine bodyPost_ret (v := .agg #[.string xn, .slice A1 n1 c1', .slice A2 n2 c2', .slice A3 n3 c3']) ?_ rfl ⟨_, _, _, by rw [HE.out], hGf, by rw [HE.out]; exact HA.out.pw.ps.only ho (by decide) (by decide), by rw [HE.out]; exact g1, by rw [HE.out]; exact g2, by rw [HE.out]; exact g3⟩
      rw [res_c rfl]
      go_simp
      try rfl
    case false.nil =>
      obtain ⟨A1, n1, c1', A2, n2, c2', A3, n3, c3', hq, r1, r2, r3⟩ := HA.out.blk
      obtain ⟨xn, xr, xv, xg⟩ := x
      obtain ⟨⟨q0, q1, q2, q3⟩, q4, q5, q6, q7⟩ := hq.k4
      have HR1 := Lib.hid r1
      have HR2 := Lib.hid r2
      have HR3 := Lib.hid r3
      clear r1 r2 r3
      simp only at q0 hq
      go_wp2_with fail
      have ho := (((Only.set hq 0 (.string xn)).trans (Only.set (hq.set_ 0 (.string xn)) 1 (.slice A1 n1 c1'))).trans (Only.set ((hq.set_ 0 (.string xn)).set_ 1 (.slice A1 n1 c1')) 2 (.slice A2 n2 c2'))).trans (Only.set (((hq.set_ 0 (.string xn)).set_ 1 (.slice A1 n1 c1')).set_ 2 (.slice A2 n2 c2')) 3 (.slice A3 n3 c3'))
      have hqf := (((hq.set_ 0 (.string xn)).set_ 1 (.slice A1 n1 c1')).set_ 2 (.slice A2 n2 c2')).set_ 3 (.slice A3 n3 c3')
      have hGf := gb_set (gb_set (gb_set (gb_set HA.out.pw.gb (p := ⟨w.heap.size, 0, none⟩) (.inr (Nat.le_refl _)) (.string xn)) (p := ⟨w.heap.size, 1, none⟩) (.inr (Nat.le_refl _)) (.slice A1 n1 c1')) (p := ⟨w.heap.size, 2, none⟩) (.inr (Nat.le_refl _)) (.slice A2 n2 c2')) (p := ⟨w.heap.size, 3, none⟩) (.inr (Nat.le_refl _)) (.slice A3 n3 c3')
      generalize ((((wr.setCell ⟨w.heap.size, 0, none⟩ (.string xn)).setCell ⟨w.heap.size, 1, none⟩ (.slice A1 n1 c1')).setCell ⟨w.heap.size, 2, none⟩ (.slice A2 n2 c2')).setCell ⟨w.heap.size, 3, none⟩ (.slice A3 n3 c3')) = w6 at *
      have hkp := ho.kp w.heap.size (T := Id.schT) (by decide)
      have g1 := HR1.out.kp hkp (Nat.le_refl _) (by decide) (by decide) (by decide)
      have g2 := HR2.out.kp hkp (Nat.le_refl _) (by decide) (by decide)
      have g3 := HR3.out.kp hkp (Nat.le_refl _) (by decide) (by decide)
      obtain ⟨⟨p0, p1, p2, p3⟩, _⟩ := hqf.k4
      refine bodyPost_ret (v := .agg #[.string xn, .slice A1 n1 c1', .slice A2 n2 c2', .slice A3 n3 c3']) ?_ rfl ⟨_, _, _, by rw [HE.out], hGf, by rw [HE.out]; exact HA.out.pw.ps.only ho (by decide) (by decide), by rw [HE.out]; exact g1, by rw [HE.out]; exact g2, by rw [HE.out]; exact g3⟩
      rw [res_c rfl]
      go_simp
      try rfl
    case false.cons t r =>
      have HX : Hid (R = Id.schemaF (f + 1) (t :: r, false) x) := Lib.hid HA.out.out.symm
      have hwc := Id.words_cases Id.decls (t :: r, false) rfl
      have hwl := Id.words_le Id.decls (t :: r, false)
      obtain ⟨⟨wd, s4⟩, HW⟩ : ∃ R, Hid (Id.words Id.decls (t :: r, false) = R) := ⟨_, Lib.hid rfl⟩
      rw [HW.out] at hwc hwl
      simp only [List.length_cons] at hwc hwl hln hfu c0
      obtain ⟨m, hm⟩ : ∃ m, m = r.length := ⟨_, rfl⟩
      rw [← hm] at hwc hwl hln hfu c0
      have hm1 : (0 : Int) < (m : Int) + 1 := by omega
      replace hfu := hfu trivial
      have HSB := Lib.hid HA.out.blk
      have HPW := Lib.hid HA.out.pw
      have hk0 : ¬ ((t :: r, false).2 = true ∨ (t :: r, false).1 = ([] : List Tk.Tok)) := by simp
      have HX2 : Hid (R = if wd.toList = [114, 101, 99, 111, 114, 100] then Id.schemaF f (Id.record false s4).2 { x with records := x.records ++ [(Id.record false s4).1] } else
        if wd.toList = [99, 104, 111, 105, 99, 101] then Id.schemaF f (Id.record true s4).2 { x with records := x.records ++ [(Id.record true s4).1] } else
        if wd.toList = [115, 101, 114, 118, 105, 99, 101] then Id.schemaF f (Id.service s4).2 { x with services := x.services ++ [(Id.service s4).1] } else
        if wd.toList = [115, 97, 103, 97] then Id.schemaF f (Id.saga s4).2 { x with sagas := x.sagas ++ [(Id.saga s4).1] } else
        Id.schemaF f s4 x) := Lib.hid (by rw [HX.out, Id.schemaF, if_neg hk0, HW.out])
      clear hend HX hk0 hm HR HR0
      go_wp2_with fail
      have hL := lie_alloc wr 9 #[.string Id.wRecord, .string Id.wChoice, .string Id.wService, .string Id.wSaga] _ rfl
      have hbl := (Below.refl wr.heap.size wr).alloc (Nat.le_refl _) (.cells #[.string Id.wRecord, .string Id.wChoice, .string Id.wService, .string Id.wSaga] 9)
      refine (pwords_any _ 4 4 Id.decls rfl (by omega) b _ _ hL (HPW.out.below hbl).ps).mono ?_
      rintro e w4 ⟨rfl, hg, hp⟩
      rw [HW.out] at hp ⊢
      simp only at hp ⊢
      have HPW4 := Lib.hid ((HPW.out.below hbl).call hb0 hg hp)
      have HSB4 := Lib.hid ((HSB.out.below hbl).call hg (by omega) (by omega))
      have hz4 := HPW4.out.gb.size
      clear hg hp hL hbl HSB HPW c0 c1 hzr
      by_cases e1 : wd.toList = [114, 101, 99, 111, 114, 100]
      · have HE : Hid (Id.schemaF f (Id.record false s4).2 { x with records := x.records ++ [(Id.record false s4).1] } = R) := Lib.hid (by rw [HX2.out, if_pos e1])
        have t1 : (wd.toList == [114, 101, 99, 111, 114, 100]) = true := beq_iff_eq.2 e1
        have hs4 : s4.1.length + 1 = m + 1 := by
          rcases hwc with ⟨_, h⟩ | ⟨_, h⟩
          · exact h
          · rw [h, Id.empty_toList] at e1
            cases e1
        have hn5 := Id.name_le s4
        obtain ⟨⟨n5, s5⟩, H5⟩ : ∃ R, Hid (Id.name s4 = R) := ⟨_, Lib.hid rfl⟩
        rw [H5.out] at hn5
        have hn6 := Id.within_le Id.field_le s5
        obtain ⟨⟨fs, s6⟩, H6⟩ : ∃ R, Hid (Id.within Id.field s5 = R) := ⟨_, Lib.hid rfl⟩
        rw [H6.out] at hn6
        simp only at hn5 hn6
        have HE2 : Hid (Id.schemaF f s6 { x with records := x.records ++ [⟨n5, false, fs⟩] } = R) := Lib.hid (by rw [← HE.out]; simp only [Id.record, H5.out, H6.out])
        have HPD := Lib.hid (HPW4.out.below (Below.refl _ _).drew)
        obtain ⟨A1, n1, c1', A2, n2, c2', A3, n3, c3', hq, r1, r2, r3⟩ := HSB4.out.below (Below.refl _ _).drew
        have HR1 := Lib.hid r1
        have HR2 := Lib.hid r2
        have HR3 := Lib.hid r3
        have q1 : w4.drew.cell? ⟨w.heap.size, 1, none⟩ = some (.slice A1 n1 c1') := hq.cell 1
        have HQ := Lib.hid hq
        clear r1 r2 r3 HX2 HE e1 hq HSB4 HPW4 hwc
        go_wp2_with fail
        refine wp_region_L_calm (fun w' => w'.cell? ⟨w.heap.size, 1, none⟩ = some (.slice A1 n1 c1')) [10, 12] (by kernel_rfl) q1 (fun hHeld => ?_)
        (refine wpAnyL_take0 0 (v := ?_) rfl (by kernel_rfl) (by kernel_rfl) (by kernel_rfl) (by kernel_rfl) (fun _ _ _ h => h) (fun _ => by assumption) (by rfl) ?_ ?_; rotate_left; · (intro w; go_simp; try with_reducible rfl); try simp only [Act.put, List.setIfInBounds_toArray, List.set_cons_zero, List.set_cons_succ])
        (refine wpAnyL_take 1 (v := ?_) rfl (by kernel_rfl) (by kernel_rfl) (by kernel_rfl) (by kernel_rfl) (fun _ _ _ h => h) (by assumption) (by rfl) ?_ ?_; rotate_left; · (intro w hSw; (try dsimp only at hSw); go_split_ands; go_simp; try with_reducible rfl); try simp only [Act.put, List.setIfInBounds_toArray, List.set_cons_zero, List.set_cons_succ])
        (refine wpAnyL_take0 2 (v := ?_) rfl (by kernel_rfl) (by kernel_rfl) (by kernel_rfl) (by kernel_rfl) (fun _ _ _ h => h) (fun _ => by assumption) (by rfl) ?_ ?_; rotate_left; · (intro w; go_simp; try with_reducible rfl); try simp only [Act.put, List.setIfInBounds_toArray, List.set_cons_zero, List.set_cons_succ])
        (refine wpAnyL_take0 4 (v := ?_) rfl (by kernel_rfl) (by kernel_rfl) (by kernel_rfl) (by kernel_rfl) (fun _ _ _ h => h) (fun _ => by assumption) (by rfl) ?_ ?_; rotate_left; · (intro w; go_simp; try with_reducible rfl); try simp only [Act.put, List.setIfInBounds_toArray, List.set_cons_zero, List.set_cons_succ])
        (refine wpAnyL_take0 5 (v := ?_) rfl (by kernel_rfl) (by kernel_rfl) (by kernel_rfl) (by kernel_rfl) (fun _ _ _ h => h) (fun _ => by assumption) (by rfl) ?_ ?_; rotate_left; · (intro w; go_simp; try with_reducible rfl); try simp only [Act.put, List.setIfInBounds_toArray, List.set_cons_zero, List.set_cons_succ])
        (refine wpAnyL_take0 6 (v := ?_) rfl (by kernel_rfl) (by kernel_rfl) (by kernel_rfl) (by kernel_rfl) (fun _ _ _ h => h) (fun _ => by assumption) (by rfl) ?_ ?_; rotate_left; · (intro w; go_simp; try with_reducible rfl); try simp only [Act.put, List.setIfInBounds_toArray, List.set_cons_zero, List.set_cons_succ])
        clear hHeld q1
        (refine wpAnyL_step 3 (by kernel_rfl) rfl (fun K hK => ?_))
        go_simp
        refine (pname_any b hb0 s4 _ HPD.out.kw HPD.out.ps).mono ?_
        rintro e w5 ⟨rfl, hg5, hp5⟩
        rw [H5.out] at hp5 ⊢
        simp only at hp5 ⊢
        have HPW5 := Lib.hid (HPD.out.call hb0 hg5 hp5)
        have HQ5 := Lib.hid (HQ.out.call hg5 hbw)
        have HK5 := Lib.hid (Kp.grown (base := w.heap.size) (T := Id.schT) hg5 hbw)
        clear hg5 hp5
        (refine hK.out _ _ (fun hnn => HQ5.out.cell 1) ?_; clear hK K; try simp only [Act.put, List.setIfInBounds_toArray, List.set_cons_zero, List.set_cons_succ])
        have hzi := HPW5.out.gb.size
        (refine wpAnyL_step 7 (by kernel_rfl) rfl (fun K hK => ?_))
        go_simp
        refine (pwithin_field b hb0 s5 (by omega) _ HPW5.out.kw HPW5.out.ps).mono ?_
        rintro e w6 ⟨v6, rfl, hg6, hp6, hr6⟩
        rw [H6.out] at hp6 hr6
        simp only at hp6 hr6 ⊢
        have HPW6 := Lib.hid (HPW5.out.call hb0 hg6 hp6)
        have HQ6 := Lib.hid (HQ5.out.call hg6 hbw)
        have HK6 := Lib.hid (HK5.out.trans (Kp.grown (T := Id.schT) hg6 hbw))
        obtain ⟨A6, n6, c6, rfl⟩ := ERow.is hr6
        have HR6 : Hid (Id.FldsR w6 (some w.heap.size) (.slice A6 n6 c6) fs) := Lib.hid (ERow.mono hr6 (fun _ _ h => h.weak (fun b' e => ⟨_, rfl, by injection e with e; omega⟩)) (fun cs x he => by obtain ⟨u, e, hs⟩ := he; exact ⟨u, e, ERow.mono hs (fun _ _ h => h.weak (fun b' e => ⟨_, rfl, by injection e with e; omega⟩)) (fun _ _ h => h)⟩))
        clear hg6 hp6 hr6
        (refine hK.out _ _ (fun hnn => HQ6.out.cell 1) ?_; clear hK K; try simp only [Act.put, List.setIfInBounds_toArray, List.set_cons_zero, List.set_cons_succ])
        (refine wpAnyL_step 8 (by kernel_rfl) rfl (fun K hK => ?_))
        go_simp
        (refine hK.out _ _ (fun hnn => HQ6.out.cell 1) ?_; clear hK K; try simp only [Act.put, List.setIfInBounds_toArray, List.set_cons_zero, List.set_cons_succ])
        (refine wpAnyL_step 9 (by kernel_rfl) rfl (fun K hK => ?_))
        go_simp
        (refine hK.out _ _ (fun hnn => (HQ6.out.alloc _).cell 1) ?_; clear hK K; try simp only [Act.put, List.setIfInBounds_toArray, List.set_cons_zero, List.set_cons_succ])
        have hz6 := HPW6.out.gb.size
        (refine wpAnyL_step 10 (by kernel_rfl) rfl (fun K hK => ?_))
        refine step_append_el rfl _ _ _ rfl w.heap.size 54 _ 3 48 Tryd.underlying22 Id.info_rec rfl (by decide) (Id.RecE (some w.heap.size)) (.slice A1 n1 c1') x.records rfl (Id.RecsR.kp HR1.out (HK6.out.trans (Kp.below ((Below.refl _ _).alloc (Nat.le_refl _) _))) (Nat.le_refl _) (by decide) (by decide) (by decide)) [.string n5, .bool false, .slice A6 n6 c6] rfl _ rfl (Bk.new _ _ _) (by simp [Value.oneCell']) (by simp only [maxLen]; omega) (by omega) (by simp; omega) ?_
        intro A7 n7' c7 w8 hrow8 hb8 ho8
        have HROW := Lib.hid hrow8
        have HB8 := Lib.hid hb8
        have HO8 := Lib.hid ho8
        have HQ8 := Lib.hid (ho8.bk (HQ6.out.alloc _) (by decide))
        clear hrow8 hb8 ho8
        (refine hK.out _ _ (fun hnn => absurd hnn (by decide)) ?_; clear hK K; try simp only [Act.put, List.setIfInBounds_toArray, List.set_cons_zero, List.set_cons_succ])
        (refine wpAnyL_step 11 (by kernel_rfl) rfl (fun K hK => ?_))
        go_simp
        (refine hK.out _ _ (fun hnn => absurd hnn (by decide)) ?_; clear hK K; try simp only [Act.put, List.setIfInBounds_toArray, List.set_cons_zero, List.set_cons_succ])
        have q8 := HQ8.out.cell 1
        have q9 := HQ8.out.frozen 1
        simp only [List.size_toArray, List.length_cons, List.length_nil, List.getElem?_toArray, List.getElem?_cons_succ, List.getElem?_cons_zero] at q8
        (refine wpAnyL_step 12 (by kernel_rfl) rfl (fun K hK => ?_))
        go_simp
        (refine hK.out _ _ (fun hnn => absurd hnn (by decide)) ?_; clear hK K; try simp only [Act.put, List.setIfInBounds_toArray, List.set_cons_zero, List.set_cons_succ])
        clear q8 q9
        refine wpAnyL_done (by kernel_rfl) ?_ _
        refine NoPanic.normal ?_
        go_wp2_with fail
        have HPW8 := Lib.hid ((HPW6.out.alloc (.cells #[.string n5, .bool false, .slice A6 n6 c6] 54)).row HB8.out HO8.out (by omega) (by decide) (by decide))
        have HKX := Lib.hid ((HK6.out.sub (Nat.le_refl _) (by decide)).trans ((Kp.below ((Below.refl _ _).alloc (Nat.le_refl _) (.cells #[.string n5, .bool false, .slice A6 n6 c6] 54))).trans (HO8.out.kp w.heap.size (T := [58, 88, 62, 66]) (by decide))))
        have HKI := (Kp.below (base := w.heap.size) (T := [64, 78]) ((Below.refl w6.heap.size w6).alloc (Nat.le_refl _) (.cells #[.string n5, .bool false, .slice A6 n6 c6] 54))).trans (HO8.out.kp w.heap.size (T := [64, 78]) (by decide))
        have hnew := HROW.out ⟨n5, false, fs⟩ (Id.RecE.kp (T := [64, 78]) (HO8.out.kp w.heap.size (by decide)) (Nat.le_refl _) (by decide) (by decide)) ⟨_, rfl, ERow.kp HR6.out HKI (Nat.le_refl _) (by decide) (Id.FldE.kp HKI (Nat.le_refl _) (by decide))⟩
        go_roundg f
        case rel => exact ⟨s6, _, Lib.hid ⟨fun _ => by omega, by omega, by simp; omega, HPW8.out.set HQ8.out (Nat.le_refl _) (by omega) (by decide) (by decide) 1 _, Id.SchB.rec HQ8.out hnew (HR2.out.kp HKX.out (Nat.le_refl _) (by decide) (by decide)) (HR3.out.kp HKX.out (Nat.le_refl _) (by decide) (by decide)), HE2.out⟩⟩
        case measure => omega
      by_cases e2 : wd.toList = [99, 104, 111, 105, 99, 101]
      · have HE : Hid (Id.schemaF f (Id.record true s4).2 { x with records := x.records ++ [(Id.record true s4).1] } = R) := Lib.hid (by rw [HX2.out, if_neg e1, if_pos e2])
        have t2 : (wd.toList == [99, 104, 111, 105, 99, 101]) = true := beq_iff_eq.2 e2
        have t1 : (wd.toList == [114, 101, 99, 111, 114, 100]) = false := beq_eq_false_iff_ne.2 e1
        have hs4 : s4.1.length + 1 = m + 1 := by
          rcases hwc with ⟨_, h⟩ | ⟨_, h⟩
          · exact h
          · rw [h, Id.empty_toList] at e2
            cases e2
        have hn5 := Id.name_le s4
        obtain ⟨⟨n5, s5⟩, H5⟩ : ∃ R, Hid (Id.name s4 = R) := ⟨_, Lib.hid rfl⟩
        rw [H5.out] at hn5
        have hn6 := Id.within_le Id.field_le s5
        obtain ⟨⟨fs, s6⟩, H6⟩ : ∃ R, Hid (Id.within Id.field s5 = R) := ⟨_, Lib.hid rfl⟩
        rw [H6.out] at hn6
        simp only at hn5 hn6
        have HE2 : Hid (Id.schemaF f s6 { x with records := x.records ++ [⟨n5, true, fs⟩] } = R) := Lib.hid (by rw [← HE.out]; simp only [Id.record, H5.out, H6.out])
        have HPD := Lib.hid (HPW4.out.below (Below.refl _ _).drew)
        obtain ⟨A1, n1, c1', A2, n2, c2', A3, n3, c3', hq, r1, r2, r3⟩ := HSB4.out.below (Below.refl _ _).drew
        have HR1 := Lib.hid r1
        have HR2 := Lib.hid r2
        have HR3 := Lib.hid r3
        have q1 : w4.drew.cell? ⟨w.heap.size, 1, none⟩ = some (.slice A1 n1 c1') := hq.cell 1
        have HQ := Lib.hid hq
        clear r1 r2 r3 HX2 HE e1 e2 hq HSB4 HPW4 hwc
        go_wp2_with fail
        refine wp_region_L_calm (fun w' => w'.cell? ⟨w.heap.size, 1, none⟩ = some (.slice A1 n1 c1')) [10, 12] (by kernel_rfl) q1 (fun hHeld => ?_)
        (refine wpAnyL_take0 0 (v := ?_) rfl (by kernel_rfl) (by kernel_rfl) (by kernel_rfl) (by kernel_rfl) (fun _ _ _ h => h) (fun _ => by assumption) (by rfl) ?_ ?_; rotate_left; · (intro w; go_simp; try with_reducible rfl); try simp only [Act.put, List.setIfInBounds_toArray, List.set_cons_zero, List.set_cons_succ])
        (refine wpAnyL_take 1 (v := ?_) rfl (by kernel_rfl) (by kernel_rfl) (by kernel_rfl) (by kernel_rfl) (fun _ _ _ h => h) (by assumption) (by rfl) ?_ ?_; rotate_left; · (intro w hSw; (try dsimp only at hSw); go_split_ands; go_simp; try with_reducible rfl); try simp only [Act.put, List.setIfInBounds_toArray, List.set_cons_zero, List.set_cons_succ])
        (refine wpAnyL_take0 2 (v := ?_) rfl (by kernel_rfl) (by kernel_rfl) (by kernel_rfl) (by kernel_rfl) (fun _ _ _ h => h) (fun _ => by assumption) (by rfl) ?_ ?_; rotate_left; · (intro w; go_simp; try with_reducible rfl); try simp only [Act.put, List.setIfInBounds_toArray, List.set_cons_zero, List.set_cons_succ])
        (refine wpAnyL_take0 4 (v := ?_) rfl (by kernel_rfl) (by kernel_rfl) (by kernel_rfl) (by kernel_rfl) (fun _ _ _ h => h) (fun _ => by assumption) (by rfl) ?_ ?_; rotate_left; · (intro w; go_simp; try with_reducible rfl); try simp only [Act.put, List.setIfInBounds_toArray, List.set_cons_zero, List.set_cons_succ])
        (refine wpAnyL_take0 5 (v := ?_) rfl (by kernel_rfl) (by kernel_rfl) (by kernel_rfl) (by kernel_rfl) (fun _ _ _ h => h) (fun _ => by assumption) (by rfl) ?_ ?_; rotate_left; · (intro w; go_simp; try with_reducible rfl); try simp only [Act.put, List.setIfInBounds_toArray, List.set_cons_zero, List.set_cons_succ])
        (refine wpAnyL_take0 6 (v := ?_) rfl (by kernel_rfl) (by kernel_rfl) (by kernel_rfl) (by kernel_rfl) (fun _ _ _ h => h) (fun _ => by assumption) (by rfl) ?_ ?_; rotate_left; · (intro w; go_simp; try with_reducible rfl); try simp only [Act.put, List.setIfInBounds_toArray, List.set_cons_zero, List.set_cons_succ])
        clear hHeld q1
        (refine wpAnyL_step 3 (by kernel_rfl) rfl (fun K hK => ?_))
        go_simp
        refine (pname_any b hb0 s4 _ HPD.out.kw HPD.out.ps).mono ?_
        rintro e w5 ⟨rfl, hg5, hp5⟩
        rw [H5.out] at hp5 ⊢
        simp only at hp5 ⊢
        have HPW5 := Lib.hid (HPD.out.call hb0 hg5 hp5)
        have HQ5 := Lib.hid (HQ.out.call hg5 hbw)
        have HK5 := Lib.hid (Kp.grown (base := w.heap.size) (T := Id.schT) hg5 hbw)
        clear hg5 hp5
        (refine hK.out _ _ (fun hnn => HQ5.out.cell 1) ?_; clear hK K; try simp only [Act.put, List.setIfInBounds_toArray, List.set_cons_zero, List.set_cons_succ])
        have hzi := HPW5.out.gb.size
        (refine wpAnyL_step 7 (by kernel_rfl) rfl (fun K hK => ?_))
        go_simp
        refine (pwithin_field b hb0 s5 (by omega) _ HPW5.out.kw HPW5.out.ps).mono ?_
        rintro e w6 ⟨v6, rfl, hg6, hp6, hr6⟩
        rw [H6.out] at hp6 hr6
        simp only at hp6 hr6 ⊢
        have HPW6 := Lib.hid (HPW5.out.call hb0 hg6 hp6)
        have HQ6 := Lib.hid (HQ5.out.call hg6 hbw)
        have HK6 := Lib.hid (HK5.out.trans (Kp.grown (T := Id.schT) hg6 hbw))
        obtain ⟨A6, n6, c6, rfl⟩ := ERow.is hr6
        have HR6 : Hid (Id.FldsR w6 (some w.heap.size) (.slice A6 n6 c6) fs) := Lib.hid (ERow.mono hr6 (fun _ _ h => h.weak (fun b' e => ⟨_, rfl, by injection e with e; omega⟩)) (fun cs x he => by obtain ⟨u, e, hs⟩ := he; exact ⟨u, e, ERow.mono hs (fun _ _ h => h.weak (fun b' e => ⟨_, rfl, by injection e with e; omega⟩)) (fun _ _ h => h)⟩))
        clear hg6 hp6 hr6
        (refine hK.out _ _ (fun hnn => HQ6.out.cell 1) ?_; clear hK K; try simp only [Act.put, List.setIfInBounds_toArray, List.set_cons_zero, List.set_cons_succ])
        (refine wpAnyL_step 8 (by kernel_rfl) rfl (fun K hK => ?_))
        go_simp
        (refine hK.out _ _ (fun hnn => HQ6.out.cell 1) ?_; clear hK K; try simp only [Act.put, List.setIfInBounds_toArray, List.set_cons_zero, List.set_cons_succ])
        (refine wpAnyL_step 9 (by kernel_rfl) rfl (fun K hK => ?_))
        go_simp
        (refine hK.out _ _ (fun hnn => (HQ6.out.alloc _).cell 1) ?_; clear hK K; try simp only [Act.put, List.setIfInBounds_toArray, List.set_cons_zero, List.set_cons_succ])
        have hz6 := HPW6.out.gb.size
        (refine wpAnyL_step 10 (by kernel_rfl) rfl (fun K hK => ?_))
        refine step_append_el rfl _ _ _ rfl w.heap.size 54 _ 3 48 Tryd.underlying22 Id.info_rec rfl (by decide) (Id.RecE (some w.heap.size)) (.slice A1 n1 c1') x.records rfl (Id.RecsR.kp HR1.out (HK6.out.trans (Kp.below ((Below.refl _ _).alloc (Nat.le_refl _) _))) (Nat.le_refl _) (by decide) (by decide) (by decide)) [.string n5, .bool true, .slice A6 n6 c6] rfl _ rfl (Bk.new _ _ _) (by simp [Value.oneCell']) (by simp only [maxLen]; omega) (by omega) (by simp; omega) ?_
        intro A7 n7' c7 w8 hrow8 hb8 ho8
        have HROW := Lib.hid hrow8
        have HB8 := Lib.hid hb8
        have HO8 := Lib.hid ho8
        have HQ8 := Lib.hid (ho8.bk (HQ6.out.alloc _) (by decide))
        clear hrow8 hb8 ho8
        (refine hK.out _ _ (fun hnn => absurd hnn (by decide)) ?_; clear hK K; try simp only [Act.put, List.setIfInBounds_toArray, List.set_cons_zero, List.set_cons_succ])
        (refine wpAnyL_step 11 (by kernel_rfl) rfl (fun K hK => ?_))
        go_simp
        (refine hK.out _ _ (fun hnn => absurd hnn (by decide)) ?_; clear hK K; try simp only [Act.put, List.setIfInBounds_toArray, List.set_cons_zero, List.set_cons_succ])
        have q8 := HQ8.out.cell 1
        have q9 := HQ8.out.frozen 1
        simp only [List.size_toArray, List.length_cons, List.length_nil, List.getElem?_toArray, List.getElem?_cons_succ, List.getElem?_cons_zero] at q8
        (refine wpAnyL_step 12 (by kernel_rfl) rfl (fun K hK => ?_))
        go_simp
        (refine hK.out _ _ (fun hnn => absurd hnn (by decide)) ?_; clear hK K; try simp only [Act.put, List.setIfInBounds_toArray, List.set_cons_zero, List.set_cons_succ])
        clear q8 q9
        refine wpAnyL_done (by kernel_rfl) ?_ _
        refine NoPanic.normal ?_
        go_wp2_with fail
        have HPW8 := Lib.hid ((HPW6.out.alloc (.cells #[.string n5, .bool true, .slice A6 n6 c6] 54)).row HB8.out HO8.out (by omega) (by decide) (by decide))
        have HKX := Lib.hid ((HK6.out.sub (Nat.le_refl _) (by decide)).trans ((Kp.below ((Below.refl _ _).alloc (Nat.le_refl _) (.cells #[.string n5, .bool true, .slice A6 n6 c6] 54))).trans (HO8.out.kp w.heap.size (T := [58, 88, 62, 66]) (by decide))))
        have HKI := (Kp.below (base := w.heap.size) (T := [64, 78]) ((Below.refl w6.heap.size w6).alloc (Nat.le_refl _) (.cells #[.string n5, .bool true, .slice A6 n6 c6] 54))).trans (HO8.out.kp w.heap.size (T := [64, 78]) (by decide))
        have hnew := HROW.out ⟨n5, true, fs⟩ (Id.RecE.kp (T := [64, 78]) (HO8.out.kp w.heap.size (by decide)) (Nat.le_refl _) (by decide) (by decide)) ⟨_, rfl, ERow.kp HR6.out HKI (Nat.le_refl _) (by decide) (Id.FldE.kp HKI (Nat.le_refl _) (by decide))⟩
        go_roundg f
        case rel => exact ⟨s6, _, Lib.hid ⟨fun _ => by omega, by omega, by simp; omega, HPW8.out.set HQ8.out (Nat.le_refl _) (by omega) (by decide) (by decide) 1 _, Id.SchB.rec HQ8.out hnew (HR2.out.kp HKX.out (Nat.le_refl _) (by decide) (by decide)) (HR3.out.kp HKX.out (Nat.le_refl _) (by decide) (by decide)), HE2.out⟩⟩
        case measure => omega
      by_cases e3 : wd.toList = [115, 101, 114, 118, 105, 99, 101]
      · have HE : Hid (Id.schemaF f (Id.service s4).2 { x with services := x.services ++ [(Id.service s4).1] } = R) := Lib.hid (by rw [HX2.out, if_neg e1, if_neg e2, if_pos e3])
        have t3 : (wd.toList == [115, 101, 114, 118, 105, 99, 101]) = true := beq_iff_eq.2 e3
        have t1 : (wd.toList == [114, 101, 99, 111, 114, 100]) = false := beq_eq_false_iff_ne.2 e1
        have t2 : (wd.toList == [99, 104, 111, 105, 99, 101]) = false := beq_eq_false_iff_ne.2 e2
        have hs4 : s4.1.length + 1 = m + 1 := by
          rcases hwc with ⟨_, h⟩ | ⟨_, h⟩
          · exact h
          · rw [h, Id.empty_toList] at e3
            cases e3
        have hn5 := Id.name_le s4
        obtain ⟨⟨n5, s5⟩, H5⟩ : ∃ R, Hid (Id.name s4 = R) := ⟨_, Lib.hid rfl⟩
        rw [H5.out] at hn5
        have hn6 := Id.within_le Id.method_le s5
        obtain ⟨⟨fs, s6⟩, H6⟩ : ∃ R, Hid (Id.within Id.method s5 = R) := ⟨_, Lib.hid rfl⟩
        rw [H6.out] at hn6
        simp only at hn5 hn6
        have HE2 : Hid (Id.schemaF f s6 { x with services := x.services ++ [⟨n5, fs⟩] } = R) := Lib.hid (by rw [← HE.out]; simp only [Id.service, H5.out, H6.out])
        have HPD := Lib.hid (HPW4.out.below (Below.refl _ _).drew)
        obtain ⟨A1, n1, c1', A2, n2, c2', A3, n3, c3', hq, r1, r2, r3⟩ := HSB4.out.below (Below.refl _ _).drew
        have HR1 := Lib.hid r1
        have HR2 := Lib.hid r2
        have HR3 := Lib.hid r3
        have q1 : w4.drew.cell? ⟨w.heap.size, 2, none⟩ = some (.slice A2 n2 c2') := hq.cell 2
        have HQ := Lib.hid hq
        clear r1 r2 r3 HX2 HE e1 e2 e3 hq HSB4 HPW4 hwc
        go_wp2_with fail
        refine wp_region_L_calm (fun w' => w'.cell? ⟨w.heap.size, 2, none⟩ = some (.slice A2 n2 c2')) [10, 12] (by kernel_rfl) q1 (fun hHeld => ?_)
        (refine wpAnyL_take0 0 (v := ?_) rfl (by kernel_rfl) (by kernel_rfl) (by kernel_rfl) (by kernel_rfl) (fun _ _ _ h => h) (fun _ => by assumption) (by rfl) ?_ ?_; rotate_left; · (intro w; go_simp; try with_reducible rfl); try simp only [Act.put, List.setIfInBounds_toArray, List.set_cons_zero, List.set_cons_succ])
        (refine wpAnyL_take 1 (v := ?_) rfl (by kernel_rfl) (by kernel_rfl) (by kernel_rfl) (by kernel_rfl) (fun _ _ _ h => h) (by assumption) (by rfl) ?_ ?_; rotate_left; · (intro w hSw; (try dsimp only at hSw); go_split_ands; go_simp; try with_reducible rfl); try simp only [Act.put, List.setIfInBounds_toArray, List.set_cons_zero, List.set_cons_succ])
        (refine wpAnyL_take0 2 (v := ?_) rfl (by kernel_rfl) (by kernel_rfl) (by kernel_rfl) (by kernel_rfl) (fun _ _ _ h => h) (fun _ => by assumption) (by rfl) ?_ ?_; rotate_left; · (intro w; go_simp; try with_reducible rfl); try simp only [Act.put, List.setIfInBounds_toArray, List.set_cons_zero, List.set_cons_succ])
        (refine wpAnyL_take0 4 (v := ?_) rfl (by kernel_rfl) (by kernel_rfl) (by kernel_rfl) (by kernel_rfl) (fun _ _ _ h => h) (fun _ => by assumption) (by rfl) ?_ ?_; rotate_left; · (intro w; go_simp; try with_reducible rfl); try simp only [Act.put, List.setIfInBounds_toArray, List.set_cons_zero, List.set_cons_succ])
        (refine wpAnyL_take0 5 (v := ?_) rfl (by kernel_rfl) (by kernel_rfl) (by kernel_rfl) (by kernel_rfl) (fun _ _ _ h => h) (fun _ => by assumption) (by rfl) ?_ ?_; rotate_left; · (intro w; go_simp; try with_reducible rfl); try simp only [Act.put, List.setIfInBounds_toArray, List.set_cons_zero, List.set_cons_succ])
        (refine wpAnyL_take0 6 (v := ?_) rfl (by kernel_rfl) (by kernel_rfl) (by kernel_rfl) (by kernel_rfl) (fun _ _ _ h => h) (fun _ => by assumption) (by rfl) ?_ ?_; rotate_left; · (intro w; go_simp; try with_reducible rfl); try simp only [Act.put, List.setIfInBounds_toArray, List.set_cons_zero, List.set_cons_succ])
        clear hHeld q1
        (refine wpAnyL_step 3 (by kernel_rfl) rfl (fun K hK => ?_))
        go_simp
        refine (pname_any b hb0 s4 _ HPD.out.kw HPD.out.ps).mono ?_
        rintro e w5 ⟨rfl, hg5, hp5⟩
        rw [H5.out] at hp5 ⊢
        simp only at hp5 ⊢
        have HPW5 := Lib.hid (HPD.out.call hb0 hg5 hp5)
        have HQ5 := Lib.hid (HQ.out.call hg5 hbw)
        have HK5 := Lib.hid (Kp.grown (base := w.heap.size) (T := Id.schT) hg5 hbw)
        clear hg5 hp5
        (refine hK.out _ _ (fun hnn => HQ5.out.cell 2) ?_; clear hK K; try simp only [Act.put, List.setIfInBounds_toArray, List.set_cons_zero, List.set_cons_succ])
        have hzi := HPW5.out.gb.size
        (refine wpAnyL_step 7 (by kernel_rfl) rfl (fun K hK => ?_))
        go_simp
        refine (pwithin_method b hb0 s5 (by omega) _ HPW5.out.kw HPW5.out.ps).mono ?_
        rintro e w6 ⟨v6, rfl, hg6, hp6, hr6⟩
        rw [H6.out] at hp6 hr6
        simp only at hp6 hr6 ⊢
        have HPW6 := Lib.hid (HPW5.out.call hb0 hg6 hp6)
        have HQ6 := Lib.hid (HQ5.out.call hg6 hbw)
        have HK6 := Lib.hid (HK5.out.trans (Kp.grown (T := Id.schT) hg6 hbw))
        obtain ⟨A6, n6, c6, rfl⟩ := ERow.is hr6
        have HR6 : Hid (ERow w6 (some w.heap.size) 88 5 Id.MthE (.slice A6 n6 c6) fs) := Lib.hid (ERow.mono hr6 (fun _ _ h => h.weak (fun b' e => ⟨_, rfl, by injection e with e; omega⟩)) (fun _ _ h => h))
        clear hg6 hp6 hr6
        (refine hK.out _ _ (fun hnn => HQ6.out.cell 2) ?_; clear hK K; try simp only [Act.put, List.setIfInBounds_toArray, List.set_cons_zero, List.set_cons_succ])
        (refine wpAnyL_step 8 (by kernel_rfl) rfl (fun K hK => ?_))
        go_simp
        (refine hK.out _ _ (fun hnn => HQ6.out.cell 2) ?_; clear hK K; try simp only [Act.put, List.setIfInBounds_toArray, List.set_cons_zero, List.set_cons_succ])
        (refine wpAnyL_step 9 (by kernel_rfl) rfl (fun K hK => ?_))
        go_simp
        (refine hK.out _ _ (fun hnn => (HQ6.out.alloc _).cell 2) ?_; clear hK K; try simp only [Act.put, List.setIfInBounds_toArray, List.set_cons_zero, List.set_cons_succ])
        have hz6 := HPW6.out.gb.size
        (refine wpAnyL_step 10 (by kernel_rfl) rfl (fun K hK => ?_))
        refine step_append_el rfl _ _ _ rfl w.heap.size 58 _ 2 40 Tryd.underlying23 Id.info_svc rfl (by decide) (Id.SvcE (some w.heap.size)) (.slice A2 n2 c2') x.services rfl (Id.SvcsR.kp HR2.out (HK6.out.trans (Kp.below ((Below.refl _ _).alloc (Nat.le_refl _) _))) (Nat.le_refl _) (by decide) (by decide)) [.string n5, .slice A6 n6 c6] rfl _ rfl (Bk.new _ _ _) (by simp [Value.oneCell']) (by simp only [maxLen]; omega) (by omega) (by simp; omega) ?_
        intro A7 n7' c7 w8 hrow8 hb8 ho8
        have HROW := Lib.hid hrow8
        have HB8 := Lib.hid hb8
        have HO8 := Lib.hid ho8
        have HQ8 := Lib.hid (ho8.bk (HQ6.out.alloc _) (by decide))
        clear hrow8 hb8 ho8
        (refine hK.out _ _ (fun hnn => absurd hnn (by decide)) ?_; clear hK K; try simp only [Act.put, List.setIfInBounds_toArray, List.set_cons_zero, List.set_cons_succ])
        (refine wpAnyL_step 11 (by kernel_rfl) rfl (fun K hK => ?_))
        go_simp
        (refine hK.out _ _ (fun hnn => absurd hnn (by decide)) ?_; clear hK K; try simp only [Act.put, List.setIfInBounds_toArray, List.set_cons_zero, List.set_cons_succ])
        have q8 := HQ8.out.cell 2
        have q9 := HQ8.out.frozen 2
        simp only [List.size_toArray, List.length_cons, List.length_nil, List.getElem?_toArray, List.getElem?_cons_succ, List.getElem?_cons_zero] at q8
        (refine wpAnyL_step 12 (by kernel_rfl) rfl (fun K hK => ?_))
        go_simp
        (refine hK.out _ _ (fun hnn => absurd hnn (by decide)) ?_; clear hK K; try simp only [Act.put, List.setIfInBounds_toArray, List.set_cons_zero, List.set_cons_succ])
        clear q8 q9
        refine wpAnyL_done (by kernel_rfl) ?_ _
        refine NoPanic.normal ?_
        go_wp2_with fail
        have HPW8 := Lib.hid ((HPW6.out.alloc (.cells #[.string n5, .slice A6 n6 c6] 58)).row HB8.out HO8.out (by omega) (by decide) (by decide))
        have HKX := Lib.hid ((HK6.out.sub (Nat.le_refl _) (by decide)).trans ((Kp.below ((Below.refl _ _).alloc (Nat.le_refl _) (.cells #[.string n5, .slice A6 n6 c6] 58))).trans (HO8.out.kp w.heap.size (T := [54, 64, 78, 62, 66]) (by decide))))
        have HKI := (Kp.below (base := w.heap.size) (T := [88]) ((Below.refl w6.heap.size w6).alloc (Nat.le_refl _) (.cells #[.string n5, .slice A6 n6 c6] 58))).trans (HO8.out.kp w.heap.size (T := [88]) (by decide))
        have hnew := HROW.out ⟨n5, fs⟩ (Id.SvcE.kp (T := [88]) (HO8.out.kp w.heap.size (by decide)) (Nat.le_refl _) (by decide)) ⟨_, rfl, ERow.kp HR6.out HKI (Nat.le_refl _) (by decide) Id.MthE.kp⟩
        go_roundg f
        case rel => exact ⟨s6, _, Lib.hid ⟨fun _ => by omega, by omega, by simp; omega, HPW8.out.set HQ8.out (Nat.le_refl _) (by omega) (by decide) (by decide) 2 _, Id.SchB.svc HQ8.out (HR1.out.kp HKX.out (Nat.le_refl _) (by decide) (by decide) (by decide)) hnew (HR3.out.kp HKX.out (Nat.le_refl _) (by decide) (by decide)), HE2.out⟩⟩
        case measure => omega
      by_cases e4 : wd.toList = [115, 97, 103, 97]
      · have HE : Hid (Id.schemaF f (Id.saga s4).2 { x with sagas := x.sagas ++ [(Id.saga s4).1] } = R) := Lib.hid (by rw [HX2.out, if_neg e1, if_neg e2, if_neg e3, if_pos e4])
        have t4 : (wd.toList == [115, 97, 103, 97]) = true := beq_iff_eq.2 e4
        have t1 : (wd.toList == [114, 101, 99, 111, 114, 100]) = false := beq_eq_false_iff_ne.2 e1
        have t2 : (wd.toList == [99, 104, 111, 105, 99, 101]) = false := beq_eq_false_iff_ne.2 e2
        have t3 : (wd.toList == [115, 101, 114, 118, 105, 99, 101]) = false := beq_eq_false_iff_ne.2 e3
        have hs4 : s4.1.length + 1 = m + 1 := by
          rcases hwc with ⟨_, h⟩ | ⟨_, h⟩
          · exact h
          · rw [h, Id.empty_toList] at e4
            cases e4
        have hn5 := Id.name_le s4
        obtain ⟨⟨n5, s5⟩, H5⟩ : ∃ R, Hid (Id.name s4 = R) := ⟨_, Lib.hid rfl⟩
        rw [H5.out] at hn5
        have hn7 := Id.arg_le s5
        obtain ⟨⟨n7, s7⟩, H7⟩ : ∃ R, Hid (Id.arg s5 = R) := ⟨_, Lib.hid rfl⟩
        rw [H7.out] at hn7
        simp only at hn7
        have hn6 := Id.within_le Id.step_le s7
        obtain ⟨⟨fs, s6⟩, H6⟩ : ∃ R, Hid (Id.within Id.step s7 = R) := ⟨_, Lib.hid rfl⟩
        rw [H6.out] at hn6
        simp only at hn5 hn6
        have HE2 : Hid (Id.schemaF f s6 { x with sagas := x.sagas ++ [⟨n5, n7, fs⟩] } = R) := Lib.hid (by rw [← HE.out]; simp only [Id.saga, H5.out, H7.out, H6.out])
        have HPD := Lib.hid (HPW4.out.below (Below.refl _ _).drew)
        obtain ⟨A1, n1, c1', A2, n2, c2', A3, n3, c3', hq, r1, r2, r3⟩ := HSB4.out.below (Below.refl _ _).drew
        have HR1 := Lib.hid r1
        have HR2 := Lib.hid r2
        have HR3 := Lib.hid r3
        have q1 : w4.drew.cell? ⟨w.heap.size, 3, none⟩ = some (.slice A3 n3 c3') := hq.cell 3
        have HQ := Lib.hid hq
        clear r1 r2 r3 HX2 HE e1 e2 e3 e4 hq HSB4 HPW4 hwc
        go_wp2_with fail
        refine wp_region_L_calm (fun w' => w'.cell? ⟨w.heap.size, 3, none⟩ = some (.slice A3 n3 c3')) [12, 14] (by kernel_rfl) q1 (fun hHeld => ?_)
        (refine wpAnyL_take0 0 (v := ?_) rfl (by kernel_rfl) (by kernel_rfl) (by kernel_rfl) (by kernel_rfl) (fun _ _ _ h => h) (fun _ => by assumption) (by rfl) ?_ ?_; rotate_left; · (intro w; go_simp; try with_reducible rfl); try simp only [Act.put, List.setIfInBounds_toArray, List.set_cons_zero, List.set_cons_succ])
        (refine wpAnyL_take 1 (v := ?_) rfl (by kernel_rfl) (by kernel_rfl) (by kernel_rfl) (by kernel_rfl) (fun _ _ _ h => h) (by assumption) (by rfl) ?_ ?_; rotate_left; · (intro w hSw; (try dsimp only at hSw); go_split_ands; go_simp; try with_reducible rfl); try simp only [Act.put, List.setIfInBounds_toArray, List.set_cons_zero, List.set_cons_succ])
        (refine wpAnyL_take0 2 (v := ?_) rfl (by kernel_rfl) (by kernel_rfl) (by kernel_rfl) (by kernel_rfl) (fun _ _ _ h => h) (fun _ => by assumption) (by rfl) ?_ ?_; rotate_left; · (intro w; go_simp; try with_reducible rfl); try simp only [Act.put, List.setIfInBounds_toArray, List.set_cons_zero, List.set_cons_succ])
        (refine wpAnyL_take0 4 (v := ?_) rfl (by kernel_rfl) (by kernel_rfl) (by kernel_rfl) (by kernel_rfl) (fun _ _ _ h => h) (fun _ => by assumption) (by rfl) ?_ ?_; rotate_left; · (intro w; go_simp; try with_reducible rfl); try simp only [Act.put, List.setIfInBounds_toArray, List.set_cons_zero, List.set_cons_succ])
        (refine wpAnyL_take0 6 (v := ?_) rfl (by kernel_rfl) (by kernel_rfl) (by kernel_rfl) (by kernel_rfl) (fun _ _ _ h => h) (fun _ => by assumption) (by rfl) ?_ ?_; rotate_left; · (intro w; go_simp; try with_reducible rfl); try simp only [Act.put, List.setIfInBounds_toArray, List.set_cons_zero, List.set_cons_succ])
        (refine wpAnyL_take0 7 (v := ?_) rfl (by kernel_rfl) (by kernel_rfl) (by kernel_rfl) (by kernel_rfl) (fun _ _ _ h => h) (fun _ => by assumption) (by rfl) ?_ ?_; rotate_left; · (intro w; go_simp; try with_reducible rfl); try simp only [Act.put, List.setIfInBounds_toArray, List.set_cons_zero, List.set_cons_succ])
        (refine wpAnyL_take0 8 (v := ?_) rfl (by kernel_rfl) (by kernel_rfl) (by kernel_rfl) (by kernel_rfl) (fun _ _ _ h => h) (fun _ => by assumption) (by rfl) ?_ ?_; rotate_left; · (intro w; go_simp; try with_reducible rfl); try simp only [Act.put, List.setIfInBounds_toArray, List.set_cons_zero, List.set_cons_succ])
        clear hHeld q1
        (refine wpAnyL_step 3 (by kernel_rfl) rfl (fun K hK => ?_))
        go_simp
        refine (pname_any b hb0 s4 _ HPD.out.kw HPD.out.ps).mono ?_
        rintro e w5 ⟨rfl, hg5, hp5⟩
        rw [H5.out] at hp5 ⊢
        simp only at hp5 ⊢
        have HPW5 := Lib.hid (HPD.out.call hb0 hg5 hp5)
        have HQ5 := Lib.hid (HQ.out.call hg5 hbw)
        have HK5 := Lib.hid (Kp.grown (base := w.heap.size) (T := Id.schT) hg5 hbw)
        clear hg5 hp5
        (refine hK.out _ _ (fun hnn => HQ5.out.cell 3) ?_; clear hK K; try simp only [Act.put, List.setIfInBounds_toArray, List.set_cons_zero, List.set_cons_succ])
        (refine wpAnyL_step 5 (by kernel_rfl) rfl (fun K hK => ?_))
        go_simp
        refine (parg_any b hb0 s5 _ HPW5.out.kw HPW5.out.ps).mono ?_
        rintro e w7 ⟨rfl, hg5, hp5⟩
        rw [H7.out] at hp5 ⊢
        simp only at hp5 ⊢
        have HPW7 := Lib.hid (HPW5.out.call hb0 hg5 hp5)
        have HQ7 := Lib.hid (HQ5.out.call hg5 hbw)
        have HK7 := Lib.hid (HK5.out.trans (Kp.grown (T := Id.schT) hg5 hbw))
        clear hg5 hp5
        (refine hK.out _ _ (fun hnn => HQ7.out.cell 3) ?_; clear hK K; try simp only [Act.put, List.setIfInBounds_toArray, List.set_cons_zero, List.set_cons_succ])
        have hzi := HPW7.out.gb.size
        (refine wpAnyL_step 9 (by kernel_rfl) rfl (fun K hK => ?_))
        go_simp
        refine (pwithin_step b hb0 s7 (by omega) _ HPW7.out.kw HPW7.out.ps).mono ?_
        rintro e w6 ⟨v6, rfl, hg6, hp6, hr6⟩
        rw [H6.out] at hp6 hr6
        simp only at hp6 hr6 ⊢
        have HPW6 := Lib.hid (HPW7.out.call hb0 hg6 hp6)
        have HQ6 := Lib.hid (HQ7.out.call hg6 hbw)
        have HK6 := Lib.hid (HK7.out.trans (Kp.grown (T := Id.schT) hg6 hbw))
        obtain ⟨A6, n6, c6, rfl⟩ := ERow.is hr6
        have HR6 : Hid (ERow w6 (some w.heap.size) 66 3 Id.StpE (.slice A6 n6 c6) fs) := Lib.hid (ERow.mono hr6 (fun _ _ h => h.weak (fun b' e => ⟨_, rfl, by injection e with e; omega⟩)) (fun _ _ h => h))
        clear hg6 hp6 hr6
        (refine hK.out _ _ (fun hnn => HQ6.out.cell 3) ?_; clear hK K; try simp only [Act.put, List.setIfInBounds_toArray, List.set_cons_zero, List.set_cons_succ])
        (refine wpAnyL_step 10 (by kernel_rfl) rfl (fun K hK => ?_))
        go_simp
        (refine hK.out _ _ (fun hnn => HQ6.out.cell 3) ?_; clear hK K; try simp only [Act.put, List.setIfInBounds_toArray, List.set_cons_zero, List.set_cons_succ])
        (refine wpAnyL_step 11 (by kernel_rfl) rfl (fun K hK => ?_))
        go_simp
        (refine hK.out _ _ (fun hnn => (HQ6.out.alloc _).cell 3) ?_; clear hK K; try simp only [Act.put, List.setIfInBounds_toArray, List.set_cons_zero, List.set_cons_succ])
        have hz6 := HPW6.out.gb.size
        (refine wpAnyL_step 12 (by kernel_rfl) rfl (fun K hK => ?_))
        refine step_append_el rfl _ _ _ rfl w.heap.size 62 _ 3 56 Tryd.underlying24 Id.info_sag rfl (by decide) (Id.SagE (some w.heap.size)) (.slice A3 n3 c3') x.sagas rfl (Id.SagsR.kp HR3.out (HK6.out.trans (Kp.below ((Below.refl _ _).alloc (Nat.le_refl _) _))) (Nat.le_refl _) (by decide) (by decide)) [.string n5, .string n7, .slice A6 n6 c6] rfl _ rfl (Bk.new _ _ _) (by simp [Value.oneCell']) (by simp only [maxLen]; omega) (by omega) (by simp; omega) ?_
        intro A7 n7' c7 w8 hrow8 hb8 ho8
        have HROW := Lib.hid hrow8
        have HB8 := Lib.hid hb8
        have HO8 := Lib.hid ho8
        have HQ8 := Lib.hid (ho8.bk (HQ6.out.alloc _) (by decide))
        clear hrow8 hb8 ho8
        (refine hK.out _ _ (fun hnn => absurd hnn (by decide)) ?_; clear hK K; try simp only [Act.put, List.setIfInBounds_toArray, List.set_cons_zero, List.set_cons_succ])
        (refine wpAnyL_step 13 (by kernel_rfl) rfl (fun K hK => ?_))
        go_simp
        (refine hK.out _ _ (fun hnn => absurd hnn (by decide)) ?_; clear hK K; try simp only [Act.put, List.setIfInBounds_toArray, List.set_cons_zero, List.set_cons_succ])
        have q8 := HQ8.out.cell 3
        have q9 := HQ8.out.frozen 3
        simp only [List.size_toArray, List.length_cons, List.length_nil, List.getElem?_toArray, List.getElem?_cons_succ, List.getElem?_cons_zero] at q8
        (refine wpAnyL_step 14 (by kernel_rfl) rfl (fun K hK => ?_))
        go_simp
        (refine hK.out _ _ (fun hnn => absurd hnn (by decide)) ?_; clear hK K; try simp only [Act.put, List.setIfInBounds_toArray, List.set_cons_zero, List.set_cons_succ])
        clear q8 q9
        refine wpAnyL_done (by kernel_rfl) ?_ _
        refine NoPanic.normal ?_
        go_wp2_with fail
        have HPW8 := Lib.hid ((HPW6.out.alloc (.cells #[.string n5, .string n7, .slice A6 n6 c6] 62)).row HB8.out HO8.out (by omega) (by decide) (by decide))
        have HKX := Lib.hid ((HK6.out.sub (Nat.le_refl _) (by decide)).trans ((Kp.below ((Below.refl _ _).alloc (Nat.le_refl _) (.cells #[.string n5, .string n7, .slice A6 n6 c6] 62))).trans (HO8.out.kp w.heap.size (T := [54, 64, 78, 58, 88]) (by decide))))
        have HKI := (Kp.below (base := w.heap.size) (T := [66]) ((Below.refl w6.heap.size w6).alloc (Nat.le_refl _) (.cells #[.string n5, .string n7, .slice A6 n6 c6] 62))).trans (HO8.out.kp w.heap.size (T := [66]) (by decide))
        have hnew := HROW.out ⟨n5, n7, fs⟩ (Id.SagE.kp (T := [66]) (HO8.out.kp w.heap.size (by decide)) (Nat.le_refl _) (by decide)) ⟨_, rfl, ERow.kp HR6.out HKI (Nat.le_refl _) (by decide) Id.StpE.kp⟩
        go_roundg f
        case rel => exact ⟨s6, _, Lib.hid ⟨fun _ => by omega, by omega, by simp; omega, HPW8.out.set HQ8.out (Nat.le_refl _) (by omega) (by decide) (by decide) 3 _, Id.SchB.sag HQ8.out (HR1.out.kp HKX.out (Nat.le_refl _) (by decide) (by decide) (by decide)) (HR2.out.kp HKX.out (Nat.le_refl _) (by decide) (by decide)) hnew, HE2.out⟩⟩
        case measure => omega
      have HE : Hid (Id.schemaF f s4 x = R) := Lib.hid (by rw [HX2.out, if_neg e1, if_neg e2, if_neg e3, if_neg e4])
      have t1 : (wd.toList == [114, 101, 99, 111, 114, 100]) = false := beq_eq_false_iff_ne.2 e1
      have t2 : (wd.toList == [99, 104, 111, 105, 99, 101]) = false := beq_eq_false_iff_ne.2 e2
      have t3 : (wd.toList == [115, 101, 114, 118, 105, 99, 101]) = false := beq_eq_false_iff_ne.2 e3
      have t4 : (wd.toList == [115, 97, 103, 97]) = false := beq_eq_false_iff_ne.2 e4
      clear HX2 e1 e2 e3 e4
      go_wp2_with fail
      go_roundg f
      case rel => exact ⟨s4, x, Lib.hid ⟨fun h => by rcases hwc with ⟨_, h2⟩ | ⟨h2, _⟩ <;> first | omega | (rw [h2] at h; cases h), by omega, by omega, HPW4.out, HSB4.out, HE.out⟩⟩
      case measure => omega
end Go.Proofs.YtoomlpalkinipaaDoor
