/- prints: the writer: record, service, saga (printed by gen_prnb.py). No condition. -/
import Derived.Test.YtmncppnpppdfkaaDoorPrnA
set_option linter.unusedVariables false
set_option linter.unusedSimpArgs false
namespace Go.Proofs.YtmncppnpppdfkaaDoor
open Go.RowKit Go.BigFrame
/-- A put that keeps a box. -/
theorem pwput_box (b : Nat) (L xs : List ByteArray) (n : Nat) (cs : Array Value) (hn : xs.length = n) (hc : (xs.map Value.string).toArray = cs) (w0 w W : World) (M : List ByteArray) (h : Prn.Put w0 w b L M W) (hl : L.length + M.length + xs.length ≤ 8000000000000)
    {g : Nat} {T : TypeId} {bx : Array Value} (hq : Bk W g T bx) (h1 : T ≠ 9) (h2 : T ≠ 51) :
    Calls Tryd.prog 16 #[.pointer (some ⟨b, 0, none⟩), .slice (some ⟨W.heap.size, 0, none⟩) n n] (W.alloc (.cells cs 9)) fun e w' => e = .returned (.tuple #[]) ∧ Prn.Put w0 w b L (M ++ xs) w' ∧ Bk w' g T bx := by
  subst hn hc
  have h1' := h.below (w2 := W.alloc (.cells (xs.map Value.string).toArray 9)) ((Below.refl _ _).alloc (Nat.le_refl _) _)
  have hrow := strs_lit (W := W) (l := xs) rfl (by omega)
  have hbs := h.bel.size
  refine (pwput_any b (L ++ M) xs _ w0 _ h1'.bel h1'.wr (ERow.mono hrow (fun _ _ hr => hr.weak (fun b' e' => ⟨_, rfl, by injection e' with e'; omega⟩)) (fun _ _ h => h)) (by rw [List.length_append]; omega)).mono ?_
  exact fun e w' ⟨k2, k3⟩ => ⟨k2, h1'.step k3, k3.on.bk (hq.alloc _) h1 h2⟩
set_option maxRecDepth 100000 in
set_option maxHeartbeats 8000000 in
theorem pwrecord_any (b : Nat) (L : List ByteArray) (r : Id.Rec) (u : Value) (w0 w : World) (hb : Below w0.heap.size w0 w) (hw : Prn.Wr w w0.heap.size b L) (hv : Id.FldsR w0 none u r.fields) (hl : L.length + (Prn.recW r).length ≤ 8000000000000) :
    Calls Tryd.prog 17 #[.pointer (some ⟨b, 0, none⟩), .agg #[.string r.name, .bool r.choice, u]] w fun e w' => e = .returned (.tuple #[]) ∧ Prn.Put w0 w b L (Prn.recW r) w' := by
  obtain ⟨rn, rc, rf⟩ := r
  simp only at hv hl ⊢
  obtain ⟨A5, n5, c5, rfl⟩ := ERow.is hv
  have HN5 : Hid (n5 = rf.length) := Lib.hid (by obtain ⟨_, _, e, _⟩ := ERow.slice hv; injection e)
  have hm5 : n5 ≤ 9223372036854775807 := by obtain ⟨_, _, e, _, _⟩ := ERow.slice hv; injection e; omega
  have H5 := Lib.hid hv
  have HP0 := Lib.hid (Prn.Put.start hb hw)
  have hlen : L.length + (rf.flatMap Prn.fldW).length + 4 ≤ 8000000000000 := by have h := hl; simp only [Prn.recW, List.length_cons, List.length_append, List.length_nil] at h; omega
  clear hb hw hv hl
  obtain ⟨wd, HWD⟩ : ∃ wd, Hid ((if rc then Id.wChoice else Id.wRecord) = wd) := ⟨_, Lib.hid rfl⟩
  have HRW : Hid (Prn.recW ⟨rn, rc, rf⟩ = [wd, rn, Id.sLeft] ++ (rf.flatMap Prn.fldW ++ [Id.sRight])) := Lib.hid (by rw [← HWD.out]; rfl)
  rw [HRW.out]
  go_enter Tryd.func17, Tryd.ntmps17
  go_upto_region 1 with (fail)
  refine wp_named (fun V0 hW => ?_)
  obtain ⟨hbx, hqx, -⟩ := fresh_box hW
  have HPa := Lib.hid (HP0.out.below hbx)
  have HQ := Lib.hid hqx
  clear hW hbx hqx 
  obtain ⟨⟨b0, b1, b2⟩, -⟩ := HQ.out.k3
  cases rc
  case false =>
    obtain rfl : Id.wRecord = wd := HWD.out
    clear HWD HRW
    go_wp2_with fail
    refine (pwput_box b L [Id.wRecord, rn, Id.sLeft] 3 #[.string Id.wRecord, .string rn, .string Id.sLeft] rfl rfl w0 w _ _ HPa.out (by simp only [List.length_cons, List.length_nil]; omega) HQ.out (by decide) (by decide)).mono ?_
    rintro e V1 ⟨rfl, hp, hq⟩
    have HPb := Lib.hid hp
    clear hp HQ
    have HQ := Lib.hid hq
    clear hq
    clear b0 b1 b2
    obtain ⟨⟨b0, b1, b2⟩, -⟩ := HQ.out.k3
    go_wp2_with fail
    go_loopw [18] (fun i wr => ∃ (k : Nat), k ≤ n5 ∧ i = .int .i64 k ∧ Hid (Prn.Put w0 w b L ([Id.wRecord, rn, Id.sLeft] ++ (rf.take k).flatMap Prn.fldW) wr)) (fun i _ => n5 - (intOf i).toNat)
    case atStart => exact ⟨0, by omega, rfl, HPb⟩
    case round =>
      clear HPb HPa HQ b0 b1 b2
      obtain ⟨k, hk, rfl, HP⟩ := hrel
      obtain ⟨V, rfl⟩ : ∃ w', w' = wr := ⟨_, rfl⟩
      have ik0 : (0 : Int) ≤ (k : Int) := by omega
      by_cases hlt : k < n5
      case neg =>
        have HPx : Hid (Prn.Put w0 w b L ([Id.wRecord, rn, Id.sLeft] ++ rf.flatMap Prn.fldW) V) := Lib.hid (by have h := HP.out; rw [List.take_of_length_le (by have := HN5.out; omega)] at h; exact h)
        go_wp2_with fail
        refine (pwput_lit b L [Id.sRight] 1 #[.string Id.sRight] rfl rfl w0 w _ _ HPx.out (by simp only [List.length_append, List.length_cons, List.length_nil]; omega)).mono ?_
        rintro e V9 ⟨rfl, hp⟩
        have HP9 := Lib.hid hp
        clear hp
        have HPy : Hid (Prn.Put w0 w b L ([Id.wRecord, rn, Id.sLeft] ++ (rf.flatMap Prn.fldW ++ [Id.sRight])) V9) := Lib.hid (HP9.out.cast (by simp only [List.append_assoc]))
        go_wp2_with fail
        exact bodyPost_end (results_none rfl _ _ _) rfl ⟨rfl, HPy.out⟩
      have hka : k < rf.length := by rw [← HN5.out]; exact hlt
      obtain ⟨g, off, cs, rfl, -, ⟨u, he, HU⟩, hc⟩ := ERow.get H5.out hka (by omega)
      have hfl := Prn.flat_take_le Prn.fldW hka
      have HTK := Prn.take_flat Prn.fldW hka
      obtain ⟨⟨yn, yt⟩, Hy⟩ : ∃ y, Hid (rf[k] = y) := ⟨_, Lib.hid rfl⟩
      rw [Hy.out] at he HU hfl HTK
      subst he
      simp only at HU hc
      obtain ⟨A7, n7, c7, rfl⟩ := ERow.is HU
      have H7 := Lib.hid HU
      have HTKH := Lib.hid HTK
      have hfw : (Prn.fldW ⟨yn, yt⟩).length = yt.length + 3 := by simp [Prn.fldW]
      rw [hfw] at hfl
      have a0 := hc 0 _ rfl
      have a1 := hc 1 _ rfl
      simp only [Nat.add_zero] at a0
      have hgl : g < w0.heap.size := World.block_lt_of_cell? w0 _ a0
      have a0 := (HP.out.bel.cell hgl).trans a0
      have a1 := (HP.out.bel.cell hgl).trans a1
      have hbs := HP.out.bel.size
      have hgne : ¬ g = V.heap.size := by omega
      have ik1 : (k : Int) < (n5 : Int) := by omega
      generalize hM : ((rf.take k).flatMap Prn.fldW).length = m at hfl
      have HM := Lib.hid hM
      generalize hT : yt.length = tl at hfl
      have HTL := Lib.hid hT
      clear hc HU HTK hfw hM hT Hy hbs
      go_upto_region 8 with (fail)
      refine wp_named (fun V1 hW => ?_)
      obtain ⟨hbx, hqx, -⟩ := fresh_box hW
      have HPc := Lib.hid (HP.out.below hbx)
      have HQ := Lib.hid hqx
      clear hW hbx hqx a0 a1 HP
      obtain ⟨⟨b0, b1⟩, -⟩ := HQ.out.k2
      go_wp2_with fail
      refine (pwput_box b L [yn, Id.sColon] 2 #[.string yn, .string Id.sColon] rfl rfl w0 w _ _ HPc.out (by simp only [List.length_append, List.length_cons, List.length_nil, HM.out]; omega) HQ.out (by decide) (by decide)).mono ?_
      rintro e V2 ⟨rfl, hp, hq⟩
      have HPd := Lib.hid hp
      clear hp HQ
      have HQ := Lib.hid hq
      clear hq
      clear b0 b1
      obtain ⟨⟨b0, b1⟩, -⟩ := HQ.out.k2
      go_wp2_with fail
      refine (pwsorts_any b _ yt _ w0 V2 HPd.out.bel HPd.out.wr (fun w' hb _ => ERow.below H7.out hb (fun _ _ h => h)) (by simp only [List.length_append, List.length_cons, List.length_nil, HM.out, HTL.out]; omega)).mono ?_
      rintro e V3 ⟨rfl, hp⟩
      have HPe := Lib.hid (HPd.out.step hp)
      clear hp b0 b1 HQ
      go_wp2_with fail
      refine (pwput_lit b L [Id.sSemi] 1 #[.string Id.sSemi] rfl rfl w0 w _ _ HPe.out (by simp only [List.length_append, List.length_cons, List.length_nil, List.length_map, HM.out, HTL.out]; omega)).mono ?_
      rintro e V4 ⟨rfl, hp⟩
      have HPf := Lib.hid hp
      clear hp
      have HPg : Hid (Prn.Put w0 w b L ([Id.wRecord, rn, Id.sLeft] ++ (rf.take (k + 1)).flatMap Prn.fldW) V4) := Lib.hid (HPf.out.cast (by rw [HTKH.out]; simp only [Prn.fldW, List.append_assoc, List.cons_append, List.nil_append]))
      go_wp2_with fail
      go_roundw
      case rel => exact ⟨k + 1, by omega, by go_num, HPg⟩
      case measure => simp [intOf] <;> omega
  case true =>
    obtain rfl : Id.wChoice = wd := HWD.out
    clear HWD HRW
    go_wp2_with fail
    refine (pwput_box b L [Id.wChoice, rn, Id.sLeft] 3 #[.string Id.wChoice, .string rn, .string Id.sLeft] rfl rfl w0 w _ _ HPa.out (by simp only [List.length_cons, List.length_nil]; omega) HQ.out (by decide) (by decide)).mono ?_
    rintro e V1 ⟨rfl, hp, hq⟩
    have HPb := Lib.hid hp
    clear hp HQ
    have HQ := Lib.hid hq
    clear hq
    clear b0 b1 b2
    obtain ⟨⟨b0, b1, b2⟩, -⟩ := HQ.out.k3
    go_wp2_with fail
    go_loopw [18] (fun i wr => ∃ (k : Nat), k ≤ n5 ∧ i = .int .i64 k ∧ Hid (Prn.Put w0 w b L ([Id.wChoice, rn, Id.sLeft] ++ (rf.take k).flatMap Prn.fldW) wr)) (fun i _ => n5 - (intOf i).toNat)
    case atStart => exact ⟨0, by omega, rfl, HPb⟩
    case round =>
      clear HPb HPa HQ b0 b1 b2
      obtain ⟨k, hk, rfl, HP⟩ := hrel
      obtain ⟨V, rfl⟩ : ∃ w', w' = wr := ⟨_, rfl⟩
      have ik0 : (0 : Int) ≤ (k : Int) := by omega
      by_cases hlt : k < n5
      case neg =>
        have HPx : Hid (Prn.Put w0 w b L ([Id.wChoice, rn, Id.sLeft] ++ rf.flatMap Prn.fldW) V) := Lib.hid (by have h := HP.out; rw [List.take_of_length_le (by have := HN5.out; omega)] at h; exact h)
        go_wp2_with fail
        refine (pwput_lit b L [Id.sRight] 1 #[.string Id.sRight] rfl rfl w0 w _ _ HPx.out (by simp only [List.length_append, List.length_cons, List.length_nil]; omega)).mono ?_
        rintro e V9 ⟨rfl, hp⟩
        have HP9 := Lib.hid hp
        clear hp
        have HPy : Hid (Prn.Put w0 w b L ([Id.wChoice, rn, Id.sLeft] ++ (rf.flatMap Prn.fldW ++ [Id.sRight])) V9) := Lib.hid (HP9.out.cast (by simp only [List.append_assoc]))
        go_wp2_with fail
        exact bodyPost_end (results_none rfl _ _ _) rfl ⟨rfl, HPy.out⟩
      have hka : k < rf.length := by rw [← HN5.out]; exact hlt
      obtain ⟨g, off, cs, rfl, -, ⟨u, he, HU⟩, hc⟩ := ERow.get H5.out hka (by omega)
      have hfl := Prn.flat_take_le Prn.fldW hka
      have HTK := Prn.take_flat Prn.fldW hka
      obtain ⟨⟨yn, yt⟩, Hy⟩ : ∃ y, Hid (rf[k] = y) := ⟨_, Lib.hid rfl⟩
      rw [Hy.out] at he HU hfl HTK
      subst he
      simp only at HU hc
      obtain ⟨A7, n7, c7, rfl⟩ := ERow.is HU
      have H7 := Lib.hid HU
      have HTKH := Lib.hid HTK
      have hfw : (Prn.fldW ⟨yn, yt⟩).length = yt.length + 3 := by simp [Prn.fldW]
      rw [hfw] at hfl
      have a0 := hc 0 _ rfl
      have a1 := hc 1 _ rfl
      simp only [Nat.add_zero] at a0
      have hgl : g < w0.heap.size := World.block_lt_of_cell? w0 _ a0
      have a0 := (HP.out.bel.cell hgl).trans a0
      have a1 := (HP.out.bel.cell hgl).trans a1
      have hbs := HP.out.bel.size
      have hgne : ¬ g = V.heap.size := by omega
      have ik1 : (k : Int) < (n5 : Int) := by omega
      generalize hM : ((rf.take k).flatMap Prn.fldW).length = m at hfl
      have HM := Lib.hid hM
      generalize hT : yt.length = tl at hfl
      have HTL := Lib.hid hT
      clear hc HU HTK hfw hM hT Hy hbs
      go_upto_region 8 with (fail)
      refine wp_named (fun V1 hW => ?_)
      obtain ⟨hbx, hqx, -⟩ := fresh_box hW
      have HPc := Lib.hid (HP.out.below hbx)
      have HQ := Lib.hid hqx
      clear hW hbx hqx a0 a1 HP
      obtain ⟨⟨b0, b1⟩, -⟩ := HQ.out.k2
      go_wp2_with fail
      refine (pwput_box b L [yn, Id.sColon] 2 #[.string yn, .string Id.sColon] rfl rfl w0 w _ _ HPc.out (by simp only [List.length_append, List.length_cons, List.length_nil, HM.out]; omega) HQ.out (by decide) (by decide)).mono ?_
      rintro e V2 ⟨rfl, hp, hq⟩
      have HPd := Lib.hid hp
      clear hp HQ
      have HQ := Lib.hid hq
      clear hq
      clear b0 b1
      obtain ⟨⟨b0, b1⟩, -⟩ := HQ.out.k2
      go_wp2_with fail
      refine (pwsorts_any b _ yt _ w0 V2 HPd.out.bel HPd.out.wr (fun w' hb _ => ERow.below H7.out hb (fun _ _ h => h)) (by simp only [List.length_append, List.length_cons, List.length_nil, HM.out, HTL.out]; omega)).mono ?_
      rintro e V3 ⟨rfl, hp⟩
      have HPe := Lib.hid (HPd.out.step hp)
      clear hp b0 b1 HQ
      go_wp2_with fail
      refine (pwput_lit b L [Id.sSemi] 1 #[.string Id.sSemi] rfl rfl w0 w _ _ HPe.out (by simp only [List.length_append, List.length_cons, List.length_nil, List.length_map, HM.out, HTL.out]; omega)).mono ?_
      rintro e V4 ⟨rfl, hp⟩
      have HPf := Lib.hid hp
      clear hp
      have HPg : Hid (Prn.Put w0 w b L ([Id.wChoice, rn, Id.sLeft] ++ (rf.take (k + 1)).flatMap Prn.fldW) V4) := Lib.hid (HPf.out.cast (by rw [HTKH.out]; simp only [Prn.fldW, List.append_assoc, List.cons_append, List.nil_append]))
      go_wp2_with fail
      go_roundw
      case rel => exact ⟨k + 1, by omega, by go_num, HPg⟩
      case measure => simp [intOf] <;> omega
set_option maxRecDepth 100000 in
set_option maxHeartbeats 8000000 in
theorem pwservice_any (b : Nat) (L : List ByteArray) (r : Id.Svc) (u : Value) (w0 w : World) (hb : Below w0.heap.size w0 w) (hw : Prn.Wr w w0.heap.size b L) (hv : ERow w0 none 70 5 Id.MthE u r.methods) (hl : L.length + (Prn.svcW r).length ≤ 8000000000000) :
    Calls Tryd.prog 18 #[.pointer (some ⟨b, 0, none⟩), .agg #[.string r.name, u]] w fun e w' => e = .returned (.tuple #[]) ∧ Prn.Put w0 w b L (Prn.svcW r) w' := by
  obtain ⟨rn, rf⟩ := r
  simp only at hv hl ⊢
  obtain ⟨A5, n5, c5, rfl⟩ := ERow.is hv
  have HN5 : Hid (n5 = rf.length) := Lib.hid (by obtain ⟨_, _, e, _⟩ := ERow.slice hv; injection e)
  have hm5 : n5 ≤ 9223372036854775807 := by obtain ⟨_, _, e, _, _⟩ := ERow.slice hv; injection e; omega
  have H5 := Lib.hid hv
  have HP0 := Lib.hid (Prn.Put.start hb hw)
  have hlen : L.length + (rf.flatMap Prn.mthW).length + 4 ≤ 8000000000000 := by have h := hl; simp only [Prn.svcW, List.length_cons, List.length_append, List.length_nil] at h; omega
  clear hb hw hv hl
  have HRW : Hid (Prn.svcW ⟨rn, rf⟩ = [Id.wService, rn, Id.sLeft] ++ (rf.flatMap Prn.mthW ++ [Id.sRight])) := Lib.hid rfl
  rw [HRW.out]
  clear HRW
  go_enter Tryd.func18, Tryd.ntmps18
  go_upto_region 1 with (fail)
  refine wp_named (fun V0 hW => ?_)
  obtain ⟨hbx, hqx, -⟩ := fresh_box hW
  have HPa := Lib.hid (HP0.out.below hbx)
  have HQ := Lib.hid hqx
  clear hW hbx hqx 
  obtain ⟨⟨b0, b1⟩, -⟩ := HQ.out.k2
  go_wp2_with fail
  refine (pwput_box b L [Id.wService, rn, Id.sLeft] 3 #[.string Id.wService, .string rn, .string Id.sLeft] rfl rfl w0 w _ _ HPa.out (by simp only [List.length_cons, List.length_nil]; omega) HQ.out (by decide) (by decide)).mono ?_
  rintro e V1 ⟨rfl, hp, hq⟩
  have HPb := Lib.hid hp
  clear hp HQ
  have HQ := Lib.hid hq
  clear hq
  clear b0 b1
  obtain ⟨⟨b0, b1⟩, -⟩ := HQ.out.k2
  go_wp2_with fail
  go_loopw [14] (fun i wr => ∃ (k : Nat), k ≤ n5 ∧ i = .int .i64 k ∧ Hid (Prn.Put w0 w b L ([Id.wService, rn, Id.sLeft] ++ (rf.take k).flatMap Prn.mthW) wr)) (fun i _ => n5 - (intOf i).toNat)
  case atStart => exact ⟨0, by omega, rfl, HPb⟩
  case round =>
    clear HPb HPa HQ b0 b1
    obtain ⟨k, hk, rfl, HP⟩ := hrel
    obtain ⟨V, rfl⟩ : ∃ w', w' = wr := ⟨_, rfl⟩
    have ik0 : (0 : Int) ≤ (k : Int) := by omega
    by_cases hlt : k < n5
    case neg =>
      have HPx : Hid (Prn.Put w0 w b L ([Id.wService, rn, Id.sLeft] ++ rf.flatMap Prn.mthW) V) := Lib.hid (by have h := HP.out; rw [List.take_of_length_le (by have := HN5.out; omega)] at h; exact h)
      go_wp2_with fail
      refine (pwput_lit b L [Id.sRight] 1 #[.string Id.sRight] rfl rfl w0 w _ _ HPx.out (by simp only [List.length_append, List.length_cons, List.length_nil]; omega)).mono ?_
      rintro e V9 ⟨rfl, hp⟩
      have HP9 := Lib.hid hp
      clear hp
      have HPy : Hid (Prn.Put w0 w b L ([Id.wService, rn, Id.sLeft] ++ (rf.flatMap Prn.mthW ++ [Id.sRight])) V9) := Lib.hid (HP9.out.cast (by simp only [List.append_assoc]))
      go_wp2_with fail
      exact bodyPost_end (results_none rfl _ _ _) rfl ⟨rfl, HPy.out⟩
    have hka : k < rf.length := by rw [← HN5.out]; exact hlt
    obtain ⟨g, off, cs, rfl, -, he, hc⟩ := ERow.get H5.out hka (by omega)
    have hfl := Prn.flat_take_le Prn.mthW hka
    have HTK := Prn.take_flat Prn.mthW hka
    obtain ⟨⟨m0, m1, m2, m3, m4⟩, Hy⟩ : ∃ y, Hid (rf[k] = y) := ⟨_, Lib.hid rfl⟩
    rw [Hy.out] at he hfl HTK
    unfold Id.MthE Id.Mth.cells at he
    subst he
    have HTKH := Lib.hid HTK
    have hfw : (Prn.mthW ⟨m0, m1, m2, m3, m4⟩).length = (Prn.undoW ⟨m0, m1, m2, m3, m4⟩).length + 8 := by simp [Prn.mthW]
    rw [hfw] at hfl
    have a0 := hc 0 _ rfl
    have a1 := hc 1 _ rfl
    have a2 := hc 2 _ rfl
    have a3 := hc 3 _ rfl
    have a4 := hc 4 _ rfl
    simp only [Nat.add_zero] at a0
    have hgl : g < w0.heap.size := World.block_lt_of_cell? w0 _ a0
    have a0 := (HP.out.bel.cell hgl).trans a0
    have a1 := (HP.out.bel.cell hgl).trans a1
    have a2 := (HP.out.bel.cell hgl).trans a2
    have a3 := (HP.out.bel.cell hgl).trans a3
    have a4 := (HP.out.bel.cell hgl).trans a4
    have hbs := HP.out.bel.size
    have hgne : ¬ g = V.heap.size := by omega
    have ik1 : (k : Int) < (n5 : Int) := by omega
    generalize hM : ((rf.take k).flatMap Prn.mthW).length = m at hfl
    have HM := Lib.hid hM
    clear hc HTK hfw hM Hy hbs
    go_upto_region 5 with (fail)
    refine wp_named (fun V1 hW => ?_)
    obtain ⟨hbx, hqx, -⟩ := fresh_box hW
    have HPc := Lib.hid (HP.out.below hbx)
    have HQ := Lib.hid hqx
    clear hW hbx hqx a0 a1 a2 a3 a4 HP
    obtain ⟨⟨b0, b1, b2, b3, b4⟩, -⟩ := HQ.out.k5
    go_wp2_with fail
    refine (pwput_box b L [m3, m0, Id.sOpen, m1, Id.sClose, Id.sArrow] 6 #[.string m3, .string m0, .string Id.sOpen, .string m1, .string Id.sClose, .string Id.sArrow] rfl rfl w0 w _ _ HPc.out (by simp only [List.length_append, List.length_cons, List.length_nil, HM.out]; omega) HQ.out (by decide) (by decide)).mono ?_
    rintro e V2 ⟨rfl, hp, hq⟩
    have HPd := Lib.hid hp
    clear hp HQ
    have HQ := Lib.hid hq
    clear hq
    clear b0 b1 b2 b3 b4
    obtain ⟨⟨b0, b1, b2, b3, b4⟩, -⟩ := HQ.out.k5
    go_wp2_with fail
    have HPd2 := Lib.hid (HPd.out.below (w2 := V2.alloc (.cells #[.int .u8 m2, .string ⟨#[]⟩] 38)) ((Below.refl _ _).alloc (Nat.le_refl _) _))
    refine (pwsorts_any b _ [⟨m2, ⟨#[]⟩⟩] _ w0 _ HPd2.out.bel HPd2.out.wr (fun w' _ ho => sorts_one (ho.bk (Bk.new V2 _ _) (by decide) (by decide))) (by simp only [List.length_append, List.length_cons, List.length_nil, HM.out]; omega)).mono ?_
    rintro e V3 ⟨rfl, hp⟩
    have HPe := Lib.hid (HPd2.out.step hp)
    have hq3 := hp.on.bk (HQ.out.alloc _) (by decide) (by decide)
    clear hp b0 b1 b2 b3 b4 HQ
    have HQ := Lib.hid hq3
    clear hq3
    obtain ⟨⟨b0, b1, b2, b3, b4⟩, -⟩ := HQ.out.k5
    cases hu : m4.toList.isEmpty
    case true =>
      have HUW : Hid (Prn.undoW ⟨m0, m1, m2, m3, m4⟩ = []) := Lib.hid (by unfold Prn.undoW; rw [if_pos hu])
      have hul : (Prn.undoW ⟨m0, m1, m2, m3, m4⟩).length = 0 := by rw [HUW.out]; rfl
      rw [hul] at hfl
      clear hul HQ
      go_wp2_with fail
      refine (pwput_lit b L [Id.sSemi] 1 #[.string Id.sSemi] rfl rfl w0 w _ _ HPe.out (by simp only [List.length_append, List.length_cons, List.length_nil, List.length_map, HM.out]; omega)).mono ?_
      rintro e V5 ⟨rfl, hp⟩
      have HPf := Lib.hid hp
      clear hp
      have HPg : Hid (Prn.Put w0 w b L ([Id.wService, rn, Id.sLeft] ++ (rf.take (k + 1)).flatMap Prn.mthW) V5) := Lib.hid (HPf.out.cast (by rw [HTKH.out]; simp only [Prn.mthW, HUW.out, List.append_assoc, List.cons_append, List.nil_append, List.map_cons, List.map_nil]))
      go_wp2_with fail
      go_roundw
      case rel => exact ⟨k + 1, by omega, by go_num, HPg⟩
      case measure => simp [intOf] <;> omega
    case false =>
      have HUW : Hid (Prn.undoW ⟨m0, m1, m2, m3, m4⟩ = [Id.wUndo, m4]) := Lib.hid (by unfold Prn.undoW; rw [if_neg (by rw [hu]; decide)])
      have hul : (Prn.undoW ⟨m0, m1, m2, m3, m4⟩).length = 2 := by rw [HUW.out]; rfl
      rw [hul] at hfl
      clear hul
      go_wp2_with fail
      refine (pwput_box b L [Id.wUndo, m4] 2 #[.string Id.wUndo, .string m4] rfl rfl w0 w _ _ HPe.out (by simp only [List.length_append, List.length_cons, List.length_nil, List.length_map, HM.out]; omega) HQ.out (by decide) (by decide)).mono ?_
      rintro e V4 ⟨rfl, hp, hq⟩
      have HPq := Lib.hid hp
      clear hp HQ
      have HQ := Lib.hid hq
      clear hq
      clear b0 b1 b2 b3 b4 HQ
      go_wp2_with fail
      refine (pwput_lit b L [Id.sSemi] 1 #[.string Id.sSemi] rfl rfl w0 w _ _ HPq.out (by simp only [List.length_append, List.length_cons, List.length_nil, List.length_map, HM.out]; omega)).mono ?_
      rintro e V5 ⟨rfl, hp⟩
      have HPf := Lib.hid hp
      clear hp
      have HPg : Hid (Prn.Put w0 w b L ([Id.wService, rn, Id.sLeft] ++ (rf.take (k + 1)).flatMap Prn.mthW) V5) := Lib.hid (HPf.out.cast (by rw [HTKH.out]; simp only [Prn.mthW, HUW.out, List.append_assoc, List.cons_append, List.nil_append, List.map_cons, List.map_nil]))
      go_wp2_with fail
      go_roundw
      case rel => exact ⟨k + 1, by omega, by go_num, HPg⟩
      case measure => simp [intOf] <;> omega
set_option maxRecDepth 100000 in
set_option maxHeartbeats 8000000 in
theorem pwsaga_any (b : Nat) (L : List ByteArray) (r : Id.Sag) (u : Value) (w0 w : World) (hb : Below w0.heap.size w0 w) (hw : Prn.Wr w w0.heap.size b L) (hv : ERow w0 none 72 3 Id.StpE u r.steps) (ha : ∀ p ∈ r.steps, 0 ≤ p.at_ ∧ p.at_ < 100) (hl : L.length + (Prn.sagW r).length ≤ 8000000000000) :
    Calls Tryd.prog 19 #[.pointer (some ⟨b, 0, none⟩), .agg #[.string r.name, .string r.arg, u]] w fun e w' => e = .returned (.tuple #[]) ∧ Prn.Put w0 w b L (Prn.sagW r) w' := by
  have HAT := Lib.hid ha
  clear ha
  obtain ⟨rn, ra, rf⟩ := r
  simp only at hv hl HAT ⊢
  obtain ⟨A5, n5, c5, rfl⟩ := ERow.is hv
  have HN5 : Hid (n5 = rf.length) := Lib.hid (by obtain ⟨_, _, e, _⟩ := ERow.slice hv; injection e)
  have hm5 : n5 ≤ 9223372036854775807 := by obtain ⟨_, _, e, _, _⟩ := ERow.slice hv; injection e; omega
  have H5 := Lib.hid hv
  have HP0 := Lib.hid (Prn.Put.start hb hw)
  have hlen : L.length + (rf.flatMap Prn.stpW).length + 7 ≤ 8000000000000 := by have h := hl; simp only [Prn.sagW, List.length_cons, List.length_append, List.length_nil] at h; omega
  clear hb hw hv hl
  have HRW : Hid (Prn.sagW ⟨rn, ra, rf⟩ = [Id.wSaga, rn, Id.sOpen, ra, Id.sClose, Id.sLeft] ++ (rf.flatMap Prn.stpW ++ [Id.sRight])) := Lib.hid rfl
  rw [HRW.out]
  clear HRW
  go_enter Tryd.func19, Tryd.ntmps19
  go_upto_region 1 with (fail)
  refine wp_named (fun V0 hW => ?_)
  obtain ⟨hbx, hqx, -⟩ := fresh_box hW
  have HPa := Lib.hid (HP0.out.below hbx)
  have HQ := Lib.hid hqx
  clear hW hbx hqx 
  obtain ⟨⟨b0, b1, b2⟩, -⟩ := HQ.out.k3
  go_wp2_with fail
  refine (pwput_box b L [Id.wSaga, rn, Id.sOpen, ra, Id.sClose, Id.sLeft] 6 #[.string Id.wSaga, .string rn, .string Id.sOpen, .string ra, .string Id.sClose, .string Id.sLeft] rfl rfl w0 w _ _ HPa.out (by simp only [List.length_cons, List.length_nil]; omega) HQ.out (by decide) (by decide)).mono ?_
  rintro e V1 ⟨rfl, hp, hq⟩
  have HPb := Lib.hid hp
  clear hp HQ
  have HQ := Lib.hid hq
  clear hq
  clear b0 b1 b2
  obtain ⟨⟨b0, b1, b2⟩, -⟩ := HQ.out.k3
  go_wp2_with fail
  go_loopw [16] (fun i wr => ∃ (k : Nat), k ≤ n5 ∧ i = .int .i64 k ∧ Hid (Prn.Put w0 w b L ([Id.wSaga, rn, Id.sOpen, ra, Id.sClose, Id.sLeft] ++ (rf.take k).flatMap Prn.stpW) wr)) (fun i _ => n5 - (intOf i).toNat)
  case atStart => exact ⟨0, by omega, rfl, HPb⟩
  case round =>
    clear HPb HPa HQ b0 b1 b2
    obtain ⟨k, hk, rfl, HP⟩ := hrel
    obtain ⟨V, rfl⟩ : ∃ w', w' = wr := ⟨_, rfl⟩
    have ik0 : (0 : Int) ≤ (k : Int) := by omega
    by_cases hlt : k < n5
    case neg =>
      have HPx : Hid (Prn.Put w0 w b L ([Id.wSaga, rn, Id.sOpen, ra, Id.sClose, Id.sLeft] ++ rf.flatMap Prn.stpW) V) := Lib.hid (by have h := HP.out; rw [List.take_of_length_le (by have := HN5.out; omega)] at h; exact h)
      go_wp2_with fail
      refine (pwput_lit b L [Id.sRight] 1 #[.string Id.sRight] rfl rfl w0 w _ _ HPx.out (by simp only [List.length_append, List.length_cons, List.length_nil]; omega)).mono ?_
      rintro e V9 ⟨rfl, hp⟩
      have HP9 := Lib.hid hp
      clear hp
      have HPy : Hid (Prn.Put w0 w b L ([Id.wSaga, rn, Id.sOpen, ra, Id.sClose, Id.sLeft] ++ (rf.flatMap Prn.stpW ++ [Id.sRight])) V9) := Lib.hid (HP9.out.cast (by simp only [List.append_assoc]))
      go_wp2_with fail
      exact bodyPost_end (results_none rfl _ _ _) rfl ⟨rfl, HPy.out⟩
    have hka : k < rf.length := by rw [← HN5.out]; exact hlt
    obtain ⟨g, off, cs, rfl, -, he, hc⟩ := ERow.get H5.out hka (by omega)
    have hfl := Prn.flat_take_le Prn.stpW hka
    have HTK := Prn.take_flat Prn.stpW hka
    have hat := HAT.out _ (List.getElem_mem hka)
    obtain ⟨⟨p0, p1, p2⟩, Hy⟩ : ∃ y, Hid (rf[k] = y) := ⟨_, Lib.hid rfl⟩
    rw [Hy.out] at he hfl HTK hat
    unfold Id.StpE Id.Stp.cells at he
    subst he
    have HTKH := Lib.hid HTK
    simp only at hat
    obtain ⟨q, rfl⟩ : ∃ q : Nat, p2 = q := ⟨p2.toNat, by omega⟩
    have hq100 : q < 100 := by omega
    have HNW : Hid ((⟨(Lib.decDigits q).toArray⟩ : ByteArray) = Prn.numW q) := Lib.hid (by unfold Prn.numW; rw [Lib.itoa_nonneg])
    have hfw : (Prn.stpW ⟨p0, p1, (q : Int)⟩).length = 7 := rfl
    rw [hfw] at hfl
    have a0 := hc 0 _ rfl
    have a1 := hc 1 _ rfl
    have a2 := hc 2 _ rfl
    simp only [Nat.add_zero] at a0
    have hgl : g < w0.heap.size := World.block_lt_of_cell? w0 _ a0
    have a0 := (HP.out.bel.cell hgl).trans a0
    have a1 := (HP.out.bel.cell hgl).trans a1
    have a2 := (HP.out.bel.cell hgl).trans a2
    have hbs := HP.out.bel.size
    have hgne : ¬ g = V.heap.size := by omega
    have ik1 : (k : Int) < (n5 : Int) := by omega
    generalize hM : ((rf.take k).flatMap Prn.stpW).length = m at hfl
    have HM := Lib.hid hM
    clear hc HTK hfw hM Hy hbs hat
    go_upto_region 5 with (fail)
    refine wp_named (fun V1 hW => ?_)
    obtain ⟨hbx, hqx, -⟩ := fresh_box hW
    have HPc := Lib.hid (HP.out.below hbx)
    have HQ := Lib.hid hqx
    clear hW hbx hqx a0 a1 a2 HP
    have hS : Bk V1.drew V.heap.size 72 _ := HQ.out.drew
    refine wp_region_L_calm (fun w' => Bk w' V.heap.size 72 _) [9] (by kernel_rfl) hS (fun hHeld => ?_)
    (refine wpAnyL_take0 0 (v := ?_) rfl (by kernel_rfl) (by kernel_rfl) (by kernel_rfl) (by kernel_rfl) (fun _ _ _ h => h) (fun _ => by assumption) (by rfl) ?_ ?_; rotate_left; · (intro w; go_simp; try with_reducible rfl); try simp only [Act.put, List.setIfInBounds_toArray, List.set_cons_zero, List.set_cons_succ])
    (refine wpAnyL_take0 1 (v := ?_) rfl (by kernel_rfl) (by kernel_rfl) (by kernel_rfl) (by kernel_rfl) (fun _ _ _ h => h) (fun _ => by assumption) (by rfl) ?_ ?_; rotate_left; · (intro w; go_simp; try with_reducible rfl); try simp only [Act.put, List.setIfInBounds_toArray, List.set_cons_zero, List.set_cons_succ])
    (refine Lst.takeZ 9 2 (v := ?_) rfl (by kernel_rfl) (by kernel_rfl) (by kernel_rfl) (by kernel_rfl) (by kernel_rfl) (by kernel_rfl) (fun _ _ _ h => h) (by assumption) (by rfl) ?_ ?_; rotate_left; · (intro w hSw; obtain ⟨⟨e0, e1, e2⟩, -⟩ := hSw.k3; go_simp; try with_reducible rfl); try simp only [Act.put, List.setIfInBounds_toArray, List.set_cons_zero, List.set_cons_succ])
    (refine wpAnyL_take0 3 (v := ?_) rfl (by kernel_rfl) (by kernel_rfl) (by kernel_rfl) (by kernel_rfl) (fun _ _ _ h => h) (fun _ => by assumption) (by rfl) ?_ ?_; rotate_left; · (intro w; go_simp; try with_reducible rfl); try simp only [Act.put, List.setIfInBounds_toArray, List.set_cons_zero, List.set_cons_succ])
    (refine Lst.takeZ 9 4 (v := ?_) rfl (by kernel_rfl) (by kernel_rfl) (by kernel_rfl) (by kernel_rfl) (by kernel_rfl) (by kernel_rfl) (fun _ _ _ h => h) (by assumption) (by rfl) ?_ ?_; rotate_left; · (intro w hSw; obtain ⟨⟨e0, e1, e2⟩, -⟩ := hSw.k3; go_simp; try with_reducible rfl); try simp only [Act.put, List.setIfInBounds_toArray, List.set_cons_zero, List.set_cons_succ])
    (refine wpAnyL_take0 5 (v := ?_) rfl (by kernel_rfl) (by kernel_rfl) (by kernel_rfl) (by kernel_rfl) (fun _ _ _ h => h) (fun _ => by assumption) (by rfl) ?_ ?_; rotate_left; · (intro w; go_simp; try with_reducible rfl); try simp only [Act.put, List.setIfInBounds_toArray, List.set_cons_zero, List.set_cons_succ])
    (refine Lst.takeZ 9 6 (v := ?_) rfl (by kernel_rfl) (by kernel_rfl) (by kernel_rfl) (by kernel_rfl) (by kernel_rfl) (by kernel_rfl) (fun _ _ _ h => h) (by assumption) (by rfl) ?_ ?_; rotate_left; · (intro w hSw; obtain ⟨⟨e0, e1, e2⟩, -⟩ := hSw.k3; go_simp; try with_reducible rfl); try simp only [Act.put, List.setIfInBounds_toArray, List.set_cons_zero, List.set_cons_succ])
    (refine wpAnyL_step 7 (by kernel_rfl) rfl (fun K hK => ?_))
    go_simp
    refine (Tryd.strconv_Itoa_small q hq100 _).mono ?_
    rw [HNW.out]
    rintro e X ⟨rfl, rfl⟩
    (refine hK.out _ _ (fun hnn => hS) ?_; clear hK K; try simp only [Act.put, List.setIfInBounds_toArray, List.set_cons_zero, List.set_cons_succ])
    (refine wpAnyL_step 8 (by kernel_rfl) rfl (fun K hK => ?_))
    go_simp
    have hbl : Below V1.heap.size V1 (V1.drew.alloc (.cells #[.string Id.wDo, .string p0, .string Id.sDot, .string p1, .string Id.wAt, .string (Prn.numW q), .string Id.sSemi] 9)) := (Below.refl _ _).drew.alloc (Nat.le_refl _) _
    (refine hK.out _ _ (fun hnn => HQ.out.below hbl HQ.out.lt) ?_; clear hK K; try simp only [Act.put, List.setIfInBounds_toArray, List.set_cons_zero, List.set_cons_succ])
    (refine wpAnyL_step 9 (by kernel_rfl) rfl (fun K hK => ?_))
    go_simp
    have HPcd := Lib.hid (HPc.out.below (w2 := V1.drew) ((Below.refl _ _).drew))
    refine (pwput_lit b L [Id.wDo, p0, Id.sDot, p1, Id.wAt, Prn.numW q, Id.sSemi] 7 #[.string Id.wDo, .string p0, .string Id.sDot, .string p1, .string Id.wAt, .string (Prn.numW q), .string Id.sSemi] rfl rfl w0 w V1.drew _ HPcd.out (by simp only [List.length_append, List.length_cons, List.length_nil, HM.out]; omega)).mono ?_
    rintro e V2 ⟨rfl, hp⟩
    have HPg : Hid (Prn.Put w0 w b L ([Id.wSaga, rn, Id.sOpen, ra, Id.sClose, Id.sLeft] ++ (rf.take (k + 1)).flatMap Prn.stpW) V2) := Lib.hid (hp.cast (by rw [HTKH.out]; simp only [Prn.stpW, List.append_assoc]))
    clear hp
    (refine hK.out _ _ (fun hnn => absurd hnn (by decide)) ?_; clear hK K; try simp only [Act.put, List.setIfInBounds_toArray, List.set_cons_zero, List.set_cons_succ])
    refine wpAnyL_done (by kernel_rfl) ?_ _
    refine NoPanic.normal ?_
    clear hHeld hS
    go_wp2_with fail
    go_roundw
    case rel => exact ⟨k + 1, by omega, by go_num, HPg⟩
    case measure => simp [intOf] <;> omega
end Go.Proofs.YtmncppnpppdfkaaDoor
