/- prints: Text, Print (printed by gen_prnc.py). No condition but the keywords' table and a schema that is Fine. -/
import Derived.Test.YtmncppnpppdfkaaDoorPrnB
import Derived.Test.YtmncppnpppdfkaaDoorPrnMath
import Derived.Test.YtmncppnpppdfkaaDoorKC4
import Derived.Test.YtmncppnpppdfkaaDoorChkLaw
import Derived.Test.YtmncppnpppdfkaaDoorChkFewer
import Derived.Test.YtmncppnpppdfkaaDoorChkDoc
import Derived.Test.YtmncppnpppdfkaaDoorLong
set_option linter.unusedVariables false
set_option linter.unusedSimpArgs false
namespace Go.Proofs.YtmncppnpppdfkaaDoor
open Go.RowKit Go.BigFrame
namespace Prn
open Go.Proofs.YtmncppnpppdfkaaDoor.Id Go.Proofs.YtmncppnpppdfkaaDoor.Chk
theorem flat_le {α β : Type} {f : α → List β} {l : List α} {m : Nat} (h : ∀ a ∈ l, (f a).length ≤ m) : (l.flatMap f).length ≤ l.length * m := by
  induction l with
  | nil => simp
  | cons a l ih =>
    rw [List.flatMap_cons, List.length_append, List.length_cons, Nat.succ_mul]
    have := h a (by simp)
    have := ih (fun b hb => h b (by simp [hb]))
    omega
theorem jl_le {m : Nat} : ∀ {l : List ByteArray}, (∀ u ∈ l, u.size ≤ m) → (jl l).length ≤ l.length * (m + 1)
  | [], h => by simp [jl]
  | a :: l, h => by
    have h1 : a.data.toList.length ≤ m := by have := h a (by simp); simpa using this
    have h2 : (l.flatMap fun u => 32 :: u.data.toList).length ≤ l.length * (m + 1) := flat_le (fun u hu => by have := h u (by simp [hu]); simpa using this)
    show (a.data.toList ++ _).length ≤ _
    rw [List.length_append, List.length_cons, Nat.succ_mul]
    omega
theorem fld_len {f : Fld} (h : f.type.length ≤ 1000) : (fldW f).length ≤ 1003 := by simp [fldW]; omega
theorem rec_len {x : Sch} (h : Fine x) {r : Rec} (hr : r ∈ x.records) : (recW r).length ≤ 99301 := by
  obtain ⟨_, h2, h3⟩ := h.re r hr
  have := flat_le (f := fldW) (l := r.fields) (fun f hf => fld_len (h3 f hf).2.1)
  have h4 : r.fields.length * 1003 ≤ 99 * 1003 := Nat.mul_le_mul_right _ h2
  simp only [recW, List.length_cons, List.length_append, List.length_nil]
  omega
theorem undo_len (m : Mth) : (undoW m).length ≤ 2 := by unfold undoW; split <;> simp
theorem svc_len {x : Sch} (h : Fine x) {v : Svc} (hv : v ∈ x.services) : (svcW v).length ≤ 99301 := by
  obtain ⟨_, h2, _⟩ := h.sv v hv
  have := flat_le (f := mthW) (l := v.methods) (m := 10) (fun m _ => by have := undo_len m; simp [mthW]; omega)
  have h4 : v.methods.length * 10 ≤ 99 * 10 := Nat.mul_le_mul_right _ h2
  simp only [svcW, List.length_cons, List.length_append, List.length_nil]
  omega
theorem sag_len {x : Sch} (h : Fine x) {g : Sag} (hg : g ∈ x.sagas) : (sagW g).length ≤ 99301 := by
  obtain ⟨_, h2, _⟩ := h.sa g hg
  have := flat_le (f := stpW) (l := g.steps) (m := 7) (fun m _ => by simp [stpW])
  have h4 : g.steps.length * 7 ≤ 99 * 7 := Nat.mul_le_mul_right _ h2
  simp only [sagW, List.length_cons, List.length_append, List.length_nil]
  omega
theorem sch_len {x : Sch} (h : Fine x) : (schW x).length ≤ 297903003 := by
  have h1 := flat_le (f := recW) (fun r hr => rec_len h hr)
  have h2 := flat_le (f := svcW) (fun r hr => svc_len h hr)
  have h3 := flat_le (f := sagW) (fun r hr => sag_len h hr)
  have k1 : x.records.length * 99301 ≤ 1000 * 99301 := Nat.mul_le_mul_right _ h.recs
  have k2 : x.services.length * 99301 ≤ 1000 * 99301 := Nat.mul_le_mul_right _ h.svcs
  have k3 : x.sagas.length * 99301 ≤ 1000 * 99301 := Nat.mul_le_mul_right _ h.sags
  simp only [schW, List.length_cons, List.length_append]
  omega
theorem sch_size {x : Sch} (h : Right x) : ∀ u ∈ schW x, u.size ≤ 32 := by
  have := owns_size (owns_sch (ok_of_right h))
  rwa [sch_tx] at this
theorem sch_jl {x : Sch} (h : Right x) (hF : Fine x) : (jl (schW x)).length ≤ 9830799099 := by
  have h1 := jl_le (sch_size h)
  have h2 : (schW x).length * (32 + 1) ≤ 297903003 * (32 + 1) := Nat.mul_le_mul_right _ (sch_len hF)
  omega
theorem sch_steps {x : Sch} (h : Right x) {g : Sag} (hg : g ∈ x.sagas) : ∀ p ∈ g.steps, 0 ≤ p.at_ ∧ p.at_ < 100 := fun p hp => by
  have := (ok_of_right h).gs g hg p hp
  exact ⟨this.lo, by have := this.hi; omega⟩
theorem jn_size (l : List ByteArray) : (jn l).size = (jl l).length := by simp [jn, ByteArray.size]
/-- A schema's text, or why there is none. -/
noncomputable def text (x : Sch) : ByteArray × Nat := if (check x).2 ≠ 0 then (⟨#[]⟩, (check x).2) else if 65536 < (jn (schW x)).size then (⟨#[]⟩, 3) else (jn (schW x), 0)
theorem text_size (x : Sch) : (text x).1.size ≤ 65536 := by
  unfold text
  split
  · exact Nat.zero_le _
  · split
    · exact Nat.zero_le _
    next h => show (jn (schW x)).size ≤ 65536; omega
noncomputable def print (x : Sch) : Nat × Nat := if (text x).2 ≠ 0 then (0, (text x).2) else (Sm.print (text x).1.data.toList, 0)
end Prn
set_option maxRecDepth 100000 in
set_option maxHeartbeats 16000000 in
theorem pText_any (v : Value) (x : Id.Sch) (hF : Chk.Fine x) (w : World) (hk : Tk.KW w) (hv : Id.SchV w none v x) :
    Calls Tryd.prog 7 #[v] w fun e w' => e = .returned (Chk.docV (Prn.text x)) ∧ Below w.heap.size w w' := by
  obtain ⟨R, HR⟩ : ∃ R, Hid (Prn.text x = R) := ⟨_, Lib.hid rfl⟩
  rw [HR.out]
  have HF := Lib.hid hF
  have HKW := Lib.hid hk
  have HV := Lib.hid hv
  obtain ⟨A1, n1, c1, A2, n2, c2, A3, n3, c3, rfl, r1, r2, r3⟩ := hv
  have HN1 : Hid (n1 = x.records.length) := Lib.hid (by obtain ⟨_, _, e, _⟩ := ERow.slice r1; injection e)
  have hm1 : n1 ≤ 9223372036854775807 := by obtain ⟨_, _, e, _, _⟩ := ERow.slice r1; injection e; omega
  have H1 := Lib.hid r1
  have HN2 : Hid (n2 = x.services.length) := Lib.hid (by obtain ⟨_, _, e, _⟩ := ERow.slice r2; injection e)
  have hm2 : n2 ≤ 9223372036854775807 := by obtain ⟨_, _, e, _, _⟩ := ERow.slice r2; injection e; omega
  have H2 := Lib.hid r2
  have HN3 : Hid (n3 = x.sagas.length) := Lib.hid (by obtain ⟨_, _, e, _⟩ := ERow.slice r3; injection e)
  have hm3 : n3 ≤ 9223372036854775807 := by obtain ⟨_, _, e, _, _⟩ := ERow.slice r3; injection e; omega
  have H3 := Lib.hid r3
  clear r1 r2 r3 hk hF
  go_enter Tryd.func7, Tryd.ntmps7
  go_upto_region 1 with (fail)
  refine wp_named (fun V hV => ?_)
  have HL := Lib.hid (Chk.Lx.start hV)
  clear hV
  obtain ⟨⟨q0, q1, q2, q3⟩, -⟩ := HL.out.box.k4
  obtain ⟨p, Hp⟩ : ∃ p, Hid (Chk.check x = p) := ⟨_, Lib.hid rfl⟩
  go_wp2_with fail
  refine (ccheck_any _ x HF.out _ (HKW.out.below HL.out.bel) (Id.SchV.below HL.out.bel HV.out)).mono ?_
  rw [Hp.out]
  rintro e W1 ⟨rfl, hb⟩
  have HLx := Lib.hid (HL.out.below hb)
  clear HL hb q0 q1 q2 q3
  obtain ⟨ps, pe⟩ := p
  simp only
  by_cases hpe : pe = 0
  case neg =>
    have HE : Hid (R = (⟨#[]⟩, pe)) := Lib.hid (by rw [← HR.out]; unfold Prn.text; rw [Hp.out, if_pos hpe])
    have t1 : ((pe : Int) != 0) = true := by rw [bne_iff_ne]; omega
    have t2 : ¬ (pe : Int) = 0 := by omega
    have t3 : ((pe : Int) == 0) = false := by rw [beq_eq_false_iff_ne]; omega
    clear hpe
    go_wp2_with fail
    go_ret2
    exact ⟨by rw [HE.out]; rfl, HLx.out.bel⟩
  subst hpe
  have hRt := Chk.check_ok (x := x) (by rw [Hp.out])
  have HRt := Lib.hid hRt
  have HRR : Hid ((if 65536 < (Prn.jn (Prn.schW x)).size then ((⟨#[]⟩ : ByteArray), 3) else (Prn.jn (Prn.schW x), 0)) = R) := Lib.hid (by rw [← HR.out]; unfold Prn.text; rw [Hp.out]; exact (if_neg (by simp)).symm)
  have HJL := Lib.hid (Prn.sch_jl hRt HF.out)
  have HLEN := Lib.hid (Prn.sch_len HF.out)
  clear hRt HR Hp
  obtain ⟨⟨q0, q1, q2, q3⟩, -⟩ := HLx.out.box.k4
  have bq := HLx.out.bel.size
  go_upto_region 5 with (fail)
  refine wp_named (fun W2 hW => ?_)
  obtain ⟨hbx, hqx, -⟩ := fresh_box hW
  have HBX := Lib.hid (HLx.out.box.below hbx HLx.out.box.lt)
  have hb2 := HLx.out.bel.trans (hbx.mono bq)
  have hwr : Prn.Wr W2 w.heap.size W1.heap.size [] := ⟨bq, hb2.size, _, hqx, ERow.nil _ _ _ _ _⟩
  have HP := Lib.hid (Prn.Put.start hb2 hwr)
  clear hW hbx hqx hb2 hwr HLx q0 q1 q2 q3
  obtain ⟨⟨q0, q1, q2, q3⟩, -⟩ := HBX.out.k4
  have HSW : Hid (Prn.schW x = [Id.wModule, x.name, Id.sSemi] ++ x.records.flatMap Prn.recW ++ x.services.flatMap Prn.svcW ++ x.sagas.flatMap Prn.sagW) := Lib.hid (by simp [Prn.schW])
  have hlen : (x.records.flatMap Prn.recW).length + (x.services.flatMap Prn.svcW).length + (x.sagas.flatMap Prn.sagW).length + 3 ≤ 297903003 := by have h := HLEN.out; rw [HSW.out] at h; simp only [List.length_append, List.length_cons, List.length_nil] at h; omega
  have HBX2 := HBX
  go_wp2_with fail
  refine (pwput_lit W1.heap.size [] [Id.wModule, x.name, Id.sSemi] 3 #[.string Id.wModule, .string x.name, .string Id.sSemi] rfl rfl w W2 _ _ HP.out (by simp)).mono ?_
  rintro e W3 ⟨rfl, hp⟩
  have HP3 := Lib.hid hp
  have hbx3 := hp.on.bk HBX2.out (by decide) (by decide)
  clear hp HP q0 q1 q2 q3
  have HBX := Lib.hid hbx3
  clear hbx3
  obtain ⟨⟨q0, q1, q2, q3⟩, -⟩ := HBX.out.k4
  go_wp2_with fail
  go_loopw [32] (fun i wr => ∃ (k : Nat), k ≤ n1 ∧ i = .int .i64 k ∧ Hid (Prn.Put w W2 W1.heap.size [] ([Id.wModule, x.name, Id.sSemi] ++ (x.records.take k).flatMap Prn.recW) wr)) (fun i _ => n1 - (intOf i).toNat)
  case atStart => exact ⟨0, by omega, rfl, HP3⟩
  case round =>
    clear q0 q1 q2 q3 HP3 HBX
    obtain ⟨k, hk, rfl, HP⟩ := hrel
    obtain ⟨V1, rfl⟩ : ∃ w', w' = wr := ⟨_, rfl⟩
    have ik0 : (0 : Int) ≤ (k : Int) := by omega
    have HBX := Lib.hid (HP.out.on.bk HBX2.out (by decide) (by decide))
    obtain ⟨⟨q0, q1, q2, q3⟩, -⟩ := HBX.out.k4
    by_cases hlt : k < n1
    case neg =>
      have HPn : Hid (Prn.Put w W2 W1.heap.size [] ([Id.wModule, x.name, Id.sSemi] ++ x.records.flatMap Prn.recW) V1) := Lib.hid (by have h := HP.out; rw [List.take_of_length_le (by have := HN1.out; omega)] at h; exact h)
      clear HP
      go_wp2_with fail
      go_loopw [43] (fun i wr => ∃ (k : Nat), k ≤ n2 ∧ i = .int .i64 k ∧ Hid (Prn.Put w W2 W1.heap.size [] ([Id.wModule, x.name, Id.sSemi] ++ x.records.flatMap Prn.recW ++ (x.services.take k).flatMap Prn.svcW) wr)) (fun i _ => n2 - (intOf i).toNat)
      case atStart => exact ⟨0, by omega, rfl, Lib.hid (HPn.out.cast (by rw [List.take_zero, List.flatMap_nil, List.append_nil]))⟩
      case round =>
        clear q0 q1 q2 q3 HPn HBX
        obtain ⟨k, hk, rfl, HP⟩ := hrel
        obtain ⟨V1, rfl⟩ : ∃ w', w' = wr := ⟨_, rfl⟩
        have ik0 : (0 : Int) ≤ (k : Int) := by omega
        have HBX := Lib.hid (HP.out.on.bk HBX2.out (by decide) (by decide))
        obtain ⟨⟨q0, q1, q2, q3⟩, -⟩ := HBX.out.k4
        by_cases hlt : k < n2
        case neg =>
          have HPn : Hid (Prn.Put w W2 W1.heap.size [] ([Id.wModule, x.name, Id.sSemi] ++ x.records.flatMap Prn.recW ++ x.services.flatMap Prn.svcW) V1) := Lib.hid (by have h := HP.out; rw [List.take_of_length_le (by have := HN2.out; omega)] at h; exact h)
          clear HP
          go_wp2_with fail
          go_loopw [54] (fun i wr => ∃ (k : Nat), k ≤ n3 ∧ i = .int .i64 k ∧ Hid (Prn.Put w W2 W1.heap.size [] ([Id.wModule, x.name, Id.sSemi] ++ x.records.flatMap Prn.recW ++ x.services.flatMap Prn.svcW ++ (x.sagas.take k).flatMap Prn.sagW) wr)) (fun i _ => n3 - (intOf i).toNat)
          case atStart => exact ⟨0, by omega, rfl, Lib.hid (HPn.out.cast (by rw [List.take_zero, List.flatMap_nil, List.append_nil]))⟩
          case round =>
            clear q0 q1 q2 q3 HPn HBX
            obtain ⟨k, hk, rfl, HP⟩ := hrel
            obtain ⟨V1, rfl⟩ : ∃ w', w' = wr := ⟨_, rfl⟩
            have ik0 : (0 : Int) ≤ (k : Int) := by omega
            have HBX := Lib.hid (HP.out.on.bk HBX2.out (by decide) (by decide))
            obtain ⟨⟨q0, q1, q2, q3⟩, -⟩ := HBX.out.k4
            by_cases hlt : k < n3
            case neg =>
              have HPn : Hid (Prn.Put w W2 W1.heap.size [] ([Id.wModule, x.name, Id.sSemi] ++ x.records.flatMap Prn.recW ++ x.services.flatMap Prn.svcW ++ x.sagas.flatMap Prn.sagW) V1) := Lib.hid (by have h := HP.out; rw [List.take_of_length_le (by have := HN3.out; omega)] at h; exact h)
              clear HP
              have HPz : Hid (Prn.Put w W2 W1.heap.size [] (Prn.schW x) V1) := Lib.hid (HPn.out.cast HSW.out.symm)
              clear HPn
              go_wp2_with fail
              refine (pwtext_any W1.heap.size (Prn.schW x) w.heap.size V1 (by have h := HPz.out.wr; rw [List.nil_append] at h; exact h) (by have := HLEN.out; omega) (by have := HJL.out; omega)).mono ?_
              rintro e V9 ⟨rfl, hb9⟩
              have HJ9 : Hid (V9 = V9) := Lib.hid rfl
              have HB9 := Lib.hid (HPz.out.bel.trans (hb9.mono HPz.out.bel.size))
              generalize Prn.jn (Prn.schW x) = J at *
              clear hb9
              by_cases h6 : 65536 < J.size
              case pos =>
                have HE : Hid (R = (⟨#[]⟩, 3)) := Lib.hid (by rw [← HRR.out, if_pos h6])
                have h6i : (65536 : Int) < (J.size : Int) := by omega
                go_wp2_with fail
                go_ret2
                exact ⟨by rw [HE.out]; rfl, HB9.out⟩
              have HE : Hid (R = (J, 0)) := Lib.hid (by rw [← HRR.out, if_neg h6])
              have h6i : ¬ (65536 : Int) < (J.size : Int) := by omega
              go_wp2_with fail
              go_ret2
              exact ⟨by rw [HE.out]; rfl, HB9.out⟩
            have hka : k < x.sagas.length := by rw [← HN3.out]; exact hlt
            have hmem := List.getElem_mem hka
            have hfl := Prn.flat_take_le Prn.sagW hka
            have HTK := Lib.hid (Prn.take_flat Prn.sagW hka)
            obtain ⟨g1, off1, cs, rfl, -, ⟨u, he, HU⟩, hc⟩ := ERow.get H3.out hka (by omega)
            have HATS := Lib.hid (Prn.sch_steps HRt.out hmem)
            obtain ⟨r, Hr⟩ : ∃ r, Hid (x.sagas[k] = r) := ⟨_, Lib.hid rfl⟩
            rw [Hr.out] at he HU hfl HTK HATS
            subst he
            have HU5 := Lib.hid HU
            obtain ⟨A5, n5, c5, rfl⟩ := ERow.is HU
            have b0 := hc 0 _ rfl
            have b1 := hc 1 _ rfl
            have b2 := hc 2 _ rfl
            simp only [Nat.add_zero] at b0
            have hgl1 : g1 < w.heap.size := World.block_lt_of_cell? w _ b0
            have b0 := (HP.out.bel.cell hgl1).trans b0
            have b1 := (HP.out.bel.cell hgl1).trans b1
            have b2 := (HP.out.bel.cell hgl1).trans b2
            have bqs := HP.out.bel.size
            have hgne : ¬ g1 = V1.heap.size := by omega
            have ik1 : (k : Int) < (n3 : Int) := by omega
            generalize hM : ((x.sagas.take k).flatMap Prn.sagW).length = m at hfl
            have HM := Lib.hid hM
            generalize hM2 : (Prn.sagW r).length = m2 at hfl
            have HM2 := Lib.hid hM2
            clear hc HU hM hM2 Hr bqs hmem
            go_upto_region 19 with (fail)
            refine wp_named (fun V2 hW => ?_)
            obtain ⟨hbx, hqx, -⟩ := fresh_box hW
            have HPc := Lib.hid (HP.out.below hbx)
            obtain ⟨⟨d0, d1, d2⟩, -⟩ := hqx.k3
            clear hW hbx hqx HP q0 q1 q2 q3 b0 b1 b2
            go_wp2_with fail
            refine (pwsaga_any W1.heap.size _ r _ w V2 HPc.out.bel HPc.out.wr HU5.out HATS.out (by simp only [List.length_append, List.length_cons, List.length_nil, HM.out, HM2.out]; omega)).mono ?_
            rintro e V3 ⟨rfl, hp⟩
            have HPg : Hid (Prn.Put w W2 W1.heap.size [] ([Id.wModule, x.name, Id.sSemi] ++ x.records.flatMap Prn.recW ++ x.services.flatMap Prn.svcW ++ (x.sagas.take (k + 1)).flatMap Prn.sagW) V3) := Lib.hid ((HPc.out.step hp).cast (by rw [HTK.out]; simp only [List.append_assoc, List.nil_append]))
            clear hp
            go_wp2_with fail
            go_roundw
            case rel => exact ⟨k + 1, by omega, by go_num, HPg⟩
            case measure => simp [intOf] <;> omega
        have hka : k < x.services.length := by rw [← HN2.out]; exact hlt
        have hmem := List.getElem_mem hka
        have hfl := Prn.flat_take_le Prn.svcW hka
        have HTK := Lib.hid (Prn.take_flat Prn.svcW hka)
        obtain ⟨g1, off1, cs, rfl, -, ⟨u, he, HU⟩, hc⟩ := ERow.get H2.out hka (by omega)
        obtain ⟨r, Hr⟩ : ∃ r, Hid (x.services[k] = r) := ⟨_, Lib.hid rfl⟩
        rw [Hr.out] at he HU hfl HTK
        subst he
        have HU5 := Lib.hid HU
        obtain ⟨A5, n5, c5, rfl⟩ := ERow.is HU
        have b0 := hc 0 _ rfl
        have b1 := hc 1 _ rfl
        simp only [Nat.add_zero] at b0
        have hgl1 : g1 < w.heap.size := World.block_lt_of_cell? w _ b0
        have b0 := (HP.out.bel.cell hgl1).trans b0
        have b1 := (HP.out.bel.cell hgl1).trans b1
        have bqs := HP.out.bel.size
        have hgne : ¬ g1 = V1.heap.size := by omega
        have ik1 : (k : Int) < (n2 : Int) := by omega
        generalize hM : ((x.services.take k).flatMap Prn.svcW).length = m at hfl
        have HM := Lib.hid hM
        generalize hM2 : (Prn.svcW r).length = m2 at hfl
        have HM2 := Lib.hid hM2
        clear hc HU hM hM2 Hr bqs hmem
        go_upto_region 14 with (fail)
        refine wp_named (fun V2 hW => ?_)
        obtain ⟨hbx, hqx, -⟩ := fresh_box hW
        have HPc := Lib.hid (HP.out.below hbx)
        obtain ⟨⟨d0, d1⟩, -⟩ := hqx.k2
        clear hW hbx hqx HP q0 q1 q2 q3 b0 b1
        go_wp2_with fail
        refine (pwservice_any W1.heap.size _ r _ w V2 HPc.out.bel HPc.out.wr HU5.out (by simp only [List.length_append, List.length_cons, List.length_nil, HM.out, HM2.out]; omega)).mono ?_
        rintro e V3 ⟨rfl, hp⟩
        have HPg : Hid (Prn.Put w W2 W1.heap.size [] ([Id.wModule, x.name, Id.sSemi] ++ x.records.flatMap Prn.recW ++ (x.services.take (k + 1)).flatMap Prn.svcW) V3) := Lib.hid ((HPc.out.step hp).cast (by rw [HTK.out]; simp only [List.append_assoc, List.nil_append]))
        clear hp
        go_wp2_with fail
        go_roundw
        case rel => exact ⟨k + 1, by omega, by go_num, HPg⟩
        case measure => simp [intOf] <;> omega
    have hka : k < x.records.length := by rw [← HN1.out]; exact hlt
    have hmem := List.getElem_mem hka
    have hfl := Prn.flat_take_le Prn.recW hka
    have HTK := Lib.hid (Prn.take_flat Prn.recW hka)
    obtain ⟨g1, off1, cs, rfl, -, ⟨u, he, HU⟩, hc⟩ := ERow.get H1.out hka (by omega)
    obtain ⟨r, Hr⟩ : ∃ r, Hid (x.records[k] = r) := ⟨_, Lib.hid rfl⟩
    rw [Hr.out] at he HU hfl HTK
    subst he
    have HU5 := Lib.hid HU
    obtain ⟨A5, n5, c5, rfl⟩ := ERow.is HU
    have b0 := hc 0 _ rfl
    have b1 := hc 1 _ rfl
    have b2 := hc 2 _ rfl
    simp only [Nat.add_zero] at b0
    have hgl1 : g1 < w.heap.size := World.block_lt_of_cell? w _ b0
    have b0 := (HP.out.bel.cell hgl1).trans b0
    have b1 := (HP.out.bel.cell hgl1).trans b1
    have b2 := (HP.out.bel.cell hgl1).trans b2
    have bqs := HP.out.bel.size
    have hgne : ¬ g1 = V1.heap.size := by omega
    have ik1 : (k : Int) < (n1 : Int) := by omega
    generalize hM : ((x.records.take k).flatMap Prn.recW).length = m at hfl
    have HM := Lib.hid hM
    generalize hM2 : (Prn.recW r).length = m2 at hfl
    have HM2 := Lib.hid hM2
    clear hc HU hM hM2 Hr bqs hmem
    go_upto_region 9 with (fail)
    refine wp_named (fun V2 hW => ?_)
    obtain ⟨hbx, hqx, -⟩ := fresh_box hW
    have HPc := Lib.hid (HP.out.below hbx)
    obtain ⟨⟨d0, d1, d2⟩, -⟩ := hqx.k3
    clear hW hbx hqx HP q0 q1 q2 q3 b0 b1 b2
    go_wp2_with fail
    refine (pwrecord_any W1.heap.size _ r _ w V2 HPc.out.bel HPc.out.wr HU5.out (by simp only [List.length_append, List.length_cons, List.length_nil, HM.out, HM2.out]; omega)).mono ?_
    rintro e V3 ⟨rfl, hp⟩
    have HPg : Hid (Prn.Put w W2 W1.heap.size [] ([Id.wModule, x.name, Id.sSemi] ++ (x.records.take (k + 1)).flatMap Prn.recW) V3) := Lib.hid ((HPc.out.step hp).cast (by rw [HTK.out]; simp only [List.append_assoc, List.nil_append]))
    clear hp
    go_wp2_with fail
    go_roundw
    case rel => exact ⟨k + 1, by omega, by go_num, HPg⟩
    case measure => simp [intOf] <;> omega
set_option maxRecDepth 100000 in
set_option maxHeartbeats 8000000 in
theorem pPrint_any (v : Value) (x : Id.Sch) (hF : Chk.Fine x) (w : World) (hk : Tk.KW w) (hv : Id.SchV w none v x) :
    Calls Tryd.prog 9 #[v] w fun e w' => e = .returned (.tuple #[.int .u64 (Prn.print x).1, .int .i64 (Prn.print x).2]) ∧ Below w.heap.size w w' := by
  obtain ⟨R, HR⟩ : ∃ R, Hid (Prn.print x = R) := ⟨_, Lib.hid rfl⟩
  rw [HR.out]
  have HF := Lib.hid hF
  have HKW := Lib.hid hk
  have HV := Lib.hid hv
  obtain ⟨A1, n1, c1, A2, n2, c2, A3, n3, c3, rfl, r1, r2, r3⟩ := hv
  clear r1 r2 r3 hk hF
  go_enter Tryd.func9, Tryd.ntmps9
  go_upto_region 1 with (fail)
  refine wp_named (fun V hV => ?_)
  have HL := Lib.hid (Chk.Lx.start hV)
  clear hV
  obtain ⟨⟨q0, q1, q2, q3⟩, -⟩ := HL.out.box.k4
  have hts := Prn.text_size x
  obtain ⟨p, Hp⟩ : ∃ p, Hid (Prn.text x = p) := ⟨_, Lib.hid rfl⟩
  rw [Hp.out] at hts
  go_wp2_with fail
  refine (pText_any _ x HF.out _ (HKW.out.below HL.out.bel) (Id.SchV.below HL.out.bel HV.out)).mono ?_
  rw [Hp.out]
  unfold Chk.docV
  rintro e W1 ⟨rfl, hb⟩
  have HB := Lib.hid (HL.out.bel.trans (hb.mono HL.out.bel.size))
  clear HL hb q0 q1 q2 q3
  obtain ⟨ps, pe⟩ := p
  simp only at hts ⊢
  by_cases hpe : pe = 0
  case neg =>
    have HE : Hid (R = (0, pe)) := Lib.hid (by rw [← HR.out]; unfold Prn.print; rw [Hp.out, if_pos hpe])
    have t1 : ((pe : Int) != 0) = true := by rw [bne_iff_ne]; omega
    have t2 : ¬ (pe : Int) = 0 := by omega
    have t3 : ((pe : Int) == 0) = false := by rw [beq_eq_false_iff_ne]; omega
    clear hpe
    go_wp2_with fail
    go_ret2
    exact ⟨by rw [HE.out]; rfl, HB.out⟩
  subst hpe
  have HE : Hid (R = (Sm.print ps.data.toList, 0)) := Lib.hid (by rw [← HR.out]; unfold Prn.print; rw [Hp.out, if_neg (by simp)])
  go_wp2_with fail
  refine (long_any ps (by unfold maxLen; omega) _).mono ?_
  rintro e W2 ⟨rfl, rfl⟩
  go_wp2_with fail
  go_ret2
  exact ⟨by rw [HE.out]; rfl, HB.out⟩
end Go.Proofs.YtmncppnpppdfkaaDoor
