/- CheckUndone: the walk. No condition. -/
import Derived.Test.YtnnkppeafnpdcaaDoorKC5
import Derived.Test.YtnnkppeafnpdcaaDoorChkLaw
import Derived.Test.YtnnkppeafnpdcaaDoorChkFewer
import Derived.Test.YtnnkppeafnpdcaaDoorIdlY
set_option linter.unusedVariables false
set_option linter.unusedSimpArgs false
namespace Go.Proofs.YtnnkppeafnpdcaaDoor
open Go.RowKit Go.BigFrame
namespace Chk
open Go.Proofs.YtnnkppeafnpdcaaDoor.Id
theorem eff_cases {m u : ByteArray} (h1 : u.toList = (contrary m).toList) (h2 : (contrary m).toList.isEmpty = false) :
    ∃ b : Bool, (m.toList == [110, 111, 116, 101]) = b ∧ (u.toList == [110, 111, 116, 101]) = b ∧ (b = false → (u.toList == m.toList) = false) := by
  rw [h1]
  unfold contrary at h2 ⊢
  have e1 : wGive.toList = [103, 105, 118, 101] := by decide +kernel
  have e2 : wTake.toList = [116, 97, 107, 101] := by decide +kernel
  have e3 : wNote.toList = [110, 111, 116, 101] := by decide +kernel
  rw [e1, e2, e3] at h2 ⊢
  split at h2
  · rename_i h; rw [if_pos h, h, e2]; exact ⟨false, by decide, by decide, fun _ => by decide⟩
  · rename_i hn
    split at h2
    · rename_i h; rw [if_neg hn, if_pos h, h, e1]; exact ⟨false, by decide, by decide, fun _ => by decide⟩
    · rename_i hn2
      split at h2
      · rename_i h; rw [if_neg hn, if_neg hn2, if_pos h, h, e3]; exact ⟨true, by decide, by decide, fun h => by cases h⟩
      · exact absurd h2 (by decide +kernel)
end Chk
set_option maxRecDepth 100000 in
set_option maxHeartbeats 16000000 in
theorem checkUndone_walk (v : Value) (x : Id.Sch) (w0 : World) (hv : Id.SchV w0 none v x) (w : World) (he : w = w0) (hk : Tk.KW w) :
    Calls Tryd.prog 6 #[v] w fun e w' => e = .returned (.bool true) ∧ Below w.heap.size w w' := by
  subst he
  have HV := Lib.hid hv
  have HKW := Lib.hid hk
  obtain ⟨A1, n1, c1, A2, n2, c2, A3, n3, c3, rfl, r1, r2, r3⟩ := hv
  have HN1 : Hid (n1 = x.records.length) := Lib.hid (by obtain ⟨_, _, e, _⟩ := ERow.slice r1; injection e)
  have HN3 : Hid (n3 = x.sagas.length) := Lib.hid (by obtain ⟨_, _, e, _⟩ := ERow.slice r3; injection e)
  have H1 := Lib.hid r1
  have H3 := Lib.hid r3
  clear hk r1 r2 r3
  go_enter Tryd.func6, Tryd.ntmps6
  go_upto_region 1 with (fail)
  refine wp_named (fun W0 hW0 => ?_)
  have HL := Lib.hid (Chk.Lx.start hW0)
  clear hW0
  obtain ⟨⟨q0, q1, q2, q3⟩, -⟩ := HL.out.box.k4
  go_wp2_with fail
  refine (cgreat_any _ x _ (Id.SchV.below HL.out.bel HV.out)).mono ?_
  rintro e W1 ⟨b, rfl, hb, hg⟩
  have HL1 := Lib.hid (HL.out.below hb)
  have HG := Lib.hid hg
  clear HL hb hg q0 q1 q2 q3
  have done : ∀ W, Below w.heap.size w W → Calls Tryd.prog 9 #[] W fun e w' => e = .returned (.bool true) ∧ Below w.heap.size w w' := fun W hW => (wakes13_any W (HKW.out.below hW)).mono fun _ _ ⟨h1, h2⟩ => ⟨h1, hW.trans (h2.mono hW.size)⟩
  have HDN := Lib.hid done
  clear done
  cases b
  case true =>
    go_wp2_with fail
    refine (HDN.out _ HL1.out.bel).mono ?_
    rintro e W2 ⟨rfl, hb2⟩
    go_wp2_with fail
    go_ret
    exact ⟨rfl, hb2⟩
  have HFG := Lib.hid (HG.out rfl)
  have HFi := Lib.hid HFG.out.fine
  clear HG
  obtain ⟨⟨q0, q1, q2, q3⟩, -⟩ := HL1.out.box.k4
  go_wp2_with fail
  refine (ccheck_any _ x HFi.out _ (HKW.out.below HL1.out.bel) (Id.SchV.below HL1.out.bel HV.out)).mono ?_
  rintro e W2 ⟨rfl, hb2⟩
  have HL2 := Lib.hid (HL1.out.below hb2)
  obtain ⟨R, HR⟩ : ∃ R, Hid (Chk.check x = R) := ⟨_, Lib.hid rfl⟩
  rw [HR.out]
  obtain ⟨wh, ec⟩ := R
  simp only
  clear hb2 q0 q1 q2 q3 HL1
  by_cases he0 : ec = 0
  case neg =>
    have he1 : ((ec : Int) != 0) = true := by rw [bne_iff_ne]; omega
    go_wp2_with fail
    refine (HDN.out _ HL2.out.bel).mono ?_
    rintro e W3 ⟨rfl, hb2⟩
    go_wp2_with fail
    go_ret
    exact ⟨rfl, hb2⟩
  subst he0
  have HRT : Hid (Chk.Right x) := Lib.hid (Chk.check_ok (by rw [HR.out]))
  simp only [Int.cast_ofNat_Int]
  have hn1b : n1 ≤ 100 := by rw [HN1.out]; exact HFG.out.recs
  have hn3b : n3 ≤ 100 := by rw [HN3.out]; exact HFG.out.sags
  obtain ⟨S, HSeq⟩ : ∃ S : Array Value, Hid (S = #[.string x.name, .slice A1 n1 c1, .slice A2 n2 c2, .slice A3 n3 c3]) := ⟨_, Lib.hid rfl⟩
  rw [← HSeq.out] at HL2
  go_wp2_with fail
  go_loopw [5] (fun i wr => ∃ (k : Nat), k ≤ n3 ∧ i = .int .i64 k ∧ Hid (Chk.Lx w wr S)) (fun i _ => n3 - (intOf i).toNat)
  case atStart => exact ⟨0, by omega, rfl, HL2⟩
  case round =>
    clear HL2
    obtain ⟨k, hk, rfl, HL⟩ := hrel
    obtain ⟨Wk, rfl⟩ : ∃ w', w' = wr := ⟨_, rfl⟩
    have i0 : (0 : Int) ≤ (k : Int) := by omega
    have hsq := HL.out.box
    rw [HSeq.out] at hsq
    obtain ⟨⟨q0, q1, q2, q3⟩, -⟩ := hsq.k4
    clear hsq
    by_cases hlt : k < n3
    case neg =>
      go_wp2_with fail
      clear q0 q1 q2 q3
      go_loopw [13] (fun i wr => ∃ (k : Nat), k ≤ n1 ∧ i = .int .i64 k ∧ Hid (Chk.Lx w wr S)) (fun i _ => n1 - (intOf i).toNat)
      case atStart => exact ⟨0, by omega, rfl, HL⟩
      case round =>
        clear HL i0 hk hlt
        obtain ⟨k, hk, rfl, HL⟩ := hrel
        obtain ⟨Wk, rfl⟩ : ∃ w', w' = wr := ⟨_, rfl⟩
        have i0 : (0 : Int) ≤ (k : Int) := by omega
        have hsq := HL.out.box
        rw [HSeq.out] at hsq
        obtain ⟨⟨q0, q1, q2, q3⟩, -⟩ := hsq.k4
        clear hsq
        by_cases hlt : k < n1
        case neg =>
          go_wp2_with fail
          refine (HDN.out _ HL.out.bel).mono ?_
          rintro e W3 ⟨rfl, hb2⟩
          go_wp2_with fail
          go_ret
          exact ⟨rfl, hb2⟩
        have hka : k < x.records.length := by rw [← HN1.out]; exact hlt
        obtain ⟨g, off, cs, rfl, -, he, hc⟩ := ERow.get H1.out hka (by omega)
        obtain ⟨r, Hr⟩ : ∃ r, Hid (x.records[k] = r) := ⟨_, Lib.hid rfl⟩
        have HMm : Hid (r ∈ x.records) := Lib.hid (by rw [← Hr.out]; exact List.getElem_mem _)
        rw [Hr.out] at he
        obtain ⟨rn, rc, rf⟩ := r
        obtain ⟨u, rfl, HU⟩ := he
        simp only at HU hc
        obtain ⟨A5, n5, c5, rfl⟩ := ERow.is HU
        have HU2 := Lib.hid HU
        have a0 := hc 0 _ rfl
        have a1 := hc 1 _ rfl
        have a2 := hc 2 _ rfl
        simp only [Nat.add_zero] at a0
        have hgl : g < w.heap.size := World.block_lt_of_cell? w _ a0
        have HA := Lib.hid (And.intro a0 (And.intro a1 a2))
        have i1 : (k : Int) < (n1 : Int) := by omega
        have HFd := Lib.hid (Chk.right_find HRT.out HMm.out)
        clear hc HU a0 a1 a2 Hr hka
        go_upto_region 26 with (fail)
        clear q0 q1 q2 q3
        have hsq := HL.out
        rw [HSeq.out] at hsq
        have hd : Below Wk.heap.size Wk Wk.drew := (Below.refl _ _).drew
        have hS := hsq.below hd
        refine wp_region_L_calm (fun w' => Chk.Lx w w' _) [13] (by kernel_rfl) hS (fun hHeld => ?_)
        clear hsq hd
        (refine Lst.takeZ 13 0 (v := ?_) rfl (by kernel_rfl) (by kernel_rfl) (by kernel_rfl) (by kernel_rfl) (by kernel_rfl) (by kernel_rfl) (fun _ _ _ h => h) (by assumption) (by rfl) ?_ ?_; rotate_left; · (intro w hSw; obtain ⟨e0, e1, e2, e3⟩ := (Bk.k4 hSw.box).1; go_simp; try with_reducible rfl); try simp only [Act.put, List.setIfInBounds_toArray, List.set_cons_zero, List.set_cons_succ])
        (refine wpAnyL_take0 1 (v := ?_) rfl (by kernel_rfl) (by kernel_rfl) (by kernel_rfl) (by kernel_rfl) (fun _ _ _ h => h) (fun _ => by assumption) (by rfl) ?_ ?_; rotate_left; · (intro w; go_simp; try with_reducible rfl); try simp only [Act.put, List.setIfInBounds_toArray, List.set_cons_zero, List.set_cons_succ])
        (refine Lst.takeZ 13 2 (v := ?_) rfl (by kernel_rfl) (by kernel_rfl) (by kernel_rfl) (by kernel_rfl) (by kernel_rfl) (by kernel_rfl) (fun _ _ _ h => h) (by assumption) (by rfl) ?_ ?_; rotate_left; · (intro w hSw; have e := (Bk.k4 hSw.box).1.2.1; go_simp; try with_reducible rfl); try simp only [Act.put, List.setIfInBounds_toArray, List.set_cons_zero, List.set_cons_succ])
        (refine wpAnyL_take0 3 (v := ?_) rfl (by kernel_rfl) (by kernel_rfl) (by kernel_rfl) (by kernel_rfl) (fun _ _ _ h => h) (fun _ => by assumption) (by rfl) ?_ ?_; rotate_left; · (intro w; go_simp; try with_reducible rfl); try simp only [Act.put, List.setIfInBounds_toArray, List.set_cons_zero, List.set_cons_succ])
        (refine wpAnyL_take0 4 (v := ?_) rfl (by kernel_rfl) (by kernel_rfl) (by kernel_rfl) (by kernel_rfl) (fun _ _ _ h => h) (fun _ => by assumption) (by rfl) ?_ ?_; rotate_left; · (intro w; go_simp; try with_reducible rfl); try simp only [Act.put, List.setIfInBounds_toArray, List.set_cons_zero, List.set_cons_succ])
        (refine wpAnyL_take0 5 (v := ?_) rfl (by kernel_rfl) (by kernel_rfl) (by kernel_rfl) (by kernel_rfl) (fun _ _ _ h => h) (fun _ => by assumption) (by rfl) ?_ ?_; rotate_left; · (intro w; go_simp; try with_reducible rfl); try simp only [Act.put, List.setIfInBounds_toArray, List.set_cons_zero, List.set_cons_succ])
        (refine Lst.takeZ 13 6 (v := ?_) rfl (by kernel_rfl) (by kernel_rfl) (by kernel_rfl) (by kernel_rfl) (by kernel_rfl) (by kernel_rfl) (fun _ _ _ h => h) (by assumption) (by rfl) ?_ ?_; rotate_left; · (intro w hSw; have e := (hSw.bel.cell hgl).trans HA.out.1; go_simp; try with_reducible rfl); try simp only [Act.put, List.setIfInBounds_toArray, List.set_cons_zero, List.set_cons_succ])
        refine Lst.two 7 11 (by kernel_rfl) rfl rfl (fun K hK => ?_) (fun K hK => ?_)
        ·
          go_simp
          refine (cfind_any _ x rn HFi.out.small _ (Id.SchV.below hS.bel HV.out)).mono ?_
          rintro e X ⟨u, rfl, hb, hu⟩
          rw [HFd.out] at hu ⊢
          obtain ⟨u2, rfl, hu2⟩ := hu
          obtain ⟨A6, n6, c6, rfl⟩ := ERow.is hu2
          simp only [Option.getD_some, Option.isSome_some] at hu2 ⊢
          have hu3 : Id.FldsR X none (.slice A6 n6 c6) rf := ERow.mono hu2 (fun _ _ hr => hr.weak (fun b' e => by cases e)) (fun _ _ h => Id.FldE.weak (Id.wk_none _) _ _ h)
          have hS2 := hS.below hb
          (refine hK.out _ _ (fun hnn => hS2) ?_; clear hK K; try simp only [Act.put, List.setIfInBounds_toArray, List.set_cons_zero, List.set_cons_succ])
          (refine wpAnyL_take0 8 (v := ?_) rfl (by kernel_rfl) (by kernel_rfl) (by kernel_rfl) (by kernel_rfl) (fun _ _ _ h => h) (fun _ => by assumption) (by rfl) ?_ ?_; rotate_left; · (intro w; go_simp; try with_reducible rfl); try simp only [Act.put, List.setIfInBounds_toArray, List.set_cons_zero, List.set_cons_succ])
          (refine wpAnyL_take0 9 (v := ?_) rfl (by kernel_rfl) (by kernel_rfl) (by kernel_rfl) (by kernel_rfl) (fun _ _ _ h => h) (fun _ => by assumption) (by rfl) ?_ ?_; rotate_left; · (intro w; go_simp; try with_reducible rfl); try simp only [Act.put, List.setIfInBounds_toArray, List.set_cons_zero, List.set_cons_succ])
          (refine wpAnyL_take0 10 (v := ?_) rfl (by kernel_rfl) (by kernel_rfl) (by kernel_rfl) (by kernel_rfl) (fun _ _ _ h => h) (fun _ => by assumption) (by rfl) ?_ ?_; rotate_left; · (intro w; go_simp; try with_reducible rfl); try simp only [Act.put, List.setIfInBounds_toArray, List.set_cons_zero, List.set_cons_succ])
          (refine wpAnyL_step 11 (by kernel_rfl) rfl (fun K hK => ?_))
          go_simp
          have hq := Bk.new X 34 #[.string ⟨#[]⟩, .bool false, .slice none 0 0]
          have ha : Below X.heap.size X (X.alloc (.cells #[.string ⟨#[]⟩, .bool false, .slice none 0 0] 34)) := (Below.refl _ _).alloc (Nat.le_refl _) _
          have hS3 := hS2.below ha
          (refine hK.out _ _ (fun hnn => hS3) ?_; clear hK K; try simp only [Act.put, List.setIfInBounds_toArray, List.set_cons_zero, List.set_cons_succ])
          have hlt0 : w.heap.size < X.heap.size := hS2.box.lt
          obtain ⟨⟨z0, z1, z2⟩, zf0, zf1, zf2⟩ := hq.k3
          (refine wpAnyL_step 12 (by kernel_rfl) rfl (fun K hK => ?_))
          go_simp
          have ha2 : Below X.heap.size X (X.alloc (.cells #[.string rn, .bool rc, .slice A6 n6 c6] 34)) := (Below.refl _ _).alloc (Nat.le_refl _) _
          have hq2 : Bk (X.alloc (.cells #[.string rn, .bool rc, .slice A6 n6 c6] 34)) X.heap.size 34 #[.string rn, .bool rc, .slice A6 n6 c6] := Bk.new X 34 #[.string rn, .bool rc, .slice A6 n6 c6]
          clear z0 z1 z2 zf0 zf1 zf2
          have hLf : Chk.Lx w (X.alloc (.cells #[.string rn, .bool rc, .slice A6 n6 c6] 34)) S := by
            have h := hS2
            rw [← HSeq.out] at h
            exact h.below ha2
          (refine hK.out _ _ (fun hnn => (by have h := hLf; rw [HSeq.out] at h; exact h)) ?_; clear hK K; try simp only [Act.put, List.setIfInBounds_toArray, List.set_cons_zero, List.set_cons_succ])
          have hr6 := (ERow.below hu3 ha2 (Id.FldE.below ha2) : Id.FldsR (X.alloc (.cells #[.string rn, .bool rc, .slice A6 n6 c6] 34)) none (.slice A6 n6 c6) rf)
          generalize (X.alloc (.cells #[.string rn, .bool rc, .slice A6 n6 c6] 34)) = Wf at *
          (refine wpAnyL_step 13 (by kernel_rfl) rfl (fun K hK => ?_))
          go_simp
          (refine hK.out _ _ (fun hnn => absurd hnn (by decide)) ?_; clear hK K; try simp only [Act.put, List.setIfInBounds_toArray, List.set_cons_zero, List.set_cons_succ])
          refine wpAnyL_done (by kernel_rfl) ?_ _
          refine NoPanic.normal ?_
          clear HL
          have HL := Lib.hid hLf
          have HQr := Lib.hid hq2
          have HR6 := Lib.hid hr6
          clear hr6
          clear hLf hq2 hHeld hS hS3 ha hq hb hS2 ha2
          have hsq := HL.out
          rw [HSeq.out] at hsq
          go_upto_region 27 with (fail)
          have hd : Below Wf.heap.size Wf Wf.drew := (Below.refl _ _).drew
          have hS := And.intro (hsq.below hd) (HQr.out.below hd HQr.out.lt)
          refine wp_region_L_calm (fun w' => Chk.Lx w w' _ ∧ Bk w' X.heap.size 34 _) [11] (by kernel_rfl) hS (fun hHeld => ?_)
          (refine wpAnyL_take0 0 (v := ?_) rfl (by kernel_rfl) (by kernel_rfl) (by kernel_rfl) (by kernel_rfl) (fun _ _ _ h => h) (fun _ => by assumption) (by kernel_rfl) ?_ ?_; rotate_left; · (intro w; go_simp; try with_reducible rfl); try simp only [Act.put, List.setIfInBounds_toArray, List.set_cons_zero, List.set_cons_succ])
          (refine wpAnyL_take0 1 (v := ?_) rfl (by kernel_rfl) (by kernel_rfl) (by kernel_rfl) (by kernel_rfl) (fun _ _ _ h => h) (fun _ => by assumption) (by kernel_rfl) ?_ ?_; rotate_left; · (intro w; go_simp; try with_reducible rfl); try simp only [Act.put, List.setIfInBounds_toArray, List.set_cons_zero, List.set_cons_succ])
          (refine wpAnyL_take0 2 (v := ?_) rfl (by kernel_rfl) (by kernel_rfl) (by kernel_rfl) (by kernel_rfl) (fun _ _ _ h => h) (fun _ => by assumption) (by kernel_rfl) ?_ ?_; rotate_left; · (intro w; go_simp; try with_reducible rfl); try simp only [Act.put, List.setIfInBounds_toArray, List.set_cons_zero, List.set_cons_succ])
          (refine Lst.takeZ 11 3 (v := ?_) rfl (by kernel_rfl) (by kernel_rfl) (by kernel_rfl) (by kernel_rfl) (by kernel_rfl) (by kernel_rfl) (fun _ _ _ h => h) (by assumption) (by kernel_rfl) ?_ ?_; rotate_left; · (intro w hSw; obtain ⟨e0, e1, e2⟩ := (Bk.k3 hSw.2).1; go_simp; try with_reducible rfl); try simp only [Act.put, List.setIfInBounds_toArray, List.set_cons_zero, List.set_cons_succ])
          (refine wpAnyL_take0 4 (v := ?_) rfl (by kernel_rfl) (by kernel_rfl) (by kernel_rfl) (by kernel_rfl) (fun _ _ _ h => h) (fun _ => by assumption) (by kernel_rfl) ?_ ?_; rotate_left; · (intro w; go_simp; try with_reducible rfl); try simp only [Act.put, List.setIfInBounds_toArray, List.set_cons_zero, List.set_cons_succ])
          (refine Lst.takeZ 11 5 (v := ?_) rfl (by kernel_rfl) (by kernel_rfl) (by kernel_rfl) (by kernel_rfl) (by kernel_rfl) (by kernel_rfl) (fun _ _ _ h => h) (by assumption) (by kernel_rfl) ?_ ?_; rotate_left; · (intro w hSw; have e := (Bk.k4 hSw.1.box).1.2.1; go_simp; try with_reducible rfl); try simp only [Act.put, List.setIfInBounds_toArray, List.set_cons_zero, List.set_cons_succ])
          (refine wpAnyL_take0 6 (v := ?_) rfl (by kernel_rfl) (by kernel_rfl) (by kernel_rfl) (by kernel_rfl) (fun _ _ _ h => h) (fun _ => by assumption) (by kernel_rfl) ?_ ?_; rotate_left; · (intro w; go_simp; try with_reducible rfl); try simp only [Act.put, List.setIfInBounds_toArray, List.set_cons_zero, List.set_cons_succ])
          (refine wpAnyL_take0 7 (v := ?_) rfl (by kernel_rfl) (by kernel_rfl) (by kernel_rfl) (by kernel_rfl) (fun _ _ _ h => h) (fun _ => by assumption) (by kernel_rfl) ?_ ?_; rotate_left; · (intro w; go_simp; try with_reducible rfl); try simp only [Act.put, List.setIfInBounds_toArray, List.set_cons_zero, List.set_cons_succ])
          (refine Lst.takeZ 11 8 (v := ?_) rfl (by kernel_rfl) (by kernel_rfl) (by kernel_rfl) (by kernel_rfl) (by kernel_rfl) (by kernel_rfl) (fun _ _ _ h => h) (by assumption) (by kernel_rfl) ?_ ?_; rotate_left; · (intro w hSw; have e0 := (hSw.1.bel.cell hgl).trans HA.out.1; have e1 := (hSw.1.bel.cell hgl).trans HA.out.2.1; have e2 := (hSw.1.bel.cell hgl).trans HA.out.2.2; go_simp; try with_reducible rfl); try simp only [Act.put, List.setIfInBounds_toArray, List.set_cons_zero, List.set_cons_succ])
          (refine wpAnyL_step 9 (by kernel_rfl) rfl (fun K hK => ?_))
          go_simp
          refine (samerec_any rn rn rc rc rf rf _ _ _ (ERow.below HR6.out hd (Id.FldE.below hd)) (ERow.below HU2.out hS.1.bel (Id.FldE.below hS.1.bel))).mono ?_
          rintro e Y ⟨rfl, hb⟩
          rw [Id.recEq_refl]
          have hS2 := And.intro (hS.1.below hb) (hS.2.below hb hS.2.lt)
          (refine hK.out _ _ (fun hnn => hS2) ?_; clear hK K; try simp only [Act.put, List.setIfInBounds_toArray, List.set_cons_zero, List.set_cons_succ])
          (refine wpAnyL_take0 10 (v := ?_) rfl (by kernel_rfl) (by kernel_rfl) (by kernel_rfl) (by kernel_rfl) (fun _ _ _ h => h) (fun _ => by assumption) (by kernel_rfl) ?_ ?_; rotate_left; · (intro w; go_simp; try with_reducible rfl); try simp only [Act.put, List.setIfInBounds_toArray, List.set_cons_zero, List.set_cons_succ])
          (refine wpAnyL_step 11 (by kernel_rfl) rfl (fun K hK => ?_))
          go_simp
          (refine hK.out _ _ (fun hnn => absurd hnn (by decide)) ?_; clear hK K; try simp only [Act.put, List.setIfInBounds_toArray, List.set_cons_zero, List.set_cons_succ])
          refine wpAnyL_done (by kernel_rfl) ?_ _
          refine NoPanic.normal ?_
          have hY : Chk.Lx w Y S := by have h := hS2.1; rw [← HSeq.out] at h; exact h
          have HY := Lib.hid hY
          clear hS hS2 hd hb hHeld hsq hY
          go_wp2_with fail
          go_roundw
          case rel => exact ⟨k + 1, by omega, by go_num, HY⟩
          case measure => simp [intOf]; omega
        ·
          go_simp
          have hq0 : Bk (Wk.drew.alloc (.cells #[.string ⟨#[]⟩, .bool false, .slice none 0 0] 34)) Wk.heap.size 34 #[.string ⟨#[]⟩, .bool false, .slice none 0 0] := Bk.new Wk.drew 34 #[.string ⟨#[]⟩, .bool false, .slice none 0 0]
          have ha : Below Wk.drew.heap.size Wk.drew (Wk.drew.alloc (.cells #[.string ⟨#[]⟩, .bool false, .slice none 0 0] 34)) := (Below.refl _ _).alloc (Nat.le_refl _) _
          have hS1 := hS.below ha
          (refine hK.out _ _ (fun hnn => hS1) ?_; clear hK K; try simp only [Act.put, List.setIfInBounds_toArray, List.set_cons_zero, List.set_cons_succ])
          (refine wpAnyL_step 7 (by kernel_rfl) rfl (fun K hK => ?_))
          go_simp
          refine (cfind_any _ x rn HFi.out.small _ (Id.SchV.below hS1.bel HV.out)).mono ?_
          rintro e X ⟨u, rfl, hb, hu⟩
          rw [HFd.out] at hu ⊢
          obtain ⟨u2, rfl, hu2⟩ := hu
          obtain ⟨A6, n6, c6, rfl⟩ := ERow.is hu2
          simp only [Option.getD_some, Option.isSome_some] at hu2 ⊢
          have hu3 : Id.FldsR X none (.slice A6 n6 c6) rf := ERow.mono hu2 (fun _ _ hr => hr.weak (fun b' e => by cases e)) (fun _ _ h => Id.FldE.weak (Id.wk_none _) _ _ h)
          have hS3 := hS1.below hb
          have hq := hq0.below hb hq0.lt
          have hlt0 : w.heap.size < Wk.heap.size := HL.out.box.lt
          (refine hK.out _ _ (fun hnn => hS3) ?_; clear hK K; try simp only [Act.put, List.setIfInBounds_toArray, List.set_cons_zero, List.set_cons_succ])
          (refine wpAnyL_take0 8 (v := ?_) rfl (by kernel_rfl) (by kernel_rfl) (by kernel_rfl) (by kernel_rfl) (fun _ _ _ h => h) (fun _ => by assumption) (by rfl) ?_ ?_; rotate_left; · (intro w; go_simp; try with_reducible rfl); try simp only [Act.put, List.setIfInBounds_toArray, List.set_cons_zero, List.set_cons_succ])
          (refine wpAnyL_take0 9 (v := ?_) rfl (by kernel_rfl) (by kernel_rfl) (by kernel_rfl) (by kernel_rfl) (fun _ _ _ h => h) (fun _ => by assumption) (by rfl) ?_ ?_; rotate_left; · (intro w; go_simp; try with_reducible rfl); try simp only [Act.put, List.setIfInBounds_toArray, List.set_cons_zero, List.set_cons_succ])
          (refine wpAnyL_take0 10 (v := ?_) rfl (by kernel_rfl) (by kernel_rfl) (by kernel_rfl) (by kernel_rfl) (fun _ _ _ h => h) (fun _ => by assumption) (by rfl) ?_ ?_; rotate_left; · (intro w; go_simp; try with_reducible rfl); try simp only [Act.put, List.setIfInBounds_toArray, List.set_cons_zero, List.set_cons_succ])
          obtain ⟨⟨z0, z1, z2⟩, zf0, zf1, zf2⟩ := hq.k3
          (refine wpAnyL_step 12 (by kernel_rfl) rfl (fun K hK => ?_))
          go_simp
          have hgb : X.grownBy (((X.setCell ⟨Wk.heap.size, 0, none⟩ (.string rn)).setCell ⟨Wk.heap.size, 1, none⟩ (.bool rc)).setCell ⟨Wk.heap.size, 2, none⟩ (.slice A6 n6 c6)) (some Wk.heap.size) := gb_set (p := ⟨Wk.heap.size, 2, none⟩) (gb_set (p := ⟨Wk.heap.size, 1, none⟩) (gb_set (p := ⟨Wk.heap.size, 0, none⟩) (gb_refl _ _) (.inl rfl) (.string rn)) (.inl rfl) (.bool rc)) (.inl rfl) (.slice A6 n6 c6)
          have hq2 : Bk (((X.setCell ⟨Wk.heap.size, 0, none⟩ (.string rn)).setCell ⟨Wk.heap.size, 1, none⟩ (.bool rc)).setCell ⟨Wk.heap.size, 2, none⟩ (.slice A6 n6 c6)) Wk.heap.size 34 #[.string rn, .bool rc, .slice A6 n6 c6] := (((hq.set_ 0 (.string rn)).set_ 1 (.bool rc)).set_ 2 (.slice A6 n6 c6))
          clear z0 z1 z2 zf0 zf1 zf2
          have hLf : Chk.Lx w (((X.setCell ⟨Wk.heap.size, 0, none⟩ (.string rn)).setCell ⟨Wk.heap.size, 1, none⟩ (.bool rc)).setCell ⟨Wk.heap.size, 2, none⟩ (.slice A6 n6 c6)) S := by
            have h := hS3
            rw [← HSeq.out] at h
            exact ⟨below_gb h.bel hgb (by omega) h.bel.size, h.box.grown hgb (by intro e; injection e with e; omega)⟩
          (refine hK.out _ _ (fun hnn => (by have h := hLf; rw [HSeq.out] at h; exact h)) ?_; clear hK K; try simp only [Act.put, List.setIfInBounds_toArray, List.set_cons_zero, List.set_cons_succ])
          have hr6 := (ERow.mono (ERow.kp hu2 (Kp.other hgb hq (T := [53, 55]) (by decide)) (Nat.le_refl _) (by decide) (Id.FldE.kp (Kp.other hgb hq (T := [53, 55]) (by decide)) (Nat.le_refl _) (by decide))) (fun _ _ hr => hr.weak (fun b' e => by cases e)) (fun _ _ h => Id.FldE.weak (Id.wk_none _) _ _ h) : Id.FldsR (((X.setCell ⟨Wk.heap.size, 0, none⟩ (.string rn)).setCell ⟨Wk.heap.size, 1, none⟩ (.bool rc)).setCell ⟨Wk.heap.size, 2, none⟩ (.slice A6 n6 c6)) none (.slice A6 n6 c6) rf)
          generalize (((X.setCell ⟨Wk.heap.size, 0, none⟩ (.string rn)).setCell ⟨Wk.heap.size, 1, none⟩ (.bool rc)).setCell ⟨Wk.heap.size, 2, none⟩ (.slice A6 n6 c6)) = Wf at *
          (refine wpAnyL_step 13 (by kernel_rfl) rfl (fun K hK => ?_))
          go_simp
          (refine hK.out _ _ (fun hnn => absurd hnn (by decide)) ?_; clear hK K; try simp only [Act.put, List.setIfInBounds_toArray, List.set_cons_zero, List.set_cons_succ])
          refine wpAnyL_done (by kernel_rfl) ?_ _
          refine NoPanic.normal ?_
          clear HL
          have HL := Lib.hid hLf
          have HQr := Lib.hid hq2
          have HR6 := Lib.hid hr6
          clear hr6
          clear hLf hq2 hHeld hS hS3 ha hq hb hS1 hq0 hgb
          have hsq := HL.out
          rw [HSeq.out] at hsq
          go_upto_region 27 with (fail)
          have hd : Below Wf.heap.size Wf Wf.drew := (Below.refl _ _).drew
          have hS := And.intro (hsq.below hd) (HQr.out.below hd HQr.out.lt)
          refine wp_region_L_calm (fun w' => Chk.Lx w w' _ ∧ Bk w' Wk.heap.size 34 _) [11] (by kernel_rfl) hS (fun hHeld => ?_)
          (refine wpAnyL_take0 0 (v := ?_) rfl (by kernel_rfl) (by kernel_rfl) (by kernel_rfl) (by kernel_rfl) (fun _ _ _ h => h) (fun _ => by assumption) (by kernel_rfl) ?_ ?_; rotate_left; · (intro w; go_simp; try with_reducible rfl); try simp only [Act.put, List.setIfInBounds_toArray, List.set_cons_zero, List.set_cons_succ])
          (refine wpAnyL_take0 1 (v := ?_) rfl (by kernel_rfl) (by kernel_rfl) (by kernel_rfl) (by kernel_rfl) (fun _ _ _ h => h) (fun _ => by assumption) (by kernel_rfl) ?_ ?_; rotate_left; · (intro w; go_simp; try with_reducible rfl); try simp only [Act.put, List.setIfInBounds_toArray, List.set_cons_zero, List.set_cons_succ])
          (refine wpAnyL_take0 2 (v := ?_) rfl (by kernel_rfl) (by kernel_rfl) (by kernel_rfl) (by kernel_rfl) (fun _ _ _ h => h) (fun _ => by assumption) (by kernel_rfl) ?_ ?_; rotate_left; · (intro w; go_simp; try with_reducible rfl); try simp only [Act.put, List.setIfInBounds_toArray, List.set_cons_zero, List.set_cons_succ])
          (refine Lst.takeZ 11 3 (v := ?_) rfl (by kernel_rfl) (by kernel_rfl) (by kernel_rfl) (by kernel_rfl) (by kernel_rfl) (by kernel_rfl) (fun _ _ _ h => h) (by assumption) (by kernel_rfl) ?_ ?_; rotate_left; · (intro w hSw; obtain ⟨e0, e1, e2⟩ := (Bk.k3 hSw.2).1; go_simp; try with_reducible rfl); try simp only [Act.put, List.setIfInBounds_toArray, List.set_cons_zero, List.set_cons_succ])
          (refine wpAnyL_take0 4 (v := ?_) rfl (by kernel_rfl) (by kernel_rfl) (by kernel_rfl) (by kernel_rfl) (fun _ _ _ h => h) (fun _ => by assumption) (by kernel_rfl) ?_ ?_; rotate_left; · (intro w; go_simp; try with_reducible rfl); try simp only [Act.put, List.setIfInBounds_toArray, List.set_cons_zero, List.set_cons_succ])
          (refine Lst.takeZ 11 5 (v := ?_) rfl (by kernel_rfl) (by kernel_rfl) (by kernel_rfl) (by kernel_rfl) (by kernel_rfl) (by kernel_rfl) (fun _ _ _ h => h) (by assumption) (by kernel_rfl) ?_ ?_; rotate_left; · (intro w hSw; have e := (Bk.k4 hSw.1.box).1.2.1; go_simp; try with_reducible rfl); try simp only [Act.put, List.setIfInBounds_toArray, List.set_cons_zero, List.set_cons_succ])
          (refine wpAnyL_take0 6 (v := ?_) rfl (by kernel_rfl) (by kernel_rfl) (by kernel_rfl) (by kernel_rfl) (fun _ _ _ h => h) (fun _ => by assumption) (by kernel_rfl) ?_ ?_; rotate_left; · (intro w; go_simp; try with_reducible rfl); try simp only [Act.put, List.setIfInBounds_toArray, List.set_cons_zero, List.set_cons_succ])
          (refine wpAnyL_take0 7 (v := ?_) rfl (by kernel_rfl) (by kernel_rfl) (by kernel_rfl) (by kernel_rfl) (fun _ _ _ h => h) (fun _ => by assumption) (by kernel_rfl) ?_ ?_; rotate_left; · (intro w; go_simp; try with_reducible rfl); try simp only [Act.put, List.setIfInBounds_toArray, List.set_cons_zero, List.set_cons_succ])
          (refine Lst.takeZ 11 8 (v := ?_) rfl (by kernel_rfl) (by kernel_rfl) (by kernel_rfl) (by kernel_rfl) (by kernel_rfl) (by kernel_rfl) (fun _ _ _ h => h) (by assumption) (by kernel_rfl) ?_ ?_; rotate_left; · (intro w hSw; have e0 := (hSw.1.bel.cell hgl).trans HA.out.1; have e1 := (hSw.1.bel.cell hgl).trans HA.out.2.1; have e2 := (hSw.1.bel.cell hgl).trans HA.out.2.2; go_simp; try with_reducible rfl); try simp only [Act.put, List.setIfInBounds_toArray, List.set_cons_zero, List.set_cons_succ])
          (refine wpAnyL_step 9 (by kernel_rfl) rfl (fun K hK => ?_))
          go_simp
          refine (samerec_any rn rn rc rc rf rf _ _ _ (ERow.below HR6.out hd (Id.FldE.below hd)) (ERow.below HU2.out hS.1.bel (Id.FldE.below hS.1.bel))).mono ?_
          rintro e Y ⟨rfl, hb⟩
          rw [Id.recEq_refl]
          have hS2 := And.intro (hS.1.below hb) (hS.2.below hb hS.2.lt)
          (refine hK.out _ _ (fun hnn => hS2) ?_; clear hK K; try simp only [Act.put, List.setIfInBounds_toArray, List.set_cons_zero, List.set_cons_succ])
          (refine wpAnyL_take0 10 (v := ?_) rfl (by kernel_rfl) (by kernel_rfl) (by kernel_rfl) (by kernel_rfl) (fun _ _ _ h => h) (fun _ => by assumption) (by kernel_rfl) ?_ ?_; rotate_left; · (intro w; go_simp; try with_reducible rfl); try simp only [Act.put, List.setIfInBounds_toArray, List.set_cons_zero, List.set_cons_succ])
          (refine wpAnyL_step 11 (by kernel_rfl) rfl (fun K hK => ?_))
          go_simp
          (refine hK.out _ _ (fun hnn => absurd hnn (by decide)) ?_; clear hK K; try simp only [Act.put, List.setIfInBounds_toArray, List.set_cons_zero, List.set_cons_succ])
          refine wpAnyL_done (by kernel_rfl) ?_ _
          refine NoPanic.normal ?_
          have hY : Chk.Lx w Y S := by have h := hS2.1; rw [← HSeq.out] at h; exact h
          have HY := Lib.hid hY
          clear hS hS2 hd hb hHeld hsq hY
          go_wp2_with fail
          go_roundw
          case rel => exact ⟨k + 1, by omega, by go_num, HY⟩
          case measure => simp [intOf]; omega
    have hka : k < x.sagas.length := by rw [← HN3.out]; exact hlt
    obtain ⟨g, off, cs, rfl, -, he, hc⟩ := ERow.get H3.out hka (by omega)
    obtain ⟨r, Hr⟩ : ∃ r, Hid (x.sagas[k] = r) := ⟨_, Lib.hid rfl⟩
    have HMm : Hid (r ∈ x.sagas) := Lib.hid (by rw [← Hr.out]; exact List.getElem_mem _)
    rw [Hr.out] at he
    obtain ⟨gn, ga, gs⟩ := r
    obtain ⟨u, rfl, HU⟩ := he
    simp only at HU hc
    obtain ⟨A5, n5, c5, rfl⟩ := ERow.is HU
    have HU2 := Lib.hid HU
    have HN5 : Hid (n5 = gs.length) := Lib.hid (by obtain ⟨_, _, e, _⟩ := ERow.slice HU; injection e)
    have hm5 : n5 ≤ 9223372036854775807 := by obtain ⟨_, _, e, _, _⟩ := ERow.slice HU; injection e; omega
    have hB := HL.out.bel
    have a0 := hc 0 _ rfl
    have a1 := hc 1 _ rfl
    have a2 := hc 2 _ rfl
    simp only [Nat.add_zero] at a0
    have hgl : g < w.heap.size := World.block_lt_of_cell? w _ a0
    have a0 := (hB.cell hgl).trans a0
    have a1 := (hB.cell hgl).trans a1
    have a2 := (hB.cell hgl).trans a2
    have i1 : (k : Int) < (n3 : Int) := by omega
    have hbw := hB.size
    have hgw : ¬ g = Wk.heap.size := by omega
    have HFd := Lib.hid (Chk.right_saga HRT.out HMm.out)
    clear hc HU Hr hka hB hbw
    go_upto_region 10 with (fail)
    refine wp_named (fun V hV => ?_)
    obtain ⟨hbV, hqV, -⟩ := fresh_box hV
    clear hV a0 a1 a2 q0 q1 q2 q3
    have HLx := Lib.hid (HL.out.below hbV)
    clear HL
    have HL := HLx
    clear HLx
    have HQs := Lib.hid hqV
    clear hqV hbV
    have hsq := HL.out.box
    rw [HSeq.out] at hsq
    obtain ⟨⟨q0, q1, q2, q3⟩, -⟩ := hsq.k4
    clear hsq
    obtain ⟨⟨b0, b1, b2⟩, -⟩ := HQs.out.k3
    go_wp2_with fail
    refine (csaga_any _ x gn (fun g hg => Nat.le_trans (HFi.out.sa g hg).2.1 (by decide)) _ (Id.SchV.below HL.out.bel HV.out)).mono ?_
    rintro e X ⟨u, rfl, hb, hu⟩
    rw [HFd.out] at hu ⊢
    obtain ⟨u2, rfl, hu2⟩ := hu
    obtain ⟨A6, n6, c6, rfl⟩ := ERow.is hu2
    simp only [Option.getD_some, Option.isSome_some] at hu2 ⊢
    have HR6 : Hid (ERow X none 50 3 Id.StpE (.slice A6 n6 c6) gs) := Lib.hid (ERow.mono hu2 (fun _ _ hr => hr.weak (fun b' e => by cases e)) (fun _ _ h => h))
    have HLx := Lib.hid (HL.out.below hb)
    have HQx := Lib.hid (HQs.out.below hb HQs.out.lt)
    clear HL HQs hb hu2 b0 b1 b2 q0 q1 q2 q3
    have HL := HLx
    have HQs := HQx
    clear HLx HQx
    go_upto_region 11 with (fail)
    refine wp_named (fun V2 hV => ?_)
    obtain ⟨hbV, hqV, -⟩ := fresh_box hV
    clear hV
    have HLx := Lib.hid (HL.out.below hbV)
    have HQx := Lib.hid (HQs.out.below hbV HQs.out.lt)
    have HRx : Hid (ERow V2 none 50 3 Id.StpE (.slice A6 n6 c6) gs) := Lib.hid (ERow.below HR6.out hbV Id.StpE.kp)
    clear HL HQs HR6 hbV
    have HL := HLx
    have HQs := HQx
    have HR6 := HRx
    clear HLx HQx HRx
    obtain ⟨⟨b0, b1, b2⟩, -⟩ := HQs.out.k3
    obtain ⟨⟨d0, d1, d2⟩, -⟩ := hqV.k3
    clear hqV
    go_wp2_with fail
    refine (samesag_any gn ga gn ga gs gs _ _ _ (ERow.below HU2.out HL.out.bel Id.StpE.kp) HR6.out).mono ?_
    rintro e X2 ⟨rfl, hb⟩
    rw [Id.sagEq_refl]
    have HLx := Lib.hid (HL.out.below hb)
    have HQx := Lib.hid (HQs.out.below hb HQs.out.lt)
    clear HL HQs hb b0 b1 b2 d0 d1 d2
    have HL := HLx
    have HQs := HQx
    clear HLx HQx
    go_wp2_with fail
    obtain ⟨S1, HS1⟩ : ∃ S1 : Array Value, Hid (S1 = #[.string gn, .string ga, .slice A5 n5 c5]) := ⟨_, Lib.hid rfl⟩
    rw [← HS1.out] at HQs
    go_loopw [9] (fun i wr => ∃ (j : Nat), j ≤ n5 ∧ i = .int .i64 j ∧ Hid (Chk.Lx w wr S) ∧ Hid (Bk wr Wk.heap.size 43 S1)) (fun i _ => n5 - (intOf i).toNat)
    case atStart => exact ⟨0, by omega, rfl, HL, HQs⟩
    case round =>
      clear HL HQs
      obtain ⟨j, hj, rfl, HL, HQs⟩ := hrel
      obtain ⟨Wj, rfl⟩ : ∃ w', w' = wr := ⟨_, rfl⟩
      have j0 : (0 : Int) ≤ (j : Int) := by omega
      have hsq1 := HQs.out
      rw [HS1.out] at hsq1
      obtain ⟨⟨b0, b1, b2⟩, -⟩ := hsq1.k3
      clear hsq1
      by_cases hlj : j < n5
      case neg =>
        go_wp2_with fail
        go_roundw
        case rel => exact ⟨k + 1, by omega, by go_num, HL⟩
        case measure => simp [intOf]; omega
      have hja : j < gs.length := by rw [← HN5.out]; exact hlj
      have j1 : (j : Int) < (n5 : Int) := by omega
      obtain ⟨r2, Hr2⟩ : ∃ r2, Hid (gs[j] = r2) := ⟨_, Lib.hid rfl⟩
      have HRS := Lib.hid (Chk.right_step HRT.out HMm.out hja)
      simp only at HRS
      rw [Hr2.out] at HRS
      obtain ⟨g2, off2, cs2, rfl, -, he2, hc2⟩ := ERow.get HU2.out hja (by omega)
      rw [Hr2.out] at he2
      obtain ⟨p0, p1, p2⟩ := r2
      replace he2 : cs2 = [.string p0, .string p1, .int .i64 p2] := he2
      subst he2
      obtain ⟨m, hmm, hma, hmu⟩ := HRS.out
      obtain ⟨m0, m1, m2, m3, m4⟩ := m
      simp only at hmm hma hmu
      have HMt := Lib.hid hmm
      have HMa : (m1.toList == ga.toList) = true := by rw [beq_iff_eq]; exact hma
      have HMu := Lib.hid hmu
      clear hmm hma hmu HRS Hr2
      have c0 := hc2 0 _ rfl
      have c1 := hc2 1 _ rfl
      simp only [Nat.add_zero] at c0
      have hgl2 : g2 < w.heap.size := World.block_lt_of_cell? w _ c0
      have HC := Lib.hid (And.intro c0 c1)
      clear hc2 c0 c1
      have HQt := HQs.out
      rw [HS1.out] at HQt
      replace HQt := Lib.hid HQt
      clear HQs
      go_upto_region 16 with (fail)
      clear b0 b1 b2
      have hsq := HL.out
      rw [HSeq.out] at hsq
      have hd : Below Wj.heap.size Wj Wj.drew := (Below.refl _ _).drew
      have hS := And.intro (hsq.below hd) (HQt.out.below hd HQt.out.lt)
      refine wp_region_L_calm (fun w' => Chk.Lx w w' _ ∧ Bk w' Wk.heap.size 43 _) [19] (by kernel_rfl) hS (fun hHeld => ?_)
      clear hsq hd
      (refine Lst.takeZ 19 0 (v := ?_) rfl (by kernel_rfl) (by kernel_rfl) (by kernel_rfl) (by kernel_rfl) (by kernel_rfl) (by kernel_rfl) (fun _ _ _ h => h) (by assumption) (by rfl) ?_ ?_; rotate_left; · (intro w hSw; obtain ⟨e0, e1, e2, e3⟩ := (Bk.k4 hSw.1.box).1; go_simp; try with_reducible rfl); try simp only [Act.put, List.setIfInBounds_toArray, List.set_cons_zero, List.set_cons_succ])
      (refine wpAnyL_take0 1 (v := ?_) rfl (by kernel_rfl) (by kernel_rfl) (by kernel_rfl) (by kernel_rfl) (fun _ _ _ h => h) (fun _ => by assumption) (by rfl) ?_ ?_; rotate_left; · (intro w; go_simp; try with_reducible rfl); try simp only [Act.put, List.setIfInBounds_toArray, List.set_cons_zero, List.set_cons_succ])
      (refine Lst.takeZ 19 2 (v := ?_) rfl (by kernel_rfl) (by kernel_rfl) (by kernel_rfl) (by kernel_rfl) (by kernel_rfl) (by kernel_rfl) (fun _ _ _ h => h) (by assumption) (by rfl) ?_ ?_; rotate_left; · (intro w hSw; have e := (Bk.k3 hSw.2).1.2.2; go_simp; try with_reducible rfl); try simp only [Act.put, List.setIfInBounds_toArray, List.set_cons_zero, List.set_cons_succ])
      (refine wpAnyL_take0 3 (v := ?_) rfl (by kernel_rfl) (by kernel_rfl) (by kernel_rfl) (by kernel_rfl) (fun _ _ _ h => h) (fun _ => by assumption) (by rfl) ?_ ?_; rotate_left; · (intro w; go_simp; try with_reducible rfl); try simp only [Act.put, List.setIfInBounds_toArray, List.set_cons_zero, List.set_cons_succ])
      (refine wpAnyL_take0 4 (v := ?_) rfl (by kernel_rfl) (by kernel_rfl) (by kernel_rfl) (by kernel_rfl) (fun _ _ _ h => h) (fun _ => by assumption) (by rfl) ?_ ?_; rotate_left; · (intro w; go_simp; try with_reducible rfl); try simp only [Act.put, List.setIfInBounds_toArray, List.set_cons_zero, List.set_cons_succ])
      (refine wpAnyL_take0 5 (v := ?_) rfl (by kernel_rfl) (by kernel_rfl) (by kernel_rfl) (by kernel_rfl) (fun _ _ _ h => h) (fun _ => by assumption) (by rfl) ?_ ?_; rotate_left; · (intro w; go_simp; try with_reducible rfl); try simp only [Act.put, List.setIfInBounds_toArray, List.set_cons_zero, List.set_cons_succ])
      (refine Lst.takeZ 19 6 (v := ?_) rfl (by kernel_rfl) (by kernel_rfl) (by kernel_rfl) (by kernel_rfl) (by kernel_rfl) (by kernel_rfl) (fun _ _ _ h => h) (by assumption) (by rfl) ?_ ?_; rotate_left; · (intro w hSw; have e := (hSw.1.bel.cell hgl2).trans HC.out.1; go_simp; try with_reducible rfl); try simp only [Act.put, List.setIfInBounds_toArray, List.set_cons_zero, List.set_cons_succ])
      (refine wpAnyL_take0 7 (v := ?_) rfl (by kernel_rfl) (by kernel_rfl) (by kernel_rfl) (by kernel_rfl) (fun _ _ _ h => h) (fun _ => by assumption) (by rfl) ?_ ?_; rotate_left; · (intro w; go_simp; try with_reducible rfl); try simp only [Act.put, List.setIfInBounds_toArray, List.set_cons_zero, List.set_cons_succ])
      (refine Lst.takeZ 19 8 (v := ?_) rfl (by kernel_rfl) (by kernel_rfl) (by kernel_rfl) (by kernel_rfl) (by kernel_rfl) (by kernel_rfl) (fun _ _ _ h => h) (by assumption) (by rfl) ?_ ?_; rotate_left; · (intro w hSw; have e := (Bk.k3 hSw.2).1.2.2; go_simp; try with_reducible rfl); try simp only [Act.put, List.setIfInBounds_toArray, List.set_cons_zero, List.set_cons_succ])
      (refine wpAnyL_take0 9 (v := ?_) rfl (by kernel_rfl) (by kernel_rfl) (by kernel_rfl) (by kernel_rfl) (fun _ _ _ h => h) (fun _ => by assumption) (by rfl) ?_ ?_; rotate_left; · (intro w; go_simp; try with_reducible rfl); try simp only [Act.put, List.setIfInBounds_toArray, List.set_cons_zero, List.set_cons_succ])
      (refine wpAnyL_take0 10 (v := ?_) rfl (by kernel_rfl) (by kernel_rfl) (by kernel_rfl) (by kernel_rfl) (fun _ _ _ h => h) (fun _ => by assumption) (by rfl) ?_ ?_; rotate_left; · (intro w; go_simp; try with_reducible rfl); try simp only [Act.put, List.setIfInBounds_toArray, List.set_cons_zero, List.set_cons_succ])
      (refine wpAnyL_take0 11 (v := ?_) rfl (by kernel_rfl) (by kernel_rfl) (by kernel_rfl) (by kernel_rfl) (fun _ _ _ h => h) (fun _ => by assumption) (by rfl) ?_ ?_; rotate_left; · (intro w; go_simp; try with_reducible rfl); try simp only [Act.put, List.setIfInBounds_toArray, List.set_cons_zero, List.set_cons_succ])
      (refine Lst.takeZ 19 12 (v := ?_) rfl (by kernel_rfl) (by kernel_rfl) (by kernel_rfl) (by kernel_rfl) (by kernel_rfl) (by kernel_rfl) (fun _ _ _ h => h) (by assumption) (by rfl) ?_ ?_; rotate_left; · (intro w hSw; have e := (hSw.1.bel.cell hgl2).trans HC.out.2; go_simp; try with_reducible rfl); try simp only [Act.put, List.setIfInBounds_toArray, List.set_cons_zero, List.set_cons_succ])
      refine Lst.two 13 17 (by kernel_rfl) rfl rfl (fun K hK => ?_) (fun K hK => ?_)
      ·
        go_simp
        refine (cmethod_any _ x p0 p1 _ (Id.SchV.below hS.1.bel HV.out)).mono ?_
        rintro e X ⟨rfl, hb⟩
        rw [HMt.out]
        simp only [Option.getD_some, Option.isSome_some, Chk.mthV]
        have hS2 := And.intro (hS.1.below hb) (hS.2.below hb hS.2.lt)
        (refine hK.out _ _ (fun hnn => hS2) ?_; clear hK K; try simp only [Act.put, List.setIfInBounds_toArray, List.set_cons_zero, List.set_cons_succ])
        (refine wpAnyL_take0 14 (v := ?_) rfl (by kernel_rfl) (by kernel_rfl) (by kernel_rfl) (by kernel_rfl) (fun _ _ _ h => h) (fun _ => by assumption) (by rfl) ?_ ?_; rotate_left; · (intro w; go_simp; try with_reducible rfl); try simp only [Act.put, List.setIfInBounds_toArray, List.set_cons_zero, List.set_cons_succ])
        (refine wpAnyL_take0 15 (v := ?_) rfl (by kernel_rfl) (by kernel_rfl) (by kernel_rfl) (by kernel_rfl) (fun _ _ _ h => h) (fun _ => by assumption) (by rfl) ?_ ?_; rotate_left; · (intro w; go_simp; try with_reducible rfl); try simp only [Act.put, List.setIfInBounds_toArray, List.set_cons_zero, List.set_cons_succ])
        (refine wpAnyL_take0 16 (v := ?_) rfl (by kernel_rfl) (by kernel_rfl) (by kernel_rfl) (by kernel_rfl) (fun _ _ _ h => h) (fun _ => by assumption) (by rfl) ?_ ?_; rotate_left; · (intro w; go_simp; try with_reducible rfl); try simp only [Act.put, List.setIfInBounds_toArray, List.set_cons_zero, List.set_cons_succ])
        (refine wpAnyL_step 17 (by kernel_rfl) rfl (fun K hK => ?_))
        go_simp
        have hq := Bk.new X 38 #[.string ⟨#[]⟩, .string ⟨#[]⟩, .int .u8 0, .string ⟨#[]⟩, .string ⟨#[]⟩]
        have ha : Below X.heap.size X (X.alloc (.cells #[.string ⟨#[]⟩, .string ⟨#[]⟩, .int .u8 0, .string ⟨#[]⟩, .string ⟨#[]⟩] 38)) := (Below.refl _ _).alloc (Nat.le_refl _) _
        have hS3 := And.intro (hS2.1.below ha) (hS2.2.below ha hS2.2.lt)
        (refine hK.out _ _ (fun hnn => hS3) ?_; clear hK K; try simp only [Act.put, List.setIfInBounds_toArray, List.set_cons_zero, List.set_cons_succ])
        have hlt0 : w.heap.size < X.heap.size := hS2.1.box.lt
        obtain ⟨⟨z0, z1, z2, z3, z4⟩, zf0, zf1, zf2, zf3, zf4⟩ := hq.k5
        (refine wpAnyL_step 18 (by kernel_rfl) rfl (fun K hK => ?_))
        go_simp
        have ha2 : Below X.heap.size X (X.alloc (.cells #[.string m0, .string m1, .int .u8 m2, .string m3, .string m4] 38)) := (Below.refl _ _).alloc (Nat.le_refl _) _
        have hq2 : Bk (X.alloc (.cells #[.string m0, .string m1, .int .u8 m2, .string m3, .string m4] 38)) X.heap.size 38 #[.string m0, .string m1, .int .u8 m2, .string m3, .string m4] := Bk.new X 38 #[.string m0, .string m1, .int .u8 m2, .string m3, .string m4]
        clear z0 z1 z2 z3 z4 zf0 zf1 zf2 zf3 zf4
        have hLf : Chk.Lx w (X.alloc (.cells #[.string m0, .string m1, .int .u8 m2, .string m3, .string m4] 38)) S := by
          have h := hS2.1
          rw [← HSeq.out] at h
          exact h.below ha2
        have hBf0 : Bk (X.alloc (.cells #[.string m0, .string m1, .int .u8 m2, .string m3, .string m4] 38)) Wk.heap.size 43 #[.string gn, .string ga, .slice (some ⟨g2, off2, none⟩) n5 c5] := hS2.2.below ha2 hS2.2.lt
        (refine hK.out _ _ (fun hnn => ⟨by have h := hLf; rw [HSeq.out] at h; exact h, hBf0⟩) ?_; clear hK K; try simp only [Act.put, List.setIfInBounds_toArray, List.set_cons_zero, List.set_cons_succ])
        generalize (X.alloc (.cells #[.string m0, .string m1, .int .u8 m2, .string m3, .string m4] 38)) = Wf at *
        (refine wpAnyL_step 19 (by kernel_rfl) rfl (fun K hK => ?_))
        go_simp
        (refine hK.out _ _ (fun hnn => absurd hnn (by decide)) ?_; clear hK K; try simp only [Act.put, List.setIfInBounds_toArray, List.set_cons_zero, List.set_cons_succ])
        refine wpAnyL_done (by kernel_rfl) ?_ _
        refine NoPanic.normal ?_
        clear HL
        have HL := Lib.hid hLf
        clear HQt
        have HQt := Lib.hid hBf0
        have HQm := Lib.hid hq2
        clear hLf hq2 hHeld hS hS3 ha hq hb hS2 ha2
        generalize hbm : X.heap.size = bm at *
        clear hbm
        obtain ⟨Wm, rfl⟩ : ∃ w', w' = Wf := ⟨_, rfl⟩
        obtain ⟨⟨d0, d1, d2, d3, d4⟩, -⟩ := HQm.out.k5
        obtain ⟨⟨b0, b1, b2⟩, -⟩ := HQt.out.k3
        have hsq := HL.out.box
        rw [HSeq.out] at hsq
        obtain ⟨⟨q0, q1, q2, q3⟩, -⟩ := hsq.k4
        clear hsq
        have HQb : Hid (Bk Wm Wk.heap.size 43 S1) := Lib.hid (by rw [HS1.out]; exact HQt.out)
        have hwr : IntKind.i64.wrap ((n5 : Int) - 1) = (n5 : Int) - 1 := IntWalk.i64_in _ (by omega)
        by_cases hlast : j + 1 = n5
        case pos =>
          have hej : ((j : Int) == (n5 : Int) - 1) = true := by rw [beq_iff_eq]; omega
          go_wp2_with fail
          go_roundw
          case rel => exact ⟨j + 1, by omega, by go_num, HL, HQb⟩
          case measure => simp [intOf]; omega
        have hej : ((j : Int) == (n5 : Int) - 1) = false := by rw [beq_eq_false_iff_ne]; omega
        obtain ⟨u, hum, hua, huu, hue, huc⟩ := HMu.out (by rw [← HN5.out]; omega)
        obtain ⟨u0, u1, u2, u3, u4⟩ := u
        simp only at hum hua huu hue huc
        have HUt := Lib.hid hum
        have HUa : (u1.toList == m1.toList) = true := by rw [beq_iff_eq]; exact hua
        have HUe : u4.toList.isEmpty = true := huu
        have HEF := Lib.hid (Chk.eff_cases hue huc)
        clear hum hua hue huc huu HQb
        go_upto_region 20 with (fail)
        clear d0 d1 d2 d3 d4 b0 b1 b2 q0 q1 q2 q3
        have hsq := HL.out
        rw [HSeq.out] at hsq
        have hd : Below Wm.heap.size Wm Wm.drew := (Below.refl _ _).drew
        have hS := And.intro (hsq.below hd) (And.intro (HQt.out.below hd HQt.out.lt) (HQm.out.below hd HQm.out.lt))
        refine wp_region_L_calm (fun w' => Chk.Lx w w' _ ∧ Bk w' Wk.heap.size 43 _ ∧ Bk w' bm 38 _) [15] (by kernel_rfl) hS (fun hHeld => ?_)
        clear hsq hd
        (refine Lst.takeZ 15 0 (v := ?_) rfl (by kernel_rfl) (by kernel_rfl) (by kernel_rfl) (by kernel_rfl) (by kernel_rfl) (by kernel_rfl) (fun _ _ _ h => h) (by assumption) (by rfl) ?_ ?_; rotate_left; · (intro w hSw; obtain ⟨e0, e1, e2, e3⟩ := (Bk.k4 hSw.1.box).1; go_simp; try with_reducible rfl); try simp only [Act.put, List.setIfInBounds_toArray, List.set_cons_zero, List.set_cons_succ])
        (refine wpAnyL_take0 1 (v := ?_) rfl (by kernel_rfl) (by kernel_rfl) (by kernel_rfl) (by kernel_rfl) (fun _ _ _ h => h) (fun _ => by assumption) (by rfl) ?_ ?_; rotate_left; · (intro w; go_simp; try with_reducible rfl); try simp only [Act.put, List.setIfInBounds_toArray, List.set_cons_zero, List.set_cons_succ])
        (refine Lst.takeZ 15 2 (v := ?_) rfl (by kernel_rfl) (by kernel_rfl) (by kernel_rfl) (by kernel_rfl) (by kernel_rfl) (by kernel_rfl) (fun _ _ _ h => h) (by assumption) (by rfl) ?_ ?_; rotate_left; · (intro w hSw; have e := (Bk.k3 hSw.2.1).1.2.2; go_simp; try with_reducible rfl); try simp only [Act.put, List.setIfInBounds_toArray, List.set_cons_zero, List.set_cons_succ])
        (refine wpAnyL_take0 3 (v := ?_) rfl (by kernel_rfl) (by kernel_rfl) (by kernel_rfl) (by kernel_rfl) (fun _ _ _ h => h) (fun _ => by assumption) (by rfl) ?_ ?_; rotate_left; · (intro w; go_simp; try with_reducible rfl); try simp only [Act.put, List.setIfInBounds_toArray, List.set_cons_zero, List.set_cons_succ])
        (refine wpAnyL_take0 4 (v := ?_) rfl (by kernel_rfl) (by kernel_rfl) (by kernel_rfl) (by kernel_rfl) (fun _ _ _ h => h) (fun _ => by assumption) (by rfl) ?_ ?_; rotate_left; · (intro w; go_simp; try with_reducible rfl); try simp only [Act.put, List.setIfInBounds_toArray, List.set_cons_zero, List.set_cons_succ])
        (refine wpAnyL_take0 5 (v := ?_) rfl (by kernel_rfl) (by kernel_rfl) (by kernel_rfl) (by kernel_rfl) (fun _ _ _ h => h) (fun _ => by assumption) (by rfl) ?_ ?_; rotate_left; · (intro w; go_simp; try with_reducible rfl); try simp only [Act.put, List.setIfInBounds_toArray, List.set_cons_zero, List.set_cons_succ])
        (refine Lst.takeZ 15 6 (v := ?_) rfl (by kernel_rfl) (by kernel_rfl) (by kernel_rfl) (by kernel_rfl) (by kernel_rfl) (by kernel_rfl) (fun _ _ _ h => h) (by assumption) (by rfl) ?_ ?_; rotate_left; · (intro w hSw; have e := (hSw.1.bel.cell hgl2).trans HC.out.1; go_simp; try with_reducible rfl); try simp only [Act.put, List.setIfInBounds_toArray, List.set_cons_zero, List.set_cons_succ])
        (refine wpAnyL_take0 7 (v := ?_) rfl (by kernel_rfl) (by kernel_rfl) (by kernel_rfl) (by kernel_rfl) (fun _ _ _ h => h) (fun _ => by assumption) (by rfl) ?_ ?_; rotate_left; · (intro w; go_simp; try with_reducible rfl); try simp only [Act.put, List.setIfInBounds_toArray, List.set_cons_zero, List.set_cons_succ])
        (refine Lst.takeZ 15 8 (v := ?_) rfl (by kernel_rfl) (by kernel_rfl) (by kernel_rfl) (by kernel_rfl) (by kernel_rfl) (by kernel_rfl) (fun _ _ _ h => h) (by assumption) (by rfl) ?_ ?_; rotate_left; · (intro w hSw; have e := (Bk.k5 hSw.2.2).1.2.2.2.2; go_simp; try with_reducible rfl); try simp only [Act.put, List.setIfInBounds_toArray, List.set_cons_zero, List.set_cons_succ])
        refine Lst.two 9 13 (by kernel_rfl) rfl rfl (fun K hK => ?_) (fun K hK => ?_)
        ·
          go_simp
          refine (cmethod_any _ x p0 m4 _ (Id.SchV.below hS.1.bel HV.out)).mono ?_
          rintro e X ⟨rfl, hb⟩
          rw [HUt.out]
          simp only [Option.getD_some, Option.isSome_some, Chk.mthV]
          have hS2 := And.intro (hS.1.below hb) (And.intro (hS.2.1.below hb hS.2.1.lt) (hS.2.2.below hb hS.2.2.lt))
          (refine hK.out _ _ (fun hnn => hS2) ?_; clear hK K; try simp only [Act.put, List.setIfInBounds_toArray, List.set_cons_zero, List.set_cons_succ])
          (refine wpAnyL_take0 10 (v := ?_) rfl (by kernel_rfl) (by kernel_rfl) (by kernel_rfl) (by kernel_rfl) (fun _ _ _ h => h) (fun _ => by assumption) (by rfl) ?_ ?_; rotate_left; · (intro w; go_simp; try with_reducible rfl); try simp only [Act.put, List.setIfInBounds_toArray, List.set_cons_zero, List.set_cons_succ])
          (refine wpAnyL_take0 11 (v := ?_) rfl (by kernel_rfl) (by kernel_rfl) (by kernel_rfl) (by kernel_rfl) (fun _ _ _ h => h) (fun _ => by assumption) (by rfl) ?_ ?_; rotate_left; · (intro w; go_simp; try with_reducible rfl); try simp only [Act.put, List.setIfInBounds_toArray, List.set_cons_zero, List.set_cons_succ])
          (refine wpAnyL_take0 12 (v := ?_) rfl (by kernel_rfl) (by kernel_rfl) (by kernel_rfl) (by kernel_rfl) (fun _ _ _ h => h) (fun _ => by assumption) (by rfl) ?_ ?_; rotate_left; · (intro w; go_simp; try with_reducible rfl); try simp only [Act.put, List.setIfInBounds_toArray, List.set_cons_zero, List.set_cons_succ])
          (refine wpAnyL_step 13 (by kernel_rfl) rfl (fun K hK => ?_))
          go_simp
          have hq := Bk.new X 38 #[.string ⟨#[]⟩, .string ⟨#[]⟩, .int .u8 0, .string ⟨#[]⟩, .string ⟨#[]⟩]
          have ha : Below X.heap.size X (X.alloc (.cells #[.string ⟨#[]⟩, .string ⟨#[]⟩, .int .u8 0, .string ⟨#[]⟩, .string ⟨#[]⟩] 38)) := (Below.refl _ _).alloc (Nat.le_refl _) _
          have hS3 := And.intro (hS2.1.below ha) (And.intro (hS2.2.1.below ha hS2.2.1.lt) (hS2.2.2.below ha hS2.2.2.lt))
          (refine hK.out _ _ (fun hnn => hS3) ?_; clear hK K; try simp only [Act.put, List.setIfInBounds_toArray, List.set_cons_zero, List.set_cons_succ])
          have hlt0 : w.heap.size < X.heap.size := hS2.1.box.lt
          obtain ⟨⟨z0, z1, z2, z3, z4⟩, zf0, zf1, zf2, zf3, zf4⟩ := hq.k5
          (refine wpAnyL_step 14 (by kernel_rfl) rfl (fun K hK => ?_))
          go_simp
          have ha2 : Below X.heap.size X (X.alloc (.cells #[.string u0, .string u1, .int .u8 u2, .string u3, .string u4] 38)) := (Below.refl _ _).alloc (Nat.le_refl _) _
          have hq2 : Bk (X.alloc (.cells #[.string u0, .string u1, .int .u8 u2, .string u3, .string u4] 38)) X.heap.size 38 #[.string u0, .string u1, .int .u8 u2, .string u3, .string u4] := Bk.new X 38 #[.string u0, .string u1, .int .u8 u2, .string u3, .string u4]
          clear z0 z1 z2 z3 z4 zf0 zf1 zf2 zf3 zf4
          have hLf : Chk.Lx w (X.alloc (.cells #[.string u0, .string u1, .int .u8 u2, .string u3, .string u4] 38)) S := by
            have h := hS2.1
            rw [← HSeq.out] at h
            exact h.below ha2
          have hBf0 : Bk (X.alloc (.cells #[.string u0, .string u1, .int .u8 u2, .string u3, .string u4] 38)) Wk.heap.size 43 #[.string gn, .string ga, .slice (some ⟨g2, off2, none⟩) n5 c5] := hS2.2.1.below ha2 hS2.2.1.lt
          have hBf1 : Bk (X.alloc (.cells #[.string u0, .string u1, .int .u8 u2, .string u3, .string u4] 38)) bm 38 #[.string m0, .string m1, .int .u8 m2, .string m3, .string m4] := hS2.2.2.below ha2 hS2.2.2.lt
          (refine hK.out _ _ (fun hnn => ⟨by have h := hLf; rw [HSeq.out] at h; exact h, hBf0, hBf1⟩) ?_; clear hK K; try simp only [Act.put, List.setIfInBounds_toArray, List.set_cons_zero, List.set_cons_succ])
          generalize (X.alloc (.cells #[.string u0, .string u1, .int .u8 u2, .string u3, .string u4] 38)) = Wf at *
          (refine wpAnyL_step 15 (by kernel_rfl) rfl (fun K hK => ?_))
          go_simp
          (refine hK.out _ _ (fun hnn => absurd hnn (by decide)) ?_; clear hK K; try simp only [Act.put, List.setIfInBounds_toArray, List.set_cons_zero, List.set_cons_succ])
          refine wpAnyL_done (by kernel_rfl) ?_ _
          refine NoPanic.normal ?_
          clear HL
          have HL := Lib.hid hLf
          clear HQt
          have HQt := Lib.hid hBf0
          clear HQm
          have HQm := Lib.hid hBf1
          have HQu := Lib.hid hq2
          clear hLf hq2 hHeld hS hS3 ha hq hb hS2 ha2
          generalize hbu : X.heap.size = bu at *
          clear hbu
          obtain ⟨Wu, rfl⟩ : ∃ w', w' = Wf := ⟨_, rfl⟩
          obtain ⟨⟨d0, d1, d2, d3, d4⟩, -⟩ := HQm.out.k5
          obtain ⟨⟨f0, f1, f2, f3, f4⟩, -⟩ := HQu.out.k5
          have HQb : Hid (Bk Wu Wk.heap.size 43 S1) := Lib.hid (by rw [HS1.out]; exact HQt.out)
          obtain ⟨bn, hb1, hb2, hb3⟩ := HEF.out
          cases bn
          ·
            have hb4 := hb3 rfl
            go_wp2_with fail
            go_roundw
            case rel => exact ⟨j + 1, by omega, by go_num, HL, HQb⟩
            case measure => simp [intOf]; omega
          ·
            go_wp2_with fail
            go_roundw
            case rel => exact ⟨j + 1, by omega, by go_num, HL, HQb⟩
            case measure => simp [intOf]; omega
        ·
          go_simp
          have hq0 : Bk (Wm.drew.alloc (.cells #[.string ⟨#[]⟩, .string ⟨#[]⟩, .int .u8 0, .string ⟨#[]⟩, .string ⟨#[]⟩] 38)) Wm.heap.size 38 #[.string ⟨#[]⟩, .string ⟨#[]⟩, .int .u8 0, .string ⟨#[]⟩, .string ⟨#[]⟩] := Bk.new Wm.drew 38 #[.string ⟨#[]⟩, .string ⟨#[]⟩, .int .u8 0, .string ⟨#[]⟩, .string ⟨#[]⟩]
          have ha : Below Wm.drew.heap.size Wm.drew (Wm.drew.alloc (.cells #[.string ⟨#[]⟩, .string ⟨#[]⟩, .int .u8 0, .string ⟨#[]⟩, .string ⟨#[]⟩] 38)) := (Below.refl _ _).alloc (Nat.le_refl _) _
          have hS1 := And.intro (hS.1.below ha) (And.intro (hS.2.1.below ha hS.2.1.lt) (hS.2.2.below ha hS.2.2.lt))
          (refine hK.out _ _ (fun hnn => hS1) ?_; clear hK K; try simp only [Act.put, List.setIfInBounds_toArray, List.set_cons_zero, List.set_cons_succ])
          (refine wpAnyL_step 9 (by kernel_rfl) rfl (fun K hK => ?_))
          go_simp
          refine (cmethod_any _ x p0 m4 _ (Id.SchV.below hS1.1.bel HV.out)).mono ?_
          rintro e X ⟨rfl, hb⟩
          rw [HUt.out]
          simp only [Option.getD_some, Option.isSome_some, Chk.mthV]
          have hS3 := And.intro (hS1.1.below hb) (And.intro (hS1.2.1.below hb hS1.2.1.lt) (hS1.2.2.below hb hS1.2.2.lt))
          have hq := hq0.below hb hq0.lt
          have hlt0 : w.heap.size < Wm.heap.size := HL.out.box.lt
          (refine hK.out _ _ (fun hnn => hS3) ?_; clear hK K; try simp only [Act.put, List.setIfInBounds_toArray, List.set_cons_zero, List.set_cons_succ])
          (refine wpAnyL_take0 10 (v := ?_) rfl (by kernel_rfl) (by kernel_rfl) (by kernel_rfl) (by kernel_rfl) (fun _ _ _ h => h) (fun _ => by assumption) (by rfl) ?_ ?_; rotate_left; · (intro w; go_simp; try with_reducible rfl); try simp only [Act.put, List.setIfInBounds_toArray, List.set_cons_zero, List.set_cons_succ])
          (refine wpAnyL_take0 11 (v := ?_) rfl (by kernel_rfl) (by kernel_rfl) (by kernel_rfl) (by kernel_rfl) (fun _ _ _ h => h) (fun _ => by assumption) (by rfl) ?_ ?_; rotate_left; · (intro w; go_simp; try with_reducible rfl); try simp only [Act.put, List.setIfInBounds_toArray, List.set_cons_zero, List.set_cons_succ])
          (refine wpAnyL_take0 12 (v := ?_) rfl (by kernel_rfl) (by kernel_rfl) (by kernel_rfl) (by kernel_rfl) (fun _ _ _ h => h) (fun _ => by assumption) (by rfl) ?_ ?_; rotate_left; · (intro w; go_simp; try with_reducible rfl); try simp only [Act.put, List.setIfInBounds_toArray, List.set_cons_zero, List.set_cons_succ])
          obtain ⟨⟨z0, z1, z2, z3, z4⟩, zf0, zf1, zf2, zf3, zf4⟩ := hq.k5
          (refine wpAnyL_step 14 (by kernel_rfl) rfl (fun K hK => ?_))
          go_simp
          have hgb : X.grownBy (((((X.setCell ⟨Wm.heap.size, 0, none⟩ (.string u0)).setCell ⟨Wm.heap.size, 1, none⟩ (.string u1)).setCell ⟨Wm.heap.size, 2, none⟩ (.int .u8 u2)).setCell ⟨Wm.heap.size, 3, none⟩ (.string u3)).setCell ⟨Wm.heap.size, 4, none⟩ (.string u4)) (some Wm.heap.size) := gb_set (p := ⟨Wm.heap.size, 4, none⟩) (gb_set (p := ⟨Wm.heap.size, 3, none⟩) (gb_set (p := ⟨Wm.heap.size, 2, none⟩) (gb_set (p := ⟨Wm.heap.size, 1, none⟩) (gb_set (p := ⟨Wm.heap.size, 0, none⟩) (gb_refl _ _) (.inl rfl) (.string u0)) (.inl rfl) (.string u1)) (.inl rfl) (.int .u8 u2)) (.inl rfl) (.string u3)) (.inl rfl) (.string u4)
          have hq2 : Bk (((((X.setCell ⟨Wm.heap.size, 0, none⟩ (.string u0)).setCell ⟨Wm.heap.size, 1, none⟩ (.string u1)).setCell ⟨Wm.heap.size, 2, none⟩ (.int .u8 u2)).setCell ⟨Wm.heap.size, 3, none⟩ (.string u3)).setCell ⟨Wm.heap.size, 4, none⟩ (.string u4)) Wm.heap.size 38 #[.string u0, .string u1, .int .u8 u2, .string u3, .string u4] := (((((hq.set_ 0 (.string u0)).set_ 1 (.string u1)).set_ 2 (.int .u8 u2)).set_ 3 (.string u3)).set_ 4 (.string u4))
          clear z0 z1 z2 z3 z4 zf0 zf1 zf2 zf3 zf4
          have hLf : Chk.Lx w (((((X.setCell ⟨Wm.heap.size, 0, none⟩ (.string u0)).setCell ⟨Wm.heap.size, 1, none⟩ (.string u1)).setCell ⟨Wm.heap.size, 2, none⟩ (.int .u8 u2)).setCell ⟨Wm.heap.size, 3, none⟩ (.string u3)).setCell ⟨Wm.heap.size, 4, none⟩ (.string u4)) S := by
            have h := hS3.1
            rw [← HSeq.out] at h
            exact ⟨below_gb h.bel hgb (by omega) h.bel.size, h.box.grown hgb (by intro e; injection e with e; omega)⟩
          have hBf0 : Bk (((((X.setCell ⟨Wm.heap.size, 0, none⟩ (.string u0)).setCell ⟨Wm.heap.size, 1, none⟩ (.string u1)).setCell ⟨Wm.heap.size, 2, none⟩ (.int .u8 u2)).setCell ⟨Wm.heap.size, 3, none⟩ (.string u3)).setCell ⟨Wm.heap.size, 4, none⟩ (.string u4)) Wk.heap.size 43 #[.string gn, .string ga, .slice (some ⟨g2, off2, none⟩) n5 c5] := Bk.grown hS3.2.1 hgb (by intro e; injection e with e; have h1 := HQt.out.lt; omega)
          have hBf1 : Bk (((((X.setCell ⟨Wm.heap.size, 0, none⟩ (.string u0)).setCell ⟨Wm.heap.size, 1, none⟩ (.string u1)).setCell ⟨Wm.heap.size, 2, none⟩ (.int .u8 u2)).setCell ⟨Wm.heap.size, 3, none⟩ (.string u3)).setCell ⟨Wm.heap.size, 4, none⟩ (.string u4)) bm 38 #[.string m0, .string m1, .int .u8 m2, .string m3, .string m4] := Bk.grown hS3.2.2 hgb (by intro e; injection e with e; have h1 := HQm.out.lt; omega)
          (refine hK.out _ _ (fun hnn => ⟨by have h := hLf; rw [HSeq.out] at h; exact h, hBf0, hBf1⟩) ?_; clear hK K; try simp only [Act.put, List.setIfInBounds_toArray, List.set_cons_zero, List.set_cons_succ])
          generalize (((((X.setCell ⟨Wm.heap.size, 0, none⟩ (.string u0)).setCell ⟨Wm.heap.size, 1, none⟩ (.string u1)).setCell ⟨Wm.heap.size, 2, none⟩ (.int .u8 u2)).setCell ⟨Wm.heap.size, 3, none⟩ (.string u3)).setCell ⟨Wm.heap.size, 4, none⟩ (.string u4)) = Wf at *
          (refine wpAnyL_step 15 (by kernel_rfl) rfl (fun K hK => ?_))
          go_simp
          (refine hK.out _ _ (fun hnn => absurd hnn (by decide)) ?_; clear hK K; try simp only [Act.put, List.setIfInBounds_toArray, List.set_cons_zero, List.set_cons_succ])
          refine wpAnyL_done (by kernel_rfl) ?_ _
          refine NoPanic.normal ?_
          clear HL
          have HL := Lib.hid hLf
          clear HQt
          have HQt := Lib.hid hBf0
          clear HQm
          have HQm := Lib.hid hBf1
          have HQu := Lib.hid hq2
          clear hLf hq2 hHeld hS hS3 ha hq hb hS1 hq0 hgb
          generalize hbu : Wm.heap.size = bu at *
          clear hbu
          obtain ⟨Wu, rfl⟩ : ∃ w', w' = Wf := ⟨_, rfl⟩
          obtain ⟨⟨d0, d1, d2, d3, d4⟩, -⟩ := HQm.out.k5
          obtain ⟨⟨f0, f1, f2, f3, f4⟩, -⟩ := HQu.out.k5
          have HQb : Hid (Bk Wu Wk.heap.size 43 S1) := Lib.hid (by rw [HS1.out]; exact HQt.out)
          obtain ⟨bn, hb1, hb2, hb3⟩ := HEF.out
          cases bn
          ·
            have hb4 := hb3 rfl
            go_wp2_with fail
            go_roundw
            case rel => exact ⟨j + 1, by omega, by go_num, HL, HQb⟩
            case measure => simp [intOf]; omega
          ·
            go_wp2_with fail
            go_roundw
            case rel => exact ⟨j + 1, by omega, by go_num, HL, HQb⟩
            case measure => simp [intOf]; omega
      ·
        go_simp
        have hq0 : Bk (Wj.drew.alloc (.cells #[.string ⟨#[]⟩, .string ⟨#[]⟩, .int .u8 0, .string ⟨#[]⟩, .string ⟨#[]⟩] 38)) Wj.heap.size 38 #[.string ⟨#[]⟩, .string ⟨#[]⟩, .int .u8 0, .string ⟨#[]⟩, .string ⟨#[]⟩] := Bk.new Wj.drew 38 #[.string ⟨#[]⟩, .string ⟨#[]⟩, .int .u8 0, .string ⟨#[]⟩, .string ⟨#[]⟩]
        have ha : Below Wj.drew.heap.size Wj.drew (Wj.drew.alloc (.cells #[.string ⟨#[]⟩, .string ⟨#[]⟩, .int .u8 0, .string ⟨#[]⟩, .string ⟨#[]⟩] 38)) := (Below.refl _ _).alloc (Nat.le_refl _) _
        have hS1 := And.intro (hS.1.below ha) (hS.2.below ha hS.2.lt)
        (refine hK.out _ _ (fun hnn => hS1) ?_; clear hK K; try simp only [Act.put, List.setIfInBounds_toArray, List.set_cons_zero, List.set_cons_succ])
        (refine wpAnyL_step 13 (by kernel_rfl) rfl (fun K hK => ?_))
        go_simp
        refine (cmethod_any _ x p0 p1 _ (Id.SchV.below hS1.1.bel HV.out)).mono ?_
        rintro e X ⟨rfl, hb⟩
        rw [HMt.out]
        simp only [Option.getD_some, Option.isSome_some, Chk.mthV]
        have hS3 := And.intro (hS1.1.below hb) (hS1.2.below hb hS1.2.lt)
        have hq := hq0.below hb hq0.lt
        have hlt0 : w.heap.size < Wj.heap.size := HL.out.box.lt
        (refine hK.out _ _ (fun hnn => hS3) ?_; clear hK K; try simp only [Act.put, List.setIfInBounds_toArray, List.set_cons_zero, List.set_cons_succ])
        (refine wpAnyL_take0 14 (v := ?_) rfl (by kernel_rfl) (by kernel_rfl) (by kernel_rfl) (by kernel_rfl) (fun _ _ _ h => h) (fun _ => by assumption) (by rfl) ?_ ?_; rotate_left; · (intro w; go_simp; try with_reducible rfl); try simp only [Act.put, List.setIfInBounds_toArray, List.set_cons_zero, List.set_cons_succ])
        (refine wpAnyL_take0 15 (v := ?_) rfl (by kernel_rfl) (by kernel_rfl) (by kernel_rfl) (by kernel_rfl) (fun _ _ _ h => h) (fun _ => by assumption) (by rfl) ?_ ?_; rotate_left; · (intro w; go_simp; try with_reducible rfl); try simp only [Act.put, List.setIfInBounds_toArray, List.set_cons_zero, List.set_cons_succ])
        (refine wpAnyL_take0 16 (v := ?_) rfl (by kernel_rfl) (by kernel_rfl) (by kernel_rfl) (by kernel_rfl) (fun _ _ _ h => h) (fun _ => by assumption) (by rfl) ?_ ?_; rotate_left; · (intro w; go_simp; try with_reducible rfl); try simp only [Act.put, List.setIfInBounds_toArray, List.set_cons_zero, List.set_cons_succ])
        obtain ⟨⟨z0, z1, z2, z3, z4⟩, zf0, zf1, zf2, zf3, zf4⟩ := hq.k5
        (refine wpAnyL_step 18 (by kernel_rfl) rfl (fun K hK => ?_))
        go_simp
        have hgb : X.grownBy (((((X.setCell ⟨Wj.heap.size, 0, none⟩ (.string m0)).setCell ⟨Wj.heap.size, 1, none⟩ (.string m1)).setCell ⟨Wj.heap.size, 2, none⟩ (.int .u8 m2)).setCell ⟨Wj.heap.size, 3, none⟩ (.string m3)).setCell ⟨Wj.heap.size, 4, none⟩ (.string m4)) (some Wj.heap.size) := gb_set (p := ⟨Wj.heap.size, 4, none⟩) (gb_set (p := ⟨Wj.heap.size, 3, none⟩) (gb_set (p := ⟨Wj.heap.size, 2, none⟩) (gb_set (p := ⟨Wj.heap.size, 1, none⟩) (gb_set (p := ⟨Wj.heap.size, 0, none⟩) (gb_refl _ _) (.inl rfl) (.string m0)) (.inl rfl) (.string m1)) (.inl rfl) (.int .u8 m2)) (.inl rfl) (.string m3)) (.inl rfl) (.string m4)
        have hq2 : Bk (((((X.setCell ⟨Wj.heap.size, 0, none⟩ (.string m0)).setCell ⟨Wj.heap.size, 1, none⟩ (.string m1)).setCell ⟨Wj.heap.size, 2, none⟩ (.int .u8 m2)).setCell ⟨Wj.heap.size, 3, none⟩ (.string m3)).setCell ⟨Wj.heap.size, 4, none⟩ (.string m4)) Wj.heap.size 38 #[.string m0, .string m1, .int .u8 m2, .string m3, .string m4] := (((((hq.set_ 0 (.string m0)).set_ 1 (.string m1)).set_ 2 (.int .u8 m2)).set_ 3 (.string m3)).set_ 4 (.string m4))
        clear z0 z1 z2 z3 z4 zf0 zf1 zf2 zf3 zf4
        have hLf : Chk.Lx w (((((X.setCell ⟨Wj.heap.size, 0, none⟩ (.string m0)).setCell ⟨Wj.heap.size, 1, none⟩ (.string m1)).setCell ⟨Wj.heap.size, 2, none⟩ (.int .u8 m2)).setCell ⟨Wj.heap.size, 3, none⟩ (.string m3)).setCell ⟨Wj.heap.size, 4, none⟩ (.string m4)) S := by
          have h := hS3.1
          rw [← HSeq.out] at h
          exact ⟨below_gb h.bel hgb (by omega) h.bel.size, h.box.grown hgb (by intro e; injection e with e; omega)⟩
        have hBf0 : Bk (((((X.setCell ⟨Wj.heap.size, 0, none⟩ (.string m0)).setCell ⟨Wj.heap.size, 1, none⟩ (.string m1)).setCell ⟨Wj.heap.size, 2, none⟩ (.int .u8 m2)).setCell ⟨Wj.heap.size, 3, none⟩ (.string m3)).setCell ⟨Wj.heap.size, 4, none⟩ (.string m4)) Wk.heap.size 43 #[.string gn, .string ga, .slice (some ⟨g2, off2, none⟩) n5 c5] := Bk.grown hS3.2 hgb (by intro e; injection e with e; have h1 := HQt.out.lt; omega)
        (refine hK.out _ _ (fun hnn => ⟨by have h := hLf; rw [HSeq.out] at h; exact h, hBf0⟩) ?_; clear hK K; try simp only [Act.put, List.setIfInBounds_toArray, List.set_cons_zero, List.set_cons_succ])
        generalize (((((X.setCell ⟨Wj.heap.size, 0, none⟩ (.string m0)).setCell ⟨Wj.heap.size, 1, none⟩ (.string m1)).setCell ⟨Wj.heap.size, 2, none⟩ (.int .u8 m2)).setCell ⟨Wj.heap.size, 3, none⟩ (.string m3)).setCell ⟨Wj.heap.size, 4, none⟩ (.string m4)) = Wf at *
        (refine wpAnyL_step 19 (by kernel_rfl) rfl (fun K hK => ?_))
        go_simp
        (refine hK.out _ _ (fun hnn => absurd hnn (by decide)) ?_; clear hK K; try simp only [Act.put, List.setIfInBounds_toArray, List.set_cons_zero, List.set_cons_succ])
        refine wpAnyL_done (by kernel_rfl) ?_ _
        refine NoPanic.normal ?_
        clear HL
        have HL := Lib.hid hLf
        clear HQt
        have HQt := Lib.hid hBf0
        have HQm := Lib.hid hq2
        clear hLf hq2 hHeld hS hS3 ha hq hb hS1 hq0 hgb
        generalize hbm : Wj.heap.size = bm at *
        clear hbm
        obtain ⟨Wm, rfl⟩ : ∃ w', w' = Wf := ⟨_, rfl⟩
        obtain ⟨⟨d0, d1, d2, d3, d4⟩, -⟩ := HQm.out.k5
        obtain ⟨⟨b0, b1, b2⟩, -⟩ := HQt.out.k3
        have hsq := HL.out.box
        rw [HSeq.out] at hsq
        obtain ⟨⟨q0, q1, q2, q3⟩, -⟩ := hsq.k4
        clear hsq
        have HQb : Hid (Bk Wm Wk.heap.size 43 S1) := Lib.hid (by rw [HS1.out]; exact HQt.out)
        have hwr : IntKind.i64.wrap ((n5 : Int) - 1) = (n5 : Int) - 1 := IntWalk.i64_in _ (by omega)
        by_cases hlast : j + 1 = n5
        case pos =>
          have hej : ((j : Int) == (n5 : Int) - 1) = true := by rw [beq_iff_eq]; omega
          go_wp2_with fail
          go_roundw
          case rel => exact ⟨j + 1, by omega, by go_num, HL, HQb⟩
          case measure => simp [intOf]; omega
        have hej : ((j : Int) == (n5 : Int) - 1) = false := by rw [beq_eq_false_iff_ne]; omega
        obtain ⟨u, hum, hua, huu, hue, huc⟩ := HMu.out (by rw [← HN5.out]; omega)
        obtain ⟨u0, u1, u2, u3, u4⟩ := u
        simp only at hum hua huu hue huc
        have HUt := Lib.hid hum
        have HUa : (u1.toList == m1.toList) = true := by rw [beq_iff_eq]; exact hua
        have HUe : u4.toList.isEmpty = true := huu
        have HEF := Lib.hid (Chk.eff_cases hue huc)
        clear hum hua hue huc huu HQb
        go_upto_region 20 with (fail)
        clear d0 d1 d2 d3 d4 b0 b1 b2 q0 q1 q2 q3
        have hsq := HL.out
        rw [HSeq.out] at hsq
        have hd : Below Wm.heap.size Wm Wm.drew := (Below.refl _ _).drew
        have hS := And.intro (hsq.below hd) (And.intro (HQt.out.below hd HQt.out.lt) (HQm.out.below hd HQm.out.lt))
        refine wp_region_L_calm (fun w' => Chk.Lx w w' _ ∧ Bk w' Wk.heap.size 43 _ ∧ Bk w' bm 38 _) [15] (by kernel_rfl) hS (fun hHeld => ?_)
        clear hsq hd
        (refine Lst.takeZ 15 0 (v := ?_) rfl (by kernel_rfl) (by kernel_rfl) (by kernel_rfl) (by kernel_rfl) (by kernel_rfl) (by kernel_rfl) (fun _ _ _ h => h) (by assumption) (by rfl) ?_ ?_; rotate_left; · (intro w hSw; obtain ⟨e0, e1, e2, e3⟩ := (Bk.k4 hSw.1.box).1; go_simp; try with_reducible rfl); try simp only [Act.put, List.setIfInBounds_toArray, List.set_cons_zero, List.set_cons_succ])
        (refine wpAnyL_take0 1 (v := ?_) rfl (by kernel_rfl) (by kernel_rfl) (by kernel_rfl) (by kernel_rfl) (fun _ _ _ h => h) (fun _ => by assumption) (by rfl) ?_ ?_; rotate_left; · (intro w; go_simp; try with_reducible rfl); try simp only [Act.put, List.setIfInBounds_toArray, List.set_cons_zero, List.set_cons_succ])
        (refine Lst.takeZ 15 2 (v := ?_) rfl (by kernel_rfl) (by kernel_rfl) (by kernel_rfl) (by kernel_rfl) (by kernel_rfl) (by kernel_rfl) (fun _ _ _ h => h) (by assumption) (by rfl) ?_ ?_; rotate_left; · (intro w hSw; have e := (Bk.k3 hSw.2.1).1.2.2; go_simp; try with_reducible rfl); try simp only [Act.put, List.setIfInBounds_toArray, List.set_cons_zero, List.set_cons_succ])
        (refine wpAnyL_take0 3 (v := ?_) rfl (by kernel_rfl) (by kernel_rfl) (by kernel_rfl) (by kernel_rfl) (fun _ _ _ h => h) (fun _ => by assumption) (by rfl) ?_ ?_; rotate_left; · (intro w; go_simp; try with_reducible rfl); try simp only [Act.put, List.setIfInBounds_toArray, List.set_cons_zero, List.set_cons_succ])
        (refine wpAnyL_take0 4 (v := ?_) rfl (by kernel_rfl) (by kernel_rfl) (by kernel_rfl) (by kernel_rfl) (fun _ _ _ h => h) (fun _ => by assumption) (by rfl) ?_ ?_; rotate_left; · (intro w; go_simp; try with_reducible rfl); try simp only [Act.put, List.setIfInBounds_toArray, List.set_cons_zero, List.set_cons_succ])
        (refine wpAnyL_take0 5 (v := ?_) rfl (by kernel_rfl) (by kernel_rfl) (by kernel_rfl) (by kernel_rfl) (fun _ _ _ h => h) (fun _ => by assumption) (by rfl) ?_ ?_; rotate_left; · (intro w; go_simp; try with_reducible rfl); try simp only [Act.put, List.setIfInBounds_toArray, List.set_cons_zero, List.set_cons_succ])
        (refine Lst.takeZ 15 6 (v := ?_) rfl (by kernel_rfl) (by kernel_rfl) (by kernel_rfl) (by kernel_rfl) (by kernel_rfl) (by kernel_rfl) (fun _ _ _ h => h) (by assumption) (by rfl) ?_ ?_; rotate_left; · (intro w hSw; have e := (hSw.1.bel.cell hgl2).trans HC.out.1; go_simp; try with_reducible rfl); try simp only [Act.put, List.setIfInBounds_toArray, List.set_cons_zero, List.set_cons_succ])
        (refine wpAnyL_take0 7 (v := ?_) rfl (by kernel_rfl) (by kernel_rfl) (by kernel_rfl) (by kernel_rfl) (fun _ _ _ h => h) (fun _ => by assumption) (by rfl) ?_ ?_; rotate_left; · (intro w; go_simp; try with_reducible rfl); try simp only [Act.put, List.setIfInBounds_toArray, List.set_cons_zero, List.set_cons_succ])
        (refine Lst.takeZ 15 8 (v := ?_) rfl (by kernel_rfl) (by kernel_rfl) (by kernel_rfl) (by kernel_rfl) (by kernel_rfl) (by kernel_rfl) (fun _ _ _ h => h) (by assumption) (by rfl) ?_ ?_; rotate_left; · (intro w hSw; have e := (Bk.k5 hSw.2.2).1.2.2.2.2; go_simp; try with_reducible rfl); try simp only [Act.put, List.setIfInBounds_toArray, List.set_cons_zero, List.set_cons_succ])
        refine Lst.two 9 13 (by kernel_rfl) rfl rfl (fun K hK => ?_) (fun K hK => ?_)
        ·
          go_simp
          refine (cmethod_any _ x p0 m4 _ (Id.SchV.below hS.1.bel HV.out)).mono ?_
          rintro e X ⟨rfl, hb⟩
          rw [HUt.out]
          simp only [Option.getD_some, Option.isSome_some, Chk.mthV]
          have hS2 := And.intro (hS.1.below hb) (And.intro (hS.2.1.below hb hS.2.1.lt) (hS.2.2.below hb hS.2.2.lt))
          (refine hK.out _ _ (fun hnn => hS2) ?_; clear hK K; try simp only [Act.put, List.setIfInBounds_toArray, List.set_cons_zero, List.set_cons_succ])
          (refine wpAnyL_take0 10 (v := ?_) rfl (by kernel_rfl) (by kernel_rfl) (by kernel_rfl) (by kernel_rfl) (fun _ _ _ h => h) (fun _ => by assumption) (by rfl) ?_ ?_; rotate_left; · (intro w; go_simp; try with_reducible rfl); try simp only [Act.put, List.setIfInBounds_toArray, List.set_cons_zero, List.set_cons_succ])
          (refine wpAnyL_take0 11 (v := ?_) rfl (by kernel_rfl) (by kernel_rfl) (by kernel_rfl) (by kernel_rfl) (fun _ _ _ h => h) (fun _ => by assumption) (by rfl) ?_ ?_; rotate_left; · (intro w; go_simp; try with_reducible rfl); try simp only [Act.put, List.setIfInBounds_toArray, List.set_cons_zero, List.set_cons_succ])
          (refine wpAnyL_take0 12 (v := ?_) rfl (by kernel_rfl) (by kernel_rfl) (by kernel_rfl) (by kernel_rfl) (fun _ _ _ h => h) (fun _ => by assumption) (by rfl) ?_ ?_; rotate_left; · (intro w; go_simp; try with_reducible rfl); try simp only [Act.put, List.setIfInBounds_toArray, List.set_cons_zero, List.set_cons_succ])
          (refine wpAnyL_step 13 (by kernel_rfl) rfl (fun K hK => ?_))
          go_simp
          have hq := Bk.new X 38 #[.string ⟨#[]⟩, .string ⟨#[]⟩, .int .u8 0, .string ⟨#[]⟩, .string ⟨#[]⟩]
          have ha : Below X.heap.size X (X.alloc (.cells #[.string ⟨#[]⟩, .string ⟨#[]⟩, .int .u8 0, .string ⟨#[]⟩, .string ⟨#[]⟩] 38)) := (Below.refl _ _).alloc (Nat.le_refl _) _
          have hS3 := And.intro (hS2.1.below ha) (And.intro (hS2.2.1.below ha hS2.2.1.lt) (hS2.2.2.below ha hS2.2.2.lt))
          (refine hK.out _ _ (fun hnn => hS3) ?_; clear hK K; try simp only [Act.put, List.setIfInBounds_toArray, List.set_cons_zero, List.set_cons_succ])
          have hlt0 : w.heap.size < X.heap.size := hS2.1.box.lt
          obtain ⟨⟨z0, z1, z2, z3, z4⟩, zf0, zf1, zf2, zf3, zf4⟩ := hq.k5
          (refine wpAnyL_step 14 (by kernel_rfl) rfl (fun K hK => ?_))
          go_simp
          have ha2 : Below X.heap.size X (X.alloc (.cells #[.string u0, .string u1, .int .u8 u2, .string u3, .string u4] 38)) := (Below.refl _ _).alloc (Nat.le_refl _) _
          have hq2 : Bk (X.alloc (.cells #[.string u0, .string u1, .int .u8 u2, .string u3, .string u4] 38)) X.heap.size 38 #[.string u0, .string u1, .int .u8 u2, .string u3, .string u4] := Bk.new X 38 #[.string u0, .string u1, .int .u8 u2, .string u3, .string u4]
          clear z0 z1 z2 z3 z4 zf0 zf1 zf2 zf3 zf4
          have hLf : Chk.Lx w (X.alloc (.cells #[.string u0, .string u1, .int .u8 u2, .string u3, .string u4] 38)) S := by
            have h := hS2.1
            rw [← HSeq.out] at h
            exact h.below ha2
          have hBf0 : Bk (X.alloc (.cells #[.string u0, .string u1, .int .u8 u2, .string u3, .string u4] 38)) Wk.heap.size 43 #[.string gn, .string ga, .slice (some ⟨g2, off2, none⟩) n5 c5] := hS2.2.1.below ha2 hS2.2.1.lt
          have hBf1 : Bk (X.alloc (.cells #[.string u0, .string u1, .int .u8 u2, .string u3, .string u4] 38)) bm 38 #[.string m0, .string m1, .int .u8 m2, .string m3, .string m4] := hS2.2.2.below ha2 hS2.2.2.lt
          (refine hK.out _ _ (fun hnn => ⟨by have h := hLf; rw [HSeq.out] at h; exact h, hBf0, hBf1⟩) ?_; clear hK K; try simp only [Act.put, List.setIfInBounds_toArray, List.set_cons_zero, List.set_cons_succ])
          generalize (X.alloc (.cells #[.string u0, .string u1, .int .u8 u2, .string u3, .string u4] 38)) = Wf at *
          (refine wpAnyL_step 15 (by kernel_rfl) rfl (fun K hK => ?_))
          go_simp
          (refine hK.out _ _ (fun hnn => absurd hnn (by decide)) ?_; clear hK K; try simp only [Act.put, List.setIfInBounds_toArray, List.set_cons_zero, List.set_cons_succ])
          refine wpAnyL_done (by kernel_rfl) ?_ _
          refine NoPanic.normal ?_
          clear HL
          have HL := Lib.hid hLf
          clear HQt
          have HQt := Lib.hid hBf0
          clear HQm
          have HQm := Lib.hid hBf1
          have HQu := Lib.hid hq2
          clear hLf hq2 hHeld hS hS3 ha hq hb hS2 ha2
          generalize hbu : X.heap.size = bu at *
          clear hbu
          obtain ⟨Wu, rfl⟩ : ∃ w', w' = Wf := ⟨_, rfl⟩
          obtain ⟨⟨d0, d1, d2, d3, d4⟩, -⟩ := HQm.out.k5
          obtain ⟨⟨f0, f1, f2, f3, f4⟩, -⟩ := HQu.out.k5
          have HQb : Hid (Bk Wu Wk.heap.size 43 S1) := Lib.hid (by rw [HS1.out]; exact HQt.out)
          obtain ⟨bn, hb1, hb2, hb3⟩ := HEF.out
          cases bn
          ·
            have hb4 := hb3 rfl
            go_wp2_with fail
            go_roundw
            case rel => exact ⟨j + 1, by omega, by go_num, HL, HQb⟩
            case measure => simp [intOf]; omega
          ·
            go_wp2_with fail
            go_roundw
            case rel => exact ⟨j + 1, by omega, by go_num, HL, HQb⟩
            case measure => simp [intOf]; omega
        ·
          go_simp
          have hq0 : Bk (Wm.drew.alloc (.cells #[.string ⟨#[]⟩, .string ⟨#[]⟩, .int .u8 0, .string ⟨#[]⟩, .string ⟨#[]⟩] 38)) Wm.heap.size 38 #[.string ⟨#[]⟩, .string ⟨#[]⟩, .int .u8 0, .string ⟨#[]⟩, .string ⟨#[]⟩] := Bk.new Wm.drew 38 #[.string ⟨#[]⟩, .string ⟨#[]⟩, .int .u8 0, .string ⟨#[]⟩, .string ⟨#[]⟩]
          have ha : Below Wm.drew.heap.size Wm.drew (Wm.drew.alloc (.cells #[.string ⟨#[]⟩, .string ⟨#[]⟩, .int .u8 0, .string ⟨#[]⟩, .string ⟨#[]⟩] 38)) := (Below.refl _ _).alloc (Nat.le_refl _) _
          have hS1 := And.intro (hS.1.below ha) (And.intro (hS.2.1.below ha hS.2.1.lt) (hS.2.2.below ha hS.2.2.lt))
          (refine hK.out _ _ (fun hnn => hS1) ?_; clear hK K; try simp only [Act.put, List.setIfInBounds_toArray, List.set_cons_zero, List.set_cons_succ])
          (refine wpAnyL_step 9 (by kernel_rfl) rfl (fun K hK => ?_))
          go_simp
          refine (cmethod_any _ x p0 m4 _ (Id.SchV.below hS1.1.bel HV.out)).mono ?_
          rintro e X ⟨rfl, hb⟩
          rw [HUt.out]
          simp only [Option.getD_some, Option.isSome_some, Chk.mthV]
          have hS3 := And.intro (hS1.1.below hb) (And.intro (hS1.2.1.below hb hS1.2.1.lt) (hS1.2.2.below hb hS1.2.2.lt))
          have hq := hq0.below hb hq0.lt
          have hlt0 : w.heap.size < Wm.heap.size := HL.out.box.lt
          (refine hK.out _ _ (fun hnn => hS3) ?_; clear hK K; try simp only [Act.put, List.setIfInBounds_toArray, List.set_cons_zero, List.set_cons_succ])
          (refine wpAnyL_take0 10 (v := ?_) rfl (by kernel_rfl) (by kernel_rfl) (by kernel_rfl) (by kernel_rfl) (fun _ _ _ h => h) (fun _ => by assumption) (by rfl) ?_ ?_; rotate_left; · (intro w; go_simp; try with_reducible rfl); try simp only [Act.put, List.setIfInBounds_toArray, List.set_cons_zero, List.set_cons_succ])
          (refine wpAnyL_take0 11 (v := ?_) rfl (by kernel_rfl) (by kernel_rfl) (by kernel_rfl) (by kernel_rfl) (fun _ _ _ h => h) (fun _ => by assumption) (by rfl) ?_ ?_; rotate_left; · (intro w; go_simp; try with_reducible rfl); try simp only [Act.put, List.setIfInBounds_toArray, List.set_cons_zero, List.set_cons_succ])
          (refine wpAnyL_take0 12 (v := ?_) rfl (by kernel_rfl) (by kernel_rfl) (by kernel_rfl) (by kernel_rfl) (fun _ _ _ h => h) (fun _ => by assumption) (by rfl) ?_ ?_; rotate_left; · (intro w; go_simp; try with_reducible rfl); try simp only [Act.put, List.setIfInBounds_toArray, List.set_cons_zero, List.set_cons_succ])
          obtain ⟨⟨z0, z1, z2, z3, z4⟩, zf0, zf1, zf2, zf3, zf4⟩ := hq.k5
          (refine wpAnyL_step 14 (by kernel_rfl) rfl (fun K hK => ?_))
          go_simp
          have hgb : X.grownBy (((((X.setCell ⟨Wm.heap.size, 0, none⟩ (.string u0)).setCell ⟨Wm.heap.size, 1, none⟩ (.string u1)).setCell ⟨Wm.heap.size, 2, none⟩ (.int .u8 u2)).setCell ⟨Wm.heap.size, 3, none⟩ (.string u3)).setCell ⟨Wm.heap.size, 4, none⟩ (.string u4)) (some Wm.heap.size) := gb_set (p := ⟨Wm.heap.size, 4, none⟩) (gb_set (p := ⟨Wm.heap.size, 3, none⟩) (gb_set (p := ⟨Wm.heap.size, 2, none⟩) (gb_set (p := ⟨Wm.heap.size, 1, none⟩) (gb_set (p := ⟨Wm.heap.size, 0, none⟩) (gb_refl _ _) (.inl rfl) (.string u0)) (.inl rfl) (.string u1)) (.inl rfl) (.int .u8 u2)) (.inl rfl) (.string u3)) (.inl rfl) (.string u4)
          have hq2 : Bk (((((X.setCell ⟨Wm.heap.size, 0, none⟩ (.string u0)).setCell ⟨Wm.heap.size, 1, none⟩ (.string u1)).setCell ⟨Wm.heap.size, 2, none⟩ (.int .u8 u2)).setCell ⟨Wm.heap.size, 3, none⟩ (.string u3)).setCell ⟨Wm.heap.size, 4, none⟩ (.string u4)) Wm.heap.size 38 #[.string u0, .string u1, .int .u8 u2, .string u3, .string u4] := (((((hq.set_ 0 (.string u0)).set_ 1 (.string u1)).set_ 2 (.int .u8 u2)).set_ 3 (.string u3)).set_ 4 (.string u4))
          clear z0 z1 z2 z3 z4 zf0 zf1 zf2 zf3 zf4
          have hLf : Chk.Lx w (((((X.setCell ⟨Wm.heap.size, 0, none⟩ (.string u0)).setCell ⟨Wm.heap.size, 1, none⟩ (.string u1)).setCell ⟨Wm.heap.size, 2, none⟩ (.int .u8 u2)).setCell ⟨Wm.heap.size, 3, none⟩ (.string u3)).setCell ⟨Wm.heap.size, 4, none⟩ (.string u4)) S := by
            have h := hS3.1
            rw [← HSeq.out] at h
            exact ⟨below_gb h.bel hgb (by omega) h.bel.size, h.box.grown hgb (by intro e; injection e with e; omega)⟩
          have hBf0 : Bk (((((X.setCell ⟨Wm.heap.size, 0, none⟩ (.string u0)).setCell ⟨Wm.heap.size, 1, none⟩ (.string u1)).setCell ⟨Wm.heap.size, 2, none⟩ (.int .u8 u2)).setCell ⟨Wm.heap.size, 3, none⟩ (.string u3)).setCell ⟨Wm.heap.size, 4, none⟩ (.string u4)) Wk.heap.size 43 #[.string gn, .string ga, .slice (some ⟨g2, off2, none⟩) n5 c5] := Bk.grown hS3.2.1 hgb (by intro e; injection e with e; have h1 := HQt.out.lt; omega)
          have hBf1 : Bk (((((X.setCell ⟨Wm.heap.size, 0, none⟩ (.string u0)).setCell ⟨Wm.heap.size, 1, none⟩ (.string u1)).setCell ⟨Wm.heap.size, 2, none⟩ (.int .u8 u2)).setCell ⟨Wm.heap.size, 3, none⟩ (.string u3)).setCell ⟨Wm.heap.size, 4, none⟩ (.string u4)) bm 38 #[.string m0, .string m1, .int .u8 m2, .string m3, .string m4] := Bk.grown hS3.2.2 hgb (by intro e; injection e with e; have h1 := HQm.out.lt; omega)
          (refine hK.out _ _ (fun hnn => ⟨by have h := hLf; rw [HSeq.out] at h; exact h, hBf0, hBf1⟩) ?_; clear hK K; try simp only [Act.put, List.setIfInBounds_toArray, List.set_cons_zero, List.set_cons_succ])
          generalize (((((X.setCell ⟨Wm.heap.size, 0, none⟩ (.string u0)).setCell ⟨Wm.heap.size, 1, none⟩ (.string u1)).setCell ⟨Wm.heap.size, 2, none⟩ (.int .u8 u2)).setCell ⟨Wm.heap.size, 3, none⟩ (.string u3)).setCell ⟨Wm.heap.size, 4, none⟩ (.string u4)) = Wf at *
          (refine wpAnyL_step 15 (by kernel_rfl) rfl (fun K hK => ?_))
          go_simp
          (refine hK.out _ _ (fun hnn => absurd hnn (by decide)) ?_; clear hK K; try simp only [Act.put, List.setIfInBounds_toArray, List.set_cons_zero, List.set_cons_succ])
          refine wpAnyL_done (by kernel_rfl) ?_ _
          refine NoPanic.normal ?_
          clear HL
          have HL := Lib.hid hLf
          clear HQt
          have HQt := Lib.hid hBf0
          clear HQm
          have HQm := Lib.hid hBf1
          have HQu := Lib.hid hq2
          clear hLf hq2 hHeld hS hS3 ha hq hb hS1 hq0 hgb
          generalize hbu : Wm.heap.size = bu at *
          clear hbu
          obtain ⟨Wu, rfl⟩ : ∃ w', w' = Wf := ⟨_, rfl⟩
          obtain ⟨⟨d0, d1, d2, d3, d4⟩, -⟩ := HQm.out.k5
          obtain ⟨⟨f0, f1, f2, f3, f4⟩, -⟩ := HQu.out.k5
          have HQb : Hid (Bk Wu Wk.heap.size 43 S1) := Lib.hid (by rw [HS1.out]; exact HQt.out)
          obtain ⟨bn, hb1, hb2, hb3⟩ := HEF.out
          cases bn
          ·
            have hb4 := hb3 rfl
            go_wp2_with fail
            go_roundw
            case rel => exact ⟨j + 1, by omega, by go_num, HL, HQb⟩
            case measure => simp [intOf]; omega
          ·
            go_wp2_with fail
            go_roundw
            case rel => exact ⟨j + 1, by omega, by go_num, HL, HQb⟩
            case measure => simp [intOf]; omega
end Go.Proofs.YtnnkppeafnpdcaaDoor
