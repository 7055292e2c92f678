/- CheckFewer: the walk. No condition. -/
import Derived.Test.YtnnkppeafnpdcaaDoorKC5
import Derived.Test.YtnnkppeafnpdcaaDoorChkLaw2
set_option linter.unusedVariables false
set_option linter.unusedSimpArgs false
namespace Go.Proofs.YtnnkppeafnpdcaaDoor
open Go.RowKit Go.BigFrame
/-- A row but its last element. -/
theorem ERow.less {α : Type} {w : World} {t : TypeId} {size : Nat} {E : World → List Value → α → Prop} {A : Option Addr} {m c : Nat} {l : List α} (h : ERow w none t size E (.slice A (m + 1) c) l) (hn : m + 1 = l.length) : ERow w none t size E (.slice A m c) l.dropLast := by
  obtain ⟨css, h1, h2, h3, h4⟩ := h
  obtain ⟨A', c', e, g1, g2, g3, g4⟩ := h3.slice
  injection e with e1 e2 e3
  subst e1 e3
  have hl : l.dropLast.length = m := by rw [List.length_dropLast]; omega
  have hs : ∀ cs ∈ css.take m, cs.length = size := fun cs hcs => h2 cs (List.mem_of_mem_take hcs)
  have hc : (css.take m).length = m := by rw [List.length_take]; omega
  refine ⟨css.take m, by rw [hc, hl], hs, ⟨by rw [flatten_len hs, hc, hl], A, c, by rw [hl], by omega, g2, (fun e => by have := g3 e; omega), fun h0 => ?_⟩, fun i hi hi' => ?_⟩
  · have hsub : ∀ j u, (css.take m).flatten[j]? = some u → css.flatten[j]? = some u := fun j u hu => by
      have e : css.flatten = (css.take m).flatten ++ (css.drop m).flatten := by rw [← List.flatten_append, List.take_append_drop]
      rw [e, List.getElem?_append_left (List.getElem?_eq_some_iff.1 hu).1]
      exact hu
    have h00 : 0 < css.flatten.length := by
      have e : css.flatten = (css.take m).flatten ++ (css.drop m).flatten := by rw [← List.flatten_append, List.take_append_drop]
      rw [e, List.length_append]; omega
    obtain ⟨g, off, e, hcl⟩ := g4 h00
    exact ⟨g, off, e, fun j u hu => hcl j u (hsub j u hu)⟩
  · rw [List.getElem_take, List.getElem_dropLast]
    exact h4 i (by omega) (by omega)
theorem Chk.fewer_fine {x : Id.Sch} (h : Chk.Fine x) : Chk.Fine (Chk.fewer x) :=
  ⟨h.nm, by show x.records.reverse.length ≤ 1000; rw [List.length_reverse]; exact h.recs, h.svcs, by show x.sagas.dropLast.length ≤ 1000; rw [List.length_dropLast]; have := h.sags; omega, fun r hr => h.re r (List.mem_reverse.1 hr), h.sv, fun g hg => h.sa g (Chk.mem_drop hg)⟩
/-- Within a law over a schema: its box, what lay there. -/
structure Chk.Lx (w wr : World) (S : Array Value) : Prop where
  bel : Below w.heap.size w wr
  box : Bk wr w.heap.size 26 S
theorem Chk.Lx.below {w wr w' : World} {S : Array Value} (h : Chk.Lx w wr S) (hb : Below wr.heap.size wr w') : Chk.Lx w w' S := ⟨h.bel.trans (hb.mono h.bel.size), h.box.below hb h.box.lt⟩
theorem Chk.Lx.start {w wr : World} {S : Array Value} (h : wr = w.alloc (.cells S 26)) : Chk.Lx w wr S := by
  subst h
  exact ⟨(Below.refl _ _).alloc (Nat.le_refl _) _, Bk.new _ _ _⟩
theorem Chk.Lx.only {w wr w' : World} {S : Array Value} {e : TypeId} (h : Chk.Lx w wr S) (hb : Below w.heap.size wr w') (ho : Only e wr w') (he : 26 ≠ e) : Chk.Lx w w' S := ⟨h.bel.trans hb, ho.bk h.box he⟩
set_option maxRecDepth 100000 in
set_option maxHeartbeats 16000000 in
theorem checkFewer_walk (v : Value) (x : Id.Sch) (w0 : World) (hv : Id.SchV w0 none v x) (w : World) (he : w = w0) (hk : Tk.KW w) :
    Calls Tryd.prog 4 #[v] w fun e w' => e = .returned (.bool true) ∧ Below w.heap.size w w' := by
  subst he
  have HV := Lib.hid hv
  have HKW := Lib.hid hk
  obtain ⟨A1, n1, c1, A2, n2, c2, A3, n3, c3, rfl, r1, r2, r3⟩ := hv
  have hn1 : n1 = x.records.length := by obtain ⟨_, _, e, _⟩ := ERow.slice r1; injection e
  have hn3 : n3 = x.sagas.length := by obtain ⟨_, _, e, _⟩ := ERow.slice r3; injection e
  have H1 := Lib.hid r1
  have H2 := Lib.hid r2
  have H3 := Lib.hid r3
  have HN1 := Lib.hid hn1
  have HN3 := Lib.hid hn3
  clear hk r1 r2 r3 hn1 hn3
  go_enter Tryd.func4, Tryd.ntmps4
  go_upto_region 1 with (fail)
  refine wp_named (fun W0 hW0 => ?_)
  have HL := Lib.hid (Chk.Lx.start hW0)
  clear hW0
  obtain ⟨⟨q0, q1, q2, q3⟩, -⟩ := HL.out.box.k4
  go_wp2_with fail
  refine (cgreat_any _ x _ (Id.SchV.below HL.out.bel HV.out)).mono ?_
  rintro e W1 ⟨b, rfl, hb, hg⟩
  have HL1 := Lib.hid (HL.out.below hb)
  have HG := Lib.hid hg
  clear HL hb hg q0 q1 q2 q3
  have done : ∀ W, Below w.heap.size w W → Calls Tryd.prog 9 #[] W fun e w' => e = .returned (.bool true) ∧ Below w.heap.size w w' := fun W hW => (wakes13_any W (HKW.out.below hW)).mono fun _ _ ⟨h1, h2⟩ => ⟨h1, hW.trans (h2.mono hW.size)⟩
  have HDN := Lib.hid done
  clear done
  cases b
  case true =>
    go_wp2_with fail
    refine (HDN.out _ HL1.out.bel).mono ?_
    rintro e W2 ⟨rfl, hb2⟩
    go_wp2_with fail
    go_ret
    exact ⟨rfl, hb2⟩
  have HFG := Lib.hid (HG.out rfl)
  have HFi := Lib.hid HFG.out.fine
  clear HG
  obtain ⟨⟨q0, q1, q2, q3⟩, -⟩ := HL1.out.box.k4
  go_wp2_with fail
  refine (ccheck_any _ x HFi.out _ (HKW.out.below HL1.out.bel) (Id.SchV.below HL1.out.bel HV.out)).mono ?_
  rintro e W2 ⟨rfl, hb2⟩
  have HL2 := Lib.hid (HL1.out.below hb2)
  obtain ⟨R, HR⟩ : ∃ R, Hid (Chk.check x = R) := ⟨_, Lib.hid rfl⟩
  rw [HR.out]
  obtain ⟨wh, ec⟩ := R
  simp only
  clear hb2 q0 q1 q2 q3 HL1
  by_cases he0 : ec = 0
  case neg =>
    have he1 : ((ec : Int) != 0) = true := by rw [bne_iff_ne]; omega
    go_wp2_with fail
    refine (HDN.out _ HL2.out.bel).mono ?_
    rintro e W3 ⟨rfl, hb2⟩
    go_wp2_with fail
    go_ret
    exact ⟨rfl, hb2⟩
  subst he0
  have HRT : Hid (Chk.Right x) := Lib.hid (Chk.check_ok (by rw [HR.out]))
  simp only [Int.cast_ofNat_Int]
  obtain ⟨⟨q0, q1, q2, q3⟩, -⟩ := HL2.out.box.k4
  have hn1b : n1 ≤ 100 := by rw [HN1.out]; exact HFG.out.recs
  have hn3b : n3 ≤ 100 := by rw [HN3.out]; exact HFG.out.sags
  go_upto_region 7 with (fail)
  refine wp_named (fun W3 hW3 => ?_)
  obtain ⟨hb3, hq3, hs3⟩ := fresh_box hW3
  clear hW3
  have HL3 := Lib.hid (HL2.out.below hb3)
  have hbse : w.heap.size < W2.heap.size := HL2.out.box.lt
  obtain ⟨⟨p0, p1, p2, p3⟩, p4, p5, p6, p7⟩ := hq3.k4
  clear q0 q1 q2 q3 hb3
  go_upto_region 8 with (fail)
  clear p0 p1 p2 p3 p4 p5 p6 p7
  have hq4 : Bk (W3.setCell ⟨W2.heap.size, 1, none⟩ (.slice none 0 0)) W2.heap.size 26 #[.string x.name, .slice none 0 0, .slice A2 n2 c2, .slice A3 n3 c3] := hq3.set_ 1 (.slice none 0 0)
  have HL4 : Hid (Chk.Lx w (W3.setCell ⟨W2.heap.size, 1, none⟩ (.slice none 0 0)) #[.string x.name, .slice A1 n1 c1, .slice A2 n2 c2, .slice A3 n3 c3]) := Lib.hid ⟨HL3.out.bel.setCell (p := ⟨W2.heap.size, 1, none⟩) (by show w.heap.size ≤ W2.heap.size; omega) _, HL3.out.box.far (by simp; omega) _⟩
  have hs4 : (W3.setCell ⟨W2.heap.size, 1, none⟩ (.slice none 0 0)).heap.size = W2.heap.size + 1 := by simp [World.setCell, hs3]
  generalize W3.setCell ⟨W2.heap.size, 1, none⟩ (.slice none 0 0) = W4 at *
  have HQ4 := Lib.hid hq4
  have HS4 := Lib.hid hs4
  clear hq3 hs3 HL3 HL2 hq4 hs4
  obtain ⟨⟨q0, q1, q2, q3⟩, -⟩ := HL4.out.box.k4
  go_wp2_with fail
  clear q0 q1 q2 q3
  obtain ⟨S, HSeq⟩ : ∃ S : Array Value, Hid (S = #[.string x.name, .slice A1 n1 c1, .slice A2 n2 c2, .slice A3 n3 c3]) := ⟨_, Lib.hid rfl⟩
  rw [← HSeq.out] at HL4
  have HR4 : Hid (ERow W4 (some (W2.heap.size + 1)) 34 3 (fun _ cs r => Id.RecE none w cs r) (.slice none 0 0) ((x.records.drop n1).reverse)) := Lib.hid (by rw [HN1.out, List.drop_length]; exact ERow.nil _ _ _ _ _)
  have HSZ := Lib.hid (show W2.heap.size + 1 ≤ W4.heap.size by have := HS4.out; omega)
  go_loopw [6] (fun i wr => ∃ (k : Nat) (v : Value), k ≤ n1 ∧ i = .int .i64 ((k : Int) - 1) ∧ Hid (Chk.Lx w wr S) ∧ Hid (W2.heap.size + 1 ≤ wr.heap.size) ∧ Hid (Bk wr W2.heap.size 26 #[.string x.name, v, .slice A2 n2 c2, .slice A3 n3 c3]) ∧ Hid (ERow wr (some (W2.heap.size + 1)) 34 3 (fun _ cs r => Id.RecE none w cs r) v ((x.records.drop k).reverse))) (fun i _ => (intOf i + 1).toNat)
  case atStart => exact ⟨n1, _, by omega, rfl, HL4, HSZ, HQ4, HR4⟩
  case round =>
    clear HL4 HSZ HQ4 HR4 HS4
    obtain ⟨k, v, hk, rfl, HL, HSZ, HQ, HR5⟩ := hrel
    obtain ⟨Wk, rfl⟩ : ∃ w', w' = wr := ⟨_, rfl⟩
    have hsz := HSZ.out
    obtain ⟨A6, n6, c6, rfl⟩ := ERow.is HR5.out
    rcases k with _ | j
    · have hz : ((0 : Nat) : Int) - 1 = -1 := by omega
      rw [hz]
      obtain ⟨⟨p0, p1, p2, p3⟩, p4, p5, p6, p7⟩ := HQ.out.k4
      have HRr : Hid (Id.RecsR Wk none (.slice A6 n6 c6) x.records.reverse) := Lib.hid (by
        have h := HR5.out
        rw [List.drop_zero] at h
        exact ERow.mono h (fun _ _ hr => hr.weak (fun b' e => by cases e)) (Id.RecE.below HL.out.bel))
      have HFf : Hid (Chk.Fine (Chk.fewer x)) := Lib.hid (Chk.fewer_fine HFi.out)
      have HCk : Hid (Chk.check (Chk.fewer x) = (⟨#[]⟩, 0)) := Lib.hid (Chk.check_right (Chk.right_fewer HRT.out))
      rcases n3 with _ | m
      · have HSv : Hid (Id.SchV Wk none (.agg #[.string x.name, .slice A6 n6 c6, .slice A2 n2 c2, .slice A3 0 c3]) (Chk.fewer x)) := Lib.hid ⟨_, _, _, _, _, _, _, _, _, rfl, HRr.out, ERow.below H2.out HL.out.bel (Id.SvcE.below HL.out.bel), by
          have h0 : x.sagas = [] := List.length_eq_zero_iff.1 HN3.out.symm
          have h1 : (Chk.fewer x).sagas = x.sagas := by unfold Chk.fewer; rw [h0]; rfl
          rw [h1]
          exact ERow.below H3.out HL.out.bel (Id.SagE.below HL.out.bel)⟩
        go_wp2_with fail
        refine (ccheck_any _ (Chk.fewer x) HFf.out _ (HKW.out.below HL.out.bel) HSv.out).mono ?_
        rintro e X ⟨rfl, hb⟩
        rw [HCk.out]
        have HBX := Lib.hid (HL.out.bel.trans (hb.mono HL.out.bel.size))
        simp only
        clear hb p0 p1 p2 p3 p4 p5 p6 p7
        go_wp2_with fail
        refine (HDN.out _ HBX.out).mono ?_
        rintro e W3 ⟨rfl, hb2⟩
        go_wp2_with fail
        go_ret
        exact ⟨rfl, hb2⟩
      · have hm1 : m + 1 ≤ c3 := by obtain ⟨_, _, e, h, _⟩ := ERow.slice H3.out; injection e with e1 e2 e3; omega
        have hm2 : m ≤ c3 := by omega
        have hm3 : c3 ≤ 9223372036854775807 := by obtain ⟨_, _, e, _, h, _⟩ := ERow.slice H3.out; injection e with e1 e2 e3; omega
        have hm4 : (0 : Int) < (m : Int) + 1 := by omega
        have hm5 : 0 < m + 1 := by omega
        go_upto_region 14 with (fail)
        clear p0 p1 p2 p3 p4 p5 p6 p7
        have hq2 : Bk (Wk.setCell ⟨W2.heap.size, 3, none⟩ (.slice A3 m c3)) W2.heap.size 26 #[.string x.name, .slice A6 n6 c6, .slice A2 n2 c2, .slice A3 m c3] := HQ.out.set_ 3 (.slice A3 m c3)
        have hbel : Below w.heap.size w (Wk.setCell ⟨W2.heap.size, 3, none⟩ (.slice A3 m c3)) := HL.out.bel.setCell (p := ⟨W2.heap.size, 3, none⟩) (by show w.heap.size ≤ W2.heap.size; omega) _
        have hrr : Id.RecsR (Wk.setCell ⟨W2.heap.size, 3, none⟩ (.slice A3 m c3)) none (.slice A6 n6 c6) x.records.reverse := by
          have h := HR5.out
          rw [List.drop_zero] at h
          exact ERow.mono (ERow.kp h ((Only.set HQ.out 3 (.slice A3 m c3)).kp _ (T := [34]) (by decide)) (Nat.le_refl _) (by decide) (fun _ _ h => h)) (fun _ _ hr => hr.weak (fun b' e => by cases e)) (Id.RecE.below hbel)
        have HSv : Hid (Id.SchV (Wk.setCell ⟨W2.heap.size, 3, none⟩ (.slice A3 m c3)) none (.agg #[.string x.name, .slice A6 n6 c6, .slice A2 n2 c2, .slice A3 m c3]) (Chk.fewer x)) := Lib.hid ⟨_, _, _, _, _, _, _, _, _, rfl, hrr, ERow.below H2.out hbel (Id.SvcE.below hbel), ERow.below (ERow.less H3.out HN3.out) hbel (Id.SagE.below hbel)⟩
        have HBl := Lib.hid hbel
        clear hrr hbel
        obtain ⟨⟨p0, p1, p2, p3⟩, -⟩ := hq2.k4
        generalize Wk.setCell ⟨W2.heap.size, 3, none⟩ (.slice A3 m c3) = Wz at *
        clear hq2
        go_wp2_with fail
        refine (ccheck_any _ (Chk.fewer x) HFf.out _ (HKW.out.below HBl.out) HSv.out).mono ?_
        rintro e X ⟨rfl, hb⟩
        rw [HCk.out]
        have HBX := Lib.hid (HBl.out.trans (hb.mono HBl.out.size))
        simp only
        clear hb p0 p1 p2 p3
        go_wp2_with fail
        refine (HDN.out _ HBX.out).mono ?_
        rintro e W3 ⟨rfl, hb2⟩
        go_wp2_with fail
        go_ret
        exact ⟨rfl, hb2⟩
    have hz : ((j + 1 : Nat) : Int) - 1 = (j : Int) := by omega
    rw [hz]
    clear hz
    have hka : j < x.records.length := by rw [← HN1.out]; omega
    obtain ⟨g, off, cs, rfl, -, he, hc⟩ := ERow.get H1.out hka (by omega)
    have HD : Hid ((x.records.drop j).reverse = (x.records.drop (j + 1)).reverse ++ [x.records[j]]) := Lib.hid (by rw [List.drop_eq_getElem_cons hka, List.reverse_cons])
    obtain ⟨r, Hr⟩ : ∃ r, Hid (x.records[j] = r) := ⟨_, Lib.hid rfl⟩
    rw [Hr.out] at HD he
    have HE0 := Lib.hid he
    obtain ⟨u, rfl, HU⟩ := he
    obtain ⟨A5, n5, c5, rfl⟩ := ERow.is HU
    have hB := HL.out.bel
    have a0 := hc 0 _ rfl
    have a1 := hc 1 _ rfl
    have a2 := hc 2 _ rfl
    simp only [Nat.add_zero] at a0
    have hgl : g < w.heap.size := World.block_lt_of_cell? w _ a0
    have HA := Lib.hid (And.intro a0 (And.intro a1 a2))
    have i0 : (0 : Int) ≤ (j : Int) := by omega
    have i1 : (j : Int) < (n1 : Int) := by omega
    clear hc hB HU a0 a1 a2
    have hlen : (x.records.drop (j + 1)).reverse.length ≤ 100 := by rw [List.length_reverse, List.length_drop]; have := HN1.out; omega
    have HLEN := Lib.hid hlen
    clear hlen Hr hka
    go_upto_region 11 with (fail)
    have hsq := HL.out
    rw [HSeq.out] at hsq
    have hS : Chk.Lx w Wk.drew _ ∧ Bk Wk.drew W2.heap.size 26 _ := ⟨hsq.below ((Below.refl _ _).drew), HQ.out.drew⟩
    refine wp_region_L_calm (fun w' => Chk.Lx w w' _ ∧ Bk w' W2.heap.size 26 _) [10] (by kernel_rfl) hS (fun hHeld => ?_)
    clear hsq
    (refine wpAnyL_take0 0 (v := ?_) rfl (by kernel_rfl) (by kernel_rfl) (by kernel_rfl) (by kernel_rfl) (fun _ _ _ h => h) (fun _ => by assumption) (by rfl) ?_ ?_; rotate_left; · (intro w; go_simp; try with_reducible rfl); try simp only [Act.put, List.setIfInBounds_toArray, List.set_cons_zero, List.set_cons_succ])
    (refine Lst.takeZ 10 1 (v := ?_) rfl (by kernel_rfl) (by kernel_rfl) (by kernel_rfl) (by kernel_rfl) (by kernel_rfl) (by kernel_rfl) (fun _ _ _ h => h) (by assumption) (by rfl) ?_ ?_; rotate_left; · (intro w hSw; have e := (Bk.k4 hSw.2).1.2.1; go_simp; try with_reducible rfl); try simp only [Act.put, List.setIfInBounds_toArray, List.set_cons_zero, List.set_cons_succ])
    (refine wpAnyL_take0 2 (v := ?_) rfl (by kernel_rfl) (by kernel_rfl) (by kernel_rfl) (by kernel_rfl) (fun _ _ _ h => h) (fun _ => by assumption) (by rfl) ?_ ?_; rotate_left; · (intro w; go_simp; try with_reducible rfl); try simp only [Act.put, List.setIfInBounds_toArray, List.set_cons_zero, List.set_cons_succ])
    (refine Lst.takeZ 10 3 (v := ?_) rfl (by kernel_rfl) (by kernel_rfl) (by kernel_rfl) (by kernel_rfl) (by kernel_rfl) (by kernel_rfl) (fun _ _ _ h => h) (by assumption) (by rfl) ?_ ?_; rotate_left; · (intro w hSw; have e := (Bk.k4 hSw.1.box).1.2.1; go_simp; try with_reducible rfl); try simp only [Act.put, List.setIfInBounds_toArray, List.set_cons_zero, List.set_cons_succ])
    (refine wpAnyL_take0 4 (v := ?_) rfl (by kernel_rfl) (by kernel_rfl) (by kernel_rfl) (by kernel_rfl) (fun _ _ _ h => h) (fun _ => by assumption) (by rfl) ?_ ?_; rotate_left; · (intro w; go_simp; try with_reducible rfl); try simp only [Act.put, List.setIfInBounds_toArray, List.set_cons_zero, List.set_cons_succ])
    (refine wpAnyL_take0 5 (v := ?_) rfl (by kernel_rfl) (by kernel_rfl) (by kernel_rfl) (by kernel_rfl) (fun _ _ _ h => h) (fun _ => by assumption) (by rfl) ?_ ?_; rotate_left; · (intro w; go_simp; try with_reducible rfl); try simp only [Act.put, List.setIfInBounds_toArray, List.set_cons_zero, List.set_cons_succ])
    (refine Lst.takeZ 10 6 (v := ?_) rfl (by kernel_rfl) (by kernel_rfl) (by kernel_rfl) (by kernel_rfl) (by kernel_rfl) (by kernel_rfl) (fun _ _ _ h => h) (by assumption) (by rfl) ?_ ?_; rotate_left; · (intro w hSw; have e0 := (hSw.1.bel.cell hgl).trans HA.out.1; have e1 := (hSw.1.bel.cell hgl).trans HA.out.2.1; have e2 := (hSw.1.bel.cell hgl).trans HA.out.2.2; go_simp; try with_reducible rfl); try simp only [Act.put, List.setIfInBounds_toArray, List.set_cons_zero, List.set_cons_succ])
    (refine wpAnyL_step 7 (by kernel_rfl) rfl (fun K hK => ?_))
    go_simp
    (refine hK.out _ _ (fun hnn => ⟨hS.1.below ((Below.refl _ _).alloc (Nat.le_refl _) _), hS.2.alloc _⟩) ?_; clear hK K; try simp only [Act.put, List.setIfInBounds_toArray, List.set_cons_zero, List.set_cons_succ])
    (refine wpAnyL_step 8 (by kernel_rfl) rfl (fun K hK => ?_))
    refine step_append_el rfl _ _ _ rfl (W2.heap.size + 1) 34 _ 3 48 Tryd.underlying22 Id.info_rec rfl (by decide) (fun _ cs r => Id.RecE none w cs r) (.slice A6 n6 c6) _ rfl (ERow.below HR5.out (((Below.refl Wk.heap.size Wk).drew).alloc (Nat.le_refl _) _) (fun _ _ h => h)) [.string r.name, .bool r.choice, .slice A5 n5 c5] rfl _ rfl (Bk.new _ _ _) (by simp [Value.oneCell']) (by simp only [maxLen]; have := HLEN.out; omega) (by have := HLEN.out; omega) (by simp; omega) ?_
    intro A7 n7 c7 W8 hrow8 hb8 ho8
    have HROW := Lib.hid (hrow8 r (fun _ _ h => h) HE0.out)
    have HL8 := Lib.hid ((hS.1.below ((Below.refl _ _).alloc (Nat.le_refl _) (.cells #[.string r.name, .bool r.choice, .slice A5 n5 c5] 34))).only (hb8.mono (by omega)) ho8 (by decide))
    have HQ8 := Lib.hid (ho8.bk (hS.2.alloc (.cells #[.string r.name, .bool r.choice, .slice A5 n5 c5] 34)) (by decide))
    have HS8 : Hid (W2.heap.size + 1 ≤ W8.heap.size) := Lib.hid (by have := ho8.size; simp at this; omega)
    clear hrow8 hb8 ho8 hS hHeld
    (refine hK.out _ _ (fun hnn => ⟨HL8.out, HQ8.out⟩) ?_; clear hK K; try simp only [Act.put, List.setIfInBounds_toArray, List.set_cons_zero, List.set_cons_succ])
    have hHeld := And.intro HL8.out HQ8.out
    (refine wpAnyL_take0 9 (v := ?_) rfl (by kernel_rfl) (by kernel_rfl) (by kernel_rfl) (by kernel_rfl) (fun _ _ _ h => h) (fun _ => by assumption) (by rfl) ?_ ?_; rotate_left; · (intro w; go_simp; try with_reducible rfl); try simp only [Act.put, List.setIfInBounds_toArray, List.set_cons_zero, List.set_cons_succ])
    have q8 := HQ8.out.cell 1
    have q9 := HQ8.out.frozen 1
    simp only [List.size_toArray, List.length_cons, List.length_nil, List.getElem?_toArray, List.getElem?_cons_succ, List.getElem?_cons_zero] at q8
    (refine wpAnyL_step 10 (by kernel_rfl) rfl (fun K hK => ?_))
    go_simp
    (refine hK.out _ _ (fun hnn => absurd hnn (by decide)) ?_; clear hK K; try simp only [Act.put, List.setIfInBounds_toArray, List.set_cons_zero, List.set_cons_succ])
    clear q8 q9 hHeld
    refine wpAnyL_done (by kernel_rfl) ?_ _
    refine NoPanic.normal ?_
    have hne : ¬ w.heap.size = W2.heap.size := by omega
    have HL9 : Hid (Chk.Lx w (W8.setCell ⟨W2.heap.size, 1, none⟩ (.slice A7 n7 c7)) S) := Lib.hid (by
      have h := HL8.out
      rw [← HSeq.out] at h
      exact ⟨h.bel.setCell (p := ⟨W2.heap.size, 1, none⟩) (by show w.heap.size ≤ W2.heap.size; omega) _, h.box.far (by simp; omega) _⟩)
    have HQ9 : Hid (Bk (W8.setCell ⟨W2.heap.size, 1, none⟩ (.slice A7 n7 c7)) W2.heap.size 26 #[.string x.name, .slice A7 n7 c7, .slice A2 n2 c2, .slice A3 n3 c3]) := Lib.hid (HQ8.out.set_ 1 (.slice A7 n7 c7))
    have HS9 : Hid (W2.heap.size + 1 ≤ (W8.setCell ⟨W2.heap.size, 1, none⟩ (.slice A7 n7 c7)).heap.size) := Lib.hid (by have := HS8.out; simpa [World.setCell] using this)
    have HR9 : Hid (ERow (W8.setCell ⟨W2.heap.size, 1, none⟩ (.slice A7 n7 c7)) (some (W2.heap.size + 1)) 34 3 (fun _ cs r => Id.RecE none w cs r) (.slice A7 n7 c7) ((x.records.drop j).reverse)) := Lib.hid (by
      rw [HD.out]
      exact ERow.kp HROW.out ((Only.set HQ8.out 1 (.slice A7 n7 c7)).kp _ (T := [34]) (by decide)) (Nat.le_refl _) (by decide) (fun _ _ h => h))
    go_wp2_with fail
    go_roundw
    case rel => exact ⟨j, _, by omega, by go_num, HL9, HS9, HQ9, HR9⟩
    case measure => simp [intOf]
end Go.Proofs.YtnnkppeafnpdcaaDoor
