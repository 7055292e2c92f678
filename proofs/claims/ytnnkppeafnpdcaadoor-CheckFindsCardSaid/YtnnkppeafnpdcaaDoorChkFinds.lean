/- CheckFinds: the walk. No condition. -/
import Derived.Test.YtnnkppeafnpdcaaDoorKC5
import Derived.Test.YtnnkppeafnpdcaaDoorIdlY
set_option linter.unusedVariables false
set_option linter.unusedSimpArgs false
namespace Go.Proofs.YtnnkppeafnpdcaaDoor
open Go.RowKit Go.BigFrame
/-- Within a law over a schema: its box, what lay there. -/
structure Chk.Lw (w wr : World) (S : Array Value) : Prop where
  bel : Below w.heap.size w wr
  box : Bk wr w.heap.size 26 S
theorem Chk.Lw.below {w wr w' : World} {S : Array Value} (h : Chk.Lw w wr S) (hb : Below wr.heap.size wr w') : Chk.Lw w w' S := ⟨h.bel.trans (hb.mono h.bel.size), h.box.below hb h.box.lt⟩
theorem Chk.Lw.start {w wr : World} {S : Array Value} (h : wr = w.alloc (.cells S 26)) : Chk.Lw w wr S := by
  subst h
  exact ⟨(Below.refl _ _).alloc (Nat.le_refl _) _, Bk.new _ _ _⟩
set_option maxRecDepth 100000 in
set_option maxHeartbeats 16000000 in
theorem checkFinds_walk (v : Value) (x : Id.Sch) (name other : ByteArray) (w0 : World) (hv : Id.SchV w0 none v x) (hw1 : name.size ≤ maxLen) (hw2 : other.size ≤ maxLen) (w : World) (he : w = w0) (hk : Tk.KW w) :
    Calls Tryd.prog 5 #[v, .string name, .string other] w fun e w' => e = .returned (.bool true) ∧ Below w.heap.size w w' := by
  subst he
  have HV := Lib.hid hv
  have HKW := Lib.hid hk
  obtain ⟨A1, n1, c1, A2, n2, c2, A3, n3, c3, rfl, -⟩ := hv
  have hsz1 : name.size ≤ 9223372036854775807 := hw1
  have hsz2 : other.size ≤ 9223372036854775807 := hw2
  clear hw1 hw2 hk
  go_enter Tryd.func5, Tryd.ntmps5
  go_upto_region 1 with (fail)
  refine wp_named (fun W0 hW0 => ?_)
  have HL := Lib.hid (Chk.Lw.start hW0)
  clear hW0
  obtain ⟨⟨q0, q1, q2, q3⟩, -⟩ := HL.out.box.k4
  go_wp2_with fail
  refine (cgreat_any _ x _ (Id.SchV.below HL.out.bel HV.out)).mono ?_
  rintro e W1 ⟨b, rfl, hb, hg⟩
  have HL1 := Lib.hid (HL.out.below hb)
  have HG := Lib.hid hg
  clear HL hb hg q0 q1 q2 q3
  have done : ∀ W, Below w.heap.size w W → Calls Tryd.prog 9 #[] W fun e w' => e = .returned (.bool true) ∧ Below w.heap.size w w' := fun W hW => (wakes13_any W (HKW.out.below hW)).mono fun _ _ ⟨h1, h2⟩ => ⟨h1, hW.trans (h2.mono hW.size)⟩
  have HDN := Lib.hid done
  clear done
  cases b
  case true =>
    go_wp2_with fail
    refine (HDN.out _ HL1.out.bel).mono ?_
    rintro e W2 ⟨rfl, hb2⟩
    go_wp2_with fail
    go_ret
    exact ⟨rfl, hb2⟩
  have HFG := Lib.hid (HG.out rfl)
  have HFi := Lib.hid HFG.out.fine
  clear HG
  by_cases g1 : name.size ≤ 200
  case neg =>
    have g1' : 200 < name.size := by omega
    go_wp2_with fail
    refine (HDN.out _ HL1.out.bel).mono ?_
    rintro e W2 ⟨rfl, hb2⟩
    go_wp2_with fail
    go_ret
    exact ⟨rfl, hb2⟩
  by_cases g2 : other.size ≤ 200
  case neg =>
    have g2' : 200 < other.size := by omega
    go_wp2_with fail
    refine (HDN.out _ HL1.out.bel).mono ?_
    rintro e W2 ⟨rfl, hb2⟩
    go_wp2_with fail
    go_ret
    exact ⟨rfl, hb2⟩
  -- check.Find
  obtain ⟨⟨q0, q1, q2, q3⟩, -⟩ := HL1.out.box.k4
  go_wp2_with fail
  refine (cfind_any _ x name HFi.out.small _ (Id.SchV.below HL1.out.bel HV.out)).mono ?_
  rintro e W2 ⟨u, rfl, hb2, hu⟩
  obtain ⟨F, HFd⟩ : ∃ F, Hid (Chk.find x name = F) := ⟨_, Lib.hid rfl⟩
  rw [HFd.out] at hu ⊢
  obtain ⟨r, Hr⟩ : ∃ r, Hid (F.getD Chk.recZ = r) := ⟨_, Lib.hid rfl⟩
  rw [Hr.out] at hu
  obtain ⟨rn, rc, rf⟩ := r
  obtain ⟨u2, rfl, hu2⟩ := hu
  obtain ⟨A5, n5, c5, rfl⟩ := ERow.is hu2
  simp only at hu2 ⊢
  have HL2 := Lib.hid (HL1.out.below hb2)
  have HR2 := Lib.hid (ERow.mono hu2 (fun _ _ hr => hr.weak (fun b' e => by cases e)) (fun _ _ h => Id.FldE.weak (Id.wk_none _) _ _ h) : Id.FldsR W2 none (.slice A5 n5 c5) rf)
  clear hb2 hu2 q0 q1 q2 q3 HL1
  obtain ⟨fb, Hfb⟩ : ∃ fb, Hid (F.isSome = fb) := ⟨_, Lib.hid rfl⟩
  rw [Hfb.out]
  go_upto_region 4 with (fail)
  refine wp_named (fun W3 hW3 => ?_)
  obtain ⟨hb3, hq3, -⟩ := fresh_box hW3
  clear hW3
  have HL3 := Lib.hid (HL2.out.below hb3)
  have HQ3 := Lib.hid hq3
  have HR3 : Hid (Id.FldsR W3 none (.slice A5 n5 c5) rf) := Lib.hid (ERow.below HR2.out hb3 (Id.FldE.below hb3))
  clear hb3 hq3 HL2 HR2
  obtain ⟨⟨q0, q1, q2, q3⟩, -⟩ := HL3.out.box.k4
  go_wp2_with fail
  refine (rfind_any _ x name _ (Id.SchV.below HL3.out.bel HV.out)).mono ?_
  rintro e X2 ⟨u, rfl, hb, hu⟩
  rw [HFd.out, Hr.out] at hu
  rw [HFd.out, Hfb.out]
  obtain ⟨u2, rfl, hu2⟩ := hu
  obtain ⟨A6, n6, c6, rfl⟩ := ERow.is hu2
  simp only at hu2 ⊢
  have HR4 := Lib.hid hu2
  have HLx := Lib.hid (HL3.out.below hb)
  have hx := Lib.hid (HQ3.out.below hb HQ3.out.lt)
  clear HQ3
  have HQ3 := hx
  clear hx
  have hx := Lib.hid (ERow.below HR3.out hb (Id.FldE.below hb))
  clear HR3
  have HR3 := hx
  clear hx
  clear hb q0 q1 q2 q3
  clear hu2
  go_upto_region 5 with (fail)
  refine wp_named (fun Wn4 hWn => ?_)
  obtain ⟨hbn, hqn, -⟩ := fresh_box hWn
  clear hWn
  have HLy := Lib.hid (HLx.out.below hbn)
  have hx := Lib.hid (HQ3.out.below hbn HQ3.out.lt)
  clear HQ3
  have HQ3 := hx
  clear hx
  have hx := Lib.hid (ERow.below HR3.out hbn (Id.FldE.below hbn))
  clear HR3
  have HR3 := hx
  clear hx
  have hx := Lib.hid (ERow.below HR4.out hbn (Id.FldE.below hbn))
  clear HR4
  have HR4 := hx
  clear hx
  have HQ4 := Lib.hid hqn
  clear hbn hqn HLx HL3
  have HL3 := HLy
  clear HLy
  obtain ⟨⟨q0, q1, q2, q3⟩, -⟩ := HL3.out.box.k4
  go_wp2_with fail
  refine (cmethod_any _ x name other _ (Id.SchV.below HL3.out.bel HV.out)).mono ?_
  rintro e X3 ⟨rfl, hb⟩
  obtain ⟨MO, HMO⟩ : ∃ MO, Hid (Chk.meth x name other = MO) := ⟨_, Lib.hid rfl⟩
  rw [HMO.out]
  obtain ⟨U, HU⟩ : ∃ U, Hid (MO.getD Chk.mthZ = U) := ⟨_, Lib.hid rfl⟩
  obtain ⟨mb, Hmb⟩ : ∃ mb, Hid (MO.isSome = mb) := ⟨_, Lib.hid rfl⟩
  rw [HU.out, Hmb.out]
  obtain ⟨u0, u1, u2, u3, u4⟩ := U
  unfold Chk.mthV
  simp only
  have HLx := Lib.hid (HL3.out.below hb)
  have hx := Lib.hid (HQ3.out.below hb HQ3.out.lt)
  clear HQ3
  have HQ3 := hx
  clear hx
  have hx := Lib.hid (HQ4.out.below hb HQ4.out.lt)
  clear HQ4
  have HQ4 := hx
  clear hx
  have hx := Lib.hid (ERow.below HR3.out hb (Id.FldE.below hb))
  clear HR3
  have HR3 := hx
  clear hx
  have hx := Lib.hid (ERow.below HR4.out hb (Id.FldE.below hb))
  clear HR4
  have HR4 := hx
  clear hx
  clear hb q0 q1 q2 q3
  go_upto_region 6 with (fail)
  refine wp_named (fun Wn5 hWn => ?_)
  obtain ⟨hbn, hqn, -⟩ := fresh_box hWn
  clear hWn
  have HLy := Lib.hid (HLx.out.below hbn)
  have hx := Lib.hid (HQ3.out.below hbn HQ3.out.lt)
  clear HQ3
  have HQ3 := hx
  clear hx
  have hx := Lib.hid (HQ4.out.below hbn HQ4.out.lt)
  clear HQ4
  have HQ4 := hx
  clear hx
  have hx := Lib.hid (ERow.below HR3.out hbn (Id.FldE.below hbn))
  clear HR3
  have HR3 := hx
  clear hx
  have hx := Lib.hid (ERow.below HR4.out hbn (Id.FldE.below hbn))
  clear HR4
  have HR4 := hx
  clear hx
  have HQ5 := Lib.hid hqn
  clear hbn hqn HLx HL3
  have HL3 := HLy
  clear HLy
  obtain ⟨⟨q0, q1, q2, q3⟩, -⟩ := HL3.out.box.k4
  go_wp2_with fail
  refine (rmethod_any _ x name other _ (Id.SchV.below HL3.out.bel HV.out)).mono ?_
  rintro e X4 ⟨rfl, hb⟩
  rw [HMO.out, HU.out, Hmb.out]
  unfold Chk.mthV
  simp only
  have HLx := Lib.hid (HL3.out.below hb)
  have hx := Lib.hid (HQ3.out.below hb HQ3.out.lt)
  clear HQ3
  have HQ3 := hx
  clear hx
  have hx := Lib.hid (HQ4.out.below hb HQ4.out.lt)
  clear HQ4
  have HQ4 := hx
  clear hx
  have hx := Lib.hid (HQ5.out.below hb HQ5.out.lt)
  clear HQ5
  have HQ5 := hx
  clear hx
  have hx := Lib.hid (ERow.below HR3.out hb (Id.FldE.below hb))
  clear HR3
  have HR3 := hx
  clear hx
  have hx := Lib.hid (ERow.below HR4.out hb (Id.FldE.below hb))
  clear HR4
  have HR4 := hx
  clear hx
  clear hb q0 q1 q2 q3
  go_upto_region 7 with (fail)
  refine wp_named (fun Wn6 hWn => ?_)
  obtain ⟨hbn, hqn, -⟩ := fresh_box hWn
  clear hWn
  have HLy := Lib.hid (HLx.out.below hbn)
  have hx := Lib.hid (HQ3.out.below hbn HQ3.out.lt)
  clear HQ3
  have HQ3 := hx
  clear hx
  have hx := Lib.hid (HQ4.out.below hbn HQ4.out.lt)
  clear HQ4
  have HQ4 := hx
  clear hx
  have hx := Lib.hid (HQ5.out.below hbn HQ5.out.lt)
  clear HQ5
  have HQ5 := hx
  clear hx
  have hx := Lib.hid (ERow.below HR3.out hbn (Id.FldE.below hbn))
  clear HR3
  have HR3 := hx
  clear hx
  have hx := Lib.hid (ERow.below HR4.out hbn (Id.FldE.below hbn))
  clear HR4
  have HR4 := hx
  clear hx
  have HQ6 := Lib.hid hqn
  clear hbn hqn HLx HL3
  have HL3 := HLy
  clear HLy
  obtain ⟨⟨q0, q1, q2, q3⟩, -⟩ := HL3.out.box.k4
  go_wp2_with fail
  refine (csaga_any _ x name (fun g hg => Nat.le_trans (HFi.out.sa g hg).2.1 (by decide)) _ (Id.SchV.below HL3.out.bel HV.out)).mono ?_
  rintro e X5 ⟨u, rfl, hb, hu⟩
  obtain ⟨GO, HGd⟩ : ∃ GO, Hid (Chk.sagaOf x name = GO) := ⟨_, Lib.hid rfl⟩
  rw [HGd.out] at hu ⊢
  obtain ⟨g, Hg⟩ : ∃ g, Hid (GO.getD Chk.sagZ = g) := ⟨_, Lib.hid rfl⟩
  rw [Hg.out] at hu
  obtain ⟨gn, ga, gs⟩ := g
  obtain ⟨v2, rfl, hv2⟩ := hu
  obtain ⟨A7, n7, c7, rfl⟩ := ERow.is hv2
  simp only at hv2 ⊢
  obtain ⟨gb, Hgb⟩ : ∃ gb, Hid (GO.isSome = gb) := ⟨_, Lib.hid rfl⟩
  rw [Hgb.out]
  have HR7 : Hid (ERow X5 none 50 3 Id.StpE (.slice A7 n7 c7) gs) := Lib.hid (ERow.mono hv2 (fun _ _ hr => hr.weak (fun b' e => by cases e)) (fun _ _ h => h))
  have HLx := Lib.hid (HL3.out.below hb)
  have hx := Lib.hid (HQ3.out.below hb HQ3.out.lt)
  clear HQ3
  have HQ3 := hx
  clear hx
  have hx := Lib.hid (HQ4.out.below hb HQ4.out.lt)
  clear HQ4
  have HQ4 := hx
  clear hx
  have hx := Lib.hid (HQ5.out.below hb HQ5.out.lt)
  clear HQ5
  have HQ5 := hx
  clear hx
  have hx := Lib.hid (HQ6.out.below hb HQ6.out.lt)
  clear HQ6
  have HQ6 := hx
  clear hx
  have hx := Lib.hid (ERow.below HR3.out hb (Id.FldE.below hb))
  clear HR3
  have HR3 := hx
  clear hx
  have hx := Lib.hid (ERow.below HR4.out hb (Id.FldE.below hb))
  clear HR4
  have HR4 := hx
  clear hx
  clear hb q0 q1 q2 q3
  clear hv2
  go_upto_region 8 with (fail)
  refine wp_named (fun Wn7 hWn => ?_)
  obtain ⟨hbn, hqn, -⟩ := fresh_box hWn
  clear hWn
  have HLy := Lib.hid (HLx.out.below hbn)
  have hx := Lib.hid (HQ3.out.below hbn HQ3.out.lt)
  clear HQ3
  have HQ3 := hx
  clear hx
  have hx := Lib.hid (HQ4.out.below hbn HQ4.out.lt)
  clear HQ4
  have HQ4 := hx
  clear hx
  have hx := Lib.hid (HQ5.out.below hbn HQ5.out.lt)
  clear HQ5
  have HQ5 := hx
  clear hx
  have hx := Lib.hid (HQ6.out.below hbn HQ6.out.lt)
  clear HQ6
  have HQ6 := hx
  clear hx
  have hx := Lib.hid (ERow.below HR3.out hbn (Id.FldE.below hbn))
  clear HR3
  have HR3 := hx
  clear hx
  have hx := Lib.hid (ERow.below HR4.out hbn (Id.FldE.below hbn))
  clear HR4
  have HR4 := hx
  clear hx
  have hx := Lib.hid (ERow.below HR7.out hbn Id.StpE.kp)
  clear HR7
  have HR7 := hx
  clear hx
  have HQ7 := Lib.hid hqn
  clear hbn hqn HLx HL3
  have HL3 := HLy
  clear HLy
  obtain ⟨⟨q0, q1, q2, q3⟩, -⟩ := HL3.out.box.k4
  go_wp2_with fail
  refine (rsaga_any _ x name _ (Id.SchV.below HL3.out.bel HV.out)).mono ?_
  rintro e X6 ⟨u, rfl, hb, hu⟩
  rw [HGd.out, Hg.out] at hu
  rw [HGd.out, Hgb.out]
  obtain ⟨v2, rfl, hv2⟩ := hu
  obtain ⟨A8, n8, c8, rfl⟩ := ERow.is hv2
  simp only at hv2 ⊢
  have HR8 := Lib.hid hv2
  have HLx := Lib.hid (HL3.out.below hb)
  have hx := Lib.hid (HQ3.out.below hb HQ3.out.lt)
  clear HQ3
  have HQ3 := hx
  clear hx
  have hx := Lib.hid (HQ4.out.below hb HQ4.out.lt)
  clear HQ4
  have HQ4 := hx
  clear hx
  have hx := Lib.hid (HQ5.out.below hb HQ5.out.lt)
  clear HQ5
  have HQ5 := hx
  clear hx
  have hx := Lib.hid (HQ6.out.below hb HQ6.out.lt)
  clear HQ6
  have HQ6 := hx
  clear hx
  have hx := Lib.hid (HQ7.out.below hb HQ7.out.lt)
  clear HQ7
  have HQ7 := hx
  clear hx
  have hx := Lib.hid (ERow.below HR3.out hb (Id.FldE.below hb))
  clear HR3
  have HR3 := hx
  clear hx
  have hx := Lib.hid (ERow.below HR4.out hb (Id.FldE.below hb))
  clear HR4
  have HR4 := hx
  clear hx
  have hx := Lib.hid (ERow.below HR7.out hb Id.StpE.kp)
  clear HR7
  have HR7 := hx
  clear hx
  clear hb q0 q1 q2 q3
  clear hv2
  go_upto_region 9 with (fail)
  refine wp_named (fun Wn8 hWn => ?_)
  obtain ⟨hbn, hqn, -⟩ := fresh_box hWn
  clear hWn
  have HLy := Lib.hid (HLx.out.below hbn)
  have hx := Lib.hid (HQ3.out.below hbn HQ3.out.lt)
  clear HQ3
  have HQ3 := hx
  clear hx
  have hx := Lib.hid (HQ4.out.below hbn HQ4.out.lt)
  clear HQ4
  have HQ4 := hx
  clear hx
  have hx := Lib.hid (HQ5.out.below hbn HQ5.out.lt)
  clear HQ5
  have HQ5 := hx
  clear hx
  have hx := Lib.hid (HQ6.out.below hbn HQ6.out.lt)
  clear HQ6
  have HQ6 := hx
  clear hx
  have hx := Lib.hid (HQ7.out.below hbn HQ7.out.lt)
  clear HQ7
  have HQ7 := hx
  clear hx
  have hx := Lib.hid (ERow.below HR3.out hbn (Id.FldE.below hbn))
  clear HR3
  have HR3 := hx
  clear hx
  have hx := Lib.hid (ERow.below HR4.out hbn (Id.FldE.below hbn))
  clear HR4
  have HR4 := hx
  clear hx
  have hx := Lib.hid (ERow.below HR7.out hbn Id.StpE.kp)
  clear HR7
  have HR7 := hx
  clear hx
  have hx := Lib.hid (ERow.below HR8.out hbn Id.StpE.kp)
  clear HR8
  have HR8 := hx
  clear hx
  have HQ8 := Lib.hid hqn
  clear hbn hqn HLx HL3
  have HL3 := HLy
  clear HLy
  obtain ⟨⟨a0, a1, a2⟩, -⟩ := HQ3.out.k3
  obtain ⟨⟨b0, b1, b2⟩, -⟩ := HQ4.out.k3
  go_wp2_with fail
  refine (samerec_any rn rn rc rc rf rf _ _ _ HR3.out HR4.out).mono ?_
  rintro e Y1 ⟨rfl, hb⟩
  rw [Id.recEq_refl]
  have HLx := Lib.hid (HL3.out.below hb)
  have hx := Lib.hid (HQ3.out.below hb HQ3.out.lt)
  clear HQ3
  have HQ3 := hx
  clear hx
  have hx := Lib.hid (HQ4.out.below hb HQ4.out.lt)
  clear HQ4
  have HQ4 := hx
  clear hx
  have hx := Lib.hid (HQ5.out.below hb HQ5.out.lt)
  clear HQ5
  have HQ5 := hx
  clear hx
  have hx := Lib.hid (HQ6.out.below hb HQ6.out.lt)
  clear HQ6
  have HQ6 := hx
  clear hx
  have hx := Lib.hid (HQ7.out.below hb HQ7.out.lt)
  clear HQ7
  have HQ7 := hx
  clear hx
  have hx := Lib.hid (HQ8.out.below hb HQ8.out.lt)
  clear HQ8
  have HQ8 := hx
  clear hx
  have hx := Lib.hid (ERow.below HR3.out hb (Id.FldE.below hb))
  clear HR3
  have HR3 := hx
  clear hx
  have hx := Lib.hid (ERow.below HR4.out hb (Id.FldE.below hb))
  clear HR4
  have HR4 := hx
  clear hx
  have hx := Lib.hid (ERow.below HR7.out hb Id.StpE.kp)
  clear HR7
  have HR7 := hx
  clear hx
  have hx := Lib.hid (ERow.below HR8.out hb Id.StpE.kp)
  clear HR8
  have HR8 := hx
  clear hx
  clear hb a0 a1 a2 b0 b1 b2 HL3
  obtain ⟨⟨a0, a1, a2, a3, a4⟩, -⟩ := HQ5.out.k5
  obtain ⟨⟨b0, b1, b2, b3, b4⟩, -⟩ := HQ6.out.k5
  obtain ⟨⟨d0, d1, d2⟩, -⟩ := HQ7.out.k3
  obtain ⟨⟨e0, e1, e2⟩, -⟩ := HQ8.out.k3
  cases fb <;> cases mb <;> cases gb
  all_goals
    go_wp2_with fail
    refine (samesag_any gn ga gn ga gs gs _ _ _ HR7.out HR8.out).mono ?_
    rintro e Y2 ⟨rfl, hb⟩
    rw [Id.sagEq_refl]
    have HLz := Lib.hid (HLx.out.bel.trans (hb.mono HLx.out.bel.size))
    go_wp2_with fail
    refine (HDN.out _ HLz.out).mono ?_
    rintro e Y3 ⟨rfl, hb3⟩
    go_wp2_with fail
    go_ret
    exact ⟨rfl, hb3⟩
end Go.Proofs.YtnnkppeafnpdcaaDoor
