/- The walk of PrintsTexts. No condition but the keywords' table. -/
import Derived.Test.YtmncppnpppdfkaaGreatDoorPTPrnR2
import Derived.Test.YtmncppnpppdfkaaGreatDoorPTPrnWk
set_option linter.unusedVariables false
set_option linter.unusedSimpArgs false
namespace Go.Proofs.YtmncppnpppdfkaaGreatDoor
open Go.RowKit Go.BigFrame
set_option maxRecDepth 100000 in
set_option maxHeartbeats 16000000 in
theorem printsTexts_walk (v : Value) (x : Id.Sch) (w0 : World) (hv : Id.SchV w0 none v x) (w : World) (he : w = w0) (hk : Tk.KW w) :
    Calls Tryz.prog 3 #[v] w fun e w' => e = .returned (.bool true) ∧ Below w.heap.size w w' := by
  subst he
  have HV := Lib.hid hv
  have HKW := Lib.hid hk
  obtain ⟨A1, n1, c1, A2, n2, c2, A3, n3, c3, rfl, r1, r2, r3⟩ := hv
  clear hk r1 r2 r3
  go_enter Tryz.func3, Tryz.ntmps3
  go_upto_region 1 with (fail)
  refine wp_named (fun V hV => ?_)
  have HL := Lib.hid (Chk.Lx.start hV)
  clear hV
  obtain ⟨⟨q0, q1, q2, q3⟩, -⟩ := HL.out.box.k4
  have done : ∀ W, Below w.heap.size w W → Calls Tryz.prog 14 #[] W fun e w' => e = .returned (.bool true) ∧ Below w.heap.size w w' := fun W hW => (wakes14_any W (HKW.out.below hW)).mono fun _ _ ⟨h1, h2⟩ => ⟨h1, hW.trans (h2.mono hW.size)⟩
  have HDN := Lib.hid done
  clear done
  go_wp2_with fail
  refine (cgreat_any _ x _ (Id.SchV.below HL.out.bel HV.out)).mono ?_
  rintro e W1 ⟨b, rfl, hb, hg⟩
  have HG := Lib.hid hg
  have HL1 := Lib.hid (HL.out.below hb)
  clear hg q0 q1 q2 q3 hb HL
  cases b
  case true =>
    go_wp2_with fail
    refine (HDN.out _ HL1.out.bel).mono ?_
    rintro e W2 ⟨rfl, hb2⟩
    go_wp2_with fail
    go_ret
    exact ⟨rfl, hb2⟩
  have HF := Lib.hid (HG.out rfl).fine
  clear HG
  obtain ⟨p, Hp⟩ : ∃ p, Hid (Prn.text x = p) := ⟨_, Lib.hid rfl⟩
  obtain ⟨q, Hq⟩ : ∃ q, Hid (Prn.print x = q) := ⟨_, Lib.hid rfl⟩
  obtain ⟨⟨q0, q1, q2, q3⟩, -⟩ := HL1.out.box.k4
  go_wp2_with fail
  refine (pText_any _ x HF.out _ (HKW.out.below HL1.out.bel) (Id.SchV.below HL1.out.bel HV.out)).mono ?_
  rw [Hp.out]
  unfold Chk.docV
  rintro e W2 ⟨rfl, hb⟩
  have HL2 := Lib.hid (HL1.out.below hb)
  clear hb q0 q1 q2 q3 HL1
  obtain ⟨⟨q0, q1, q2, q3⟩, -⟩ := HL2.out.box.k4
  go_wp2_with fail
  refine (rText_any _ x HF.out _ (Id.SchV.below HL2.out.bel HV.out)).mono ?_
  rw [Hp.out]
  unfold Chk.docV
  rintro e W3 ⟨rfl, hb⟩
  have HL3 := Lib.hid (HL2.out.below hb)
  clear hb q0 q1 q2 q3 HL2
  obtain ⟨⟨q0, q1, q2, q3⟩, -⟩ := HL3.out.box.k4
  go_wp2_with fail
  refine (pPrint_any _ x HF.out _ (HKW.out.below HL3.out.bel) (Id.SchV.below HL3.out.bel HV.out)).mono ?_
  rw [Hq.out]
  rintro e W4 ⟨rfl, hb⟩
  have HL4 := Lib.hid (HL3.out.below hb)
  clear hb q0 q1 q2 q3 HL3
  obtain ⟨⟨q0, q1, q2, q3⟩, -⟩ := HL4.out.box.k4
  go_wp2_with fail
  refine (rPrint_any _ x HF.out _ (Id.SchV.below HL4.out.bel HV.out)).mono ?_
  rw [Hq.out]
  rintro e W5 ⟨rfl, hb⟩
  have HB5 := Lib.hid (HL4.out.bel.trans (hb.mono HL4.out.bel.size))
  clear hb q0 q1 q2 q3 HL4 Hp Hq
  obtain ⟨ps, pe⟩ := p
  obtain ⟨qs, qe⟩ := q
  simp only
  go_wp2_with fail
  refine (HDN.out _ HB5.out).mono ?_
  rintro e W6 ⟨rfl, hb2⟩
  go_wp2_with fail
  go_ret
  exact ⟨rfl, hb2⟩
end Go.Proofs.YtmncppnpppdfkaaGreatDoor
