/- The walk of CheckTells. No condition but the keywords' table. -/
import Derived.Test.YtnnkppeafnpdcaaDoorChkR8
set_option linter.unusedVariables false
set_option linter.unusedSimpArgs false
namespace Go.Proofs.YtnnkppeafnpdcaaDoor
open Go.RowKit Go.BigFrame
set_option maxRecDepth 100000 in
set_option maxHeartbeats 16000000 in
theorem checkTells_walk (v : Value) (x : Id.Sch) (w0 : World) (hv : Id.SchV w0 none v x) (w : World) (he : w = w0) (hk : Tk.KW w) :
    Calls Tryd.prog 3 #[v] w fun e w' => e = .returned (.bool true) ∧ Below w.heap.size w w' := by
  subst he
  have HV := Lib.hid hv
  have HKW := Lib.hid hk
  obtain ⟨A1, n1, c1, A2, n2, c2, A3, n3, c3, rfl, r1, r2, r3⟩ := hv
  clear hk r1 r2 r3
  go_enter Tryd.func3, Tryd.ntmps3
  go_upto_region 1 with (fail)
  refine wp_named (fun V hV => ?_)
  have HL := Lib.hid (Chk.Lx.start hV)
  clear hV
  obtain ⟨⟨q0, q1, q2, q3⟩, -⟩ := HL.out.box.k4
  have done : ∀ W, Below w.heap.size w W → Calls Tryd.prog 9 #[] W fun e w' => e = .returned (.bool true) ∧ Below w.heap.size w w' := fun W hW => (wakes13_any W (HKW.out.below hW)).mono fun _ _ ⟨h1, h2⟩ => ⟨h1, hW.trans (h2.mono hW.size)⟩
  have HDN := Lib.hid done
  clear done
  go_wp2_with fail
  refine (cgreat_any _ x _ (Id.SchV.below HL.out.bel HV.out)).mono ?_
  rintro e W1 ⟨b, rfl, hb, hg⟩
  have HG := Lib.hid hg
  have HLx := Lib.hid (HL.out.below hb)
  clear hg q0 q1 q2 q3 hb HL
  cases b
  case true =>
    go_wp2_with fail
    refine (HDN.out _ HLx.out.bel).mono ?_
    rintro e W2 ⟨rfl, hb2⟩
    go_wp2_with fail
    go_ret
    exact ⟨rfl, hb2⟩
  have HF := Lib.hid (HG.out rfl).fine
  clear HG
  obtain ⟨⟨q0, q1, q2, q3⟩, -⟩ := HLx.out.box.k4
  obtain ⟨p, Hp⟩ : ∃ p, Hid (Chk.check x = p) := ⟨_, Lib.hid rfl⟩
  go_wp2_with fail
  refine (ccheck_any _ x HF.out _ (HKW.out.below HLx.out.bel) (Id.SchV.below HLx.out.bel HV.out)).mono ?_
  rw [Hp.out]
  rintro e W2 ⟨rfl, hb⟩
  have HL := Lib.hid (HLx.out.below hb)
  clear HLx hb q0 q1 q2 q3
  obtain ⟨⟨q0, q1, q2, q3⟩, -⟩ := HL.out.box.k4
  go_wp2_with fail
  refine (rcheck_any _ x HF.out _ (Id.SchV.below HL.out.bel HV.out)).mono ?_
  rw [Chk.doc_check, Hp.out]
  unfold Chk.docV
  rintro e W3 ⟨rfl, hb⟩
  have HLx := Lib.hid (HL.out.below hb)
  clear HL hb q0 q1 q2 q3 Hp
  obtain ⟨ps, pe⟩ := p
  simp only
  have HB := Lib.hid HLx.out.bel
  clear HLx
  go_wp2_with fail
  refine (HDN.out _ HB.out).mono ?_
  rintro e W4 ⟨rfl, hb2⟩
  go_wp2_with fail
  go_ret
  exact ⟨rfl, hb2⟩
end Go.Proofs.YtnnkppeafnpdcaaDoor
