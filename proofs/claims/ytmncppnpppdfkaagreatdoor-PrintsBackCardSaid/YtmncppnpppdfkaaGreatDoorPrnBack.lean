/- The walk of PrintsBack (printed by gen_prnback.py). No condition but the keywords' table. -/
import Derived.Test.YtmncppnpppdfkaaGreatDoorPrnWk
import Derived.Test.YtmncppnpppdfkaaGreatDoorIdlZ
set_option linter.unusedVariables false
set_option linter.unusedSimpArgs false
namespace Go.Proofs.YtmncppnpppdfkaaGreatDoor
open Go.RowKit Go.BigFrame
namespace Prn
open Go.Proofs.YtmncppnpppdfkaaGreatDoor.Id Go.Proofs.YtmncppnpppdfkaaGreatDoor.Chk
theorem text_bad {x : Sch} (h : (text x).2 ≠ 0) : (text x).1 = ⟨#[]⟩ := by
  unfold text at h ⊢
  split
  · rfl
  · next h1 =>
    rw [if_neg h1] at h
    split
    · rfl
    · next h2 => rw [if_neg h2] at h; exact absurd rfl h
theorem text_good {x : Sch} {s : ByteArray} (h : text x = (s, 0)) : Right x ∧ s = jn (schW x) ∧ s.size ≤ 65536 := by
  unfold text at h
  split at h
  · next h1 => injection h with _ h2; exact absurd h2 h1
  · next h1 =>
    split at h
    · next h2 => injection h with _ h3; cases h3
    · next h2 =>
      injection h with h3 _
      refine ⟨check_ok (by simpa using h1), h3.symm, ?_⟩
      rw [← h3]
      omega
theorem text_parse {x : Sch} {s : ByteArray} (h : text x = (s, 0)) : parse s = (x, 0, 0) := by
  obtain ⟨h1, h2, h3⟩ := text_good h
  subst h2
  exact parse_text (ok_of_right h1) h3
end Prn
set_option maxRecDepth 100000 in
set_option maxHeartbeats 16000000 in
theorem printsBack_walk (v : Value) (x : Id.Sch) (w0 : World) (hv : Id.SchV w0 none v x) (w : World) (he : w = w0) (hk : Tk.KW w) :
    Calls Tryz.prog 5 #[v] w fun e w' => e = .returned (.bool true) ∧ Below w.heap.size w w' := by
  subst he
  have HV := Lib.hid hv
  have HKW := Lib.hid hk
  obtain ⟨A1, n1, c1, A2, n2, c2, A3, n3, c3, rfl, r1, r2, r3⟩ := hv
  clear hk r1 r2 r3
  go_enter Tryz.func5, Tryz.ntmps5
  go_upto_region 1 with (fail)
  refine wp_named (fun V hV => ?_)
  have HL := Lib.hid (Chk.Lx.start hV)
  clear hV
  obtain ⟨⟨q0, q1, q2, q3⟩, -⟩ := HL.out.box.k4
  have done : ∀ W, Below w.heap.size w W → Calls Tryz.prog 14 #[] W fun e w' => e = .returned (.bool true) ∧ Below w.heap.size w w' := fun W hW => (wakes14_any W (HKW.out.below hW)).mono fun _ _ ⟨h1, h2⟩ => ⟨h1, hW.trans (h2.mono hW.size)⟩
  have HDN := Lib.hid done
  clear done
  go_wp2_with fail
  refine (cgreat_any _ x _ (Id.SchV.below HL.out.bel HV.out)).mono ?_
  rintro e W1 ⟨b, rfl, hb, hg⟩
  have HG := Lib.hid hg
  have HL1 := Lib.hid (HL.out.below hb)
  clear hg q0 q1 q2 q3 hb HL
  cases b
  case true =>
    go_wp2_with fail
    refine (HDN.out _ HL1.out.bel).mono ?_
    rintro e W9 ⟨rfl, hb9⟩
    go_wp2_with fail
    go_ret
    exact ⟨rfl, hb9⟩
  have HF := Lib.hid (HG.out rfl).fine
  clear HG
  obtain ⟨⟨q0, q1, q2, q3⟩, -⟩ := HL1.out.box.k4
  have hbad := Prn.text_bad (x := x)
  have hgood : ∀ s, Prn.text x = (s, 0) → Id.parse s = (x, 0, 0) := fun s h => Prn.text_parse h
  obtain ⟨p, Hp⟩ : ∃ p, Hid (Prn.text x = p) := ⟨_, Lib.hid rfl⟩
  rw [Hp.out] at hbad hgood
  have HBAD := Lib.hid hbad
  have HGOOD := Lib.hid hgood
  clear hbad hgood
  have hsz : p.1.size ≤ 65536 := by rw [← Hp.out]; exact Prn.text_size x
  go_wp2_with fail
  refine (pText_any _ x HF.out _ (HKW.out.below HL1.out.bel) (Id.SchV.below HL1.out.bel HV.out)).mono ?_
  rw [Hp.out]
  unfold Chk.docV
  rintro e W2 ⟨rfl, hb⟩
  have HL2 := Lib.hid (HL1.out.below hb)
  clear hb q0 q1 q2 q3 HL1
  obtain ⟨ps, pe⟩ := p
  simp only at hsz ⊢
  by_cases hpe : pe = 0
  case neg =>
    have HE : Hid (ps = ⟨#[]⟩) := Lib.hid (HBAD.out hpe)
    obtain rfl := HE.out
    have t1 : ((pe : Int) != 0) = true := by rw [bne_iff_ne]; omega
    have t2 : ¬ (pe : Int) = 0 := by omega
    have t3 : ((pe : Int) == 0) = false := by rw [beq_eq_false_iff_ne]; omega
    clear hpe hsz HGOOD
    go_wp2_with fail
    refine (HDN.out _ HL2.out.bel).mono ?_
    rintro e W9 ⟨rfl, hb9⟩
    go_wp2_with fail
    go_ret
    exact ⟨rfl, hb9⟩
  subst hpe
  have HPA := Lib.hid (HGOOD.out _ rfl)
  clear HBAD HGOOD
  go_wp2_with fail
  refine (pparse_any ps (by omega) _ (HKW.out.below HL2.out.bel)).mono ?_
  rintro e W3 ⟨u, rfl, hb, hu⟩
  rw [HPA.out] at hu ⊢
  have HL3 := Lib.hid (HL2.out.below hb)
  have HU3 := Lib.hid (Id.SchV.weak (Id.wk_none _) hu : Id.SchV W3 none u x)
  obtain ⟨B1, m1, d1, B2, m2, d2, B3, m3, d3, rfl, -⟩ := hu
  clear hb HL2
  simp only
  go_upto_region 7 with (fail)
  refine wp_named (fun W4 hW => ?_)
  obtain ⟨hb4, hq4, -⟩ := fresh_box hW
  clear hW
  have HL4 := Lib.hid (HL3.out.below hb4)
  have HU4 := Lib.hid (Id.SchV.below hb4 HU3.out)
  have HQ4 := Lib.hid hq4
  clear hb4 hq4 HL3 HU3
  obtain ⟨⟨q0, q1, q2, q3⟩, -⟩ := HL4.out.box.k4
  obtain ⟨⟨p0, p1, p2, p3⟩, -⟩ := HQ4.out.k4
  go_wp2_with fail
  refine (same12_any x x _ _ _ (Id.SchV.below HL4.out.bel HV.out) HU4.out).mono ?_
  rw [Id.schEq_refl]
  rintro e W5 ⟨rfl, hb⟩
  have HL5 := Lib.hid (HL4.out.below hb)
  have HU5 := Lib.hid (Id.SchV.below hb HU4.out)
  have HQ5 := Lib.hid (HQ4.out.below hb HQ4.out.lt)
  clear hb HL4 HU4 HQ4 q0 q1 q2 q3 p0 p1 p2 p3
  obtain ⟨⟨p0, p1, p2, p3⟩, -⟩ := HQ5.out.k4
  go_wp2_with fail
  refine (pText_any _ x HF.out _ (HKW.out.below HL5.out.bel) HU5.out).mono ?_
  rw [Hp.out]
  unfold Chk.docV
  rintro e W6 ⟨rfl, hb⟩
  have HB6 := Lib.hid (HL5.out.bel.trans (hb.mono HL5.out.bel.size))
  clear hb HL5 HU5 HQ5 p0 p1 p2 p3
  simp only
  go_wp2_with fail
  refine (HDN.out _ HB6.out).mono ?_
  rintro e W9 ⟨rfl, hb9⟩
  go_wp2_with fail
  go_ret
  exact ⟨rfl, hb9⟩
end Go.Proofs.YtmncppnpppdfkaaGreatDoor
