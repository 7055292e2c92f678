/- The walk of PrintsAlike (printed by gen_prnalike.py). No condition but the keywords' table. -/
import Derived.Test.YtmncppnpppdfkaaDoorPrnEq
import Derived.Test.YtmncppnpppdfkaaDoorPrnWk
import Derived.Test.YtmncppnpppdfkaaDoorIdlZ
set_option linter.unusedVariables false
set_option linter.unusedSimpArgs false
namespace Go.Proofs.YtmncppnpppdfkaaDoor
open Go.RowKit Go.BigFrame
set_option maxRecDepth 100000 in
set_option maxHeartbeats 16000000 in
theorem printsAlike_walk (va : Value) (x : Id.Sch) (vb : Value) (y : Id.Sch) (w0 : World) (ha : Id.SchV w0 none va x) (hb : Id.SchV w0 none vb y) (w : World) (he : w = w0) (hk : Tk.KW w) :
    Calls Tryd.prog 3 #[va, vb] w fun e w' => e = .returned (.bool true) ∧ Below w.heap.size w w' := by
  subst he
  have HVA := Lib.hid ha
  have HVB := Lib.hid hb
  have HKW := Lib.hid hk
  obtain ⟨A1, n1, c1, A2, n2, c2, A3, n3, c3, rfl, -, -, -⟩ := ha
  obtain ⟨B1, m1, d1, B2, m2, d2, B3, m3, d3, rfl, -, -, -⟩ := hb
  clear hk
  go_enter Tryd.func3, Tryd.ntmps3
  go_upto_region 1 with (fail)
  refine wp_named (fun V hV => ?_)
  have HB : Hid (Below w.heap.size w V) := Lib.hid (by subst hV; exact ((Below.refl _ _).alloc (Nat.le_refl _) _).alloc (by simp) _)
  have HQA : Hid (Bk V w.heap.size 26 #[.string x.name, .slice A1 n1 c1, .slice A2 n2 c2, .slice A3 n3 c3]) := Lib.hid (by subst hV; exact (Bk.new w _ _).alloc _)
  have HQB : Hid (Bk V (w.heap.size + 1) 26 #[.string y.name, .slice B1 m1 d1, .slice B2 m2 d2, .slice B3 m3 d3]) := Lib.hid (by subst hV; have h := Bk.new (w.alloc (.cells #[.string x.name, .slice A1 n1 c1, .slice A2 n2 c2, .slice A3 n3 c3] 26)) 26 #[.string y.name, .slice B1 m1 d1, .slice B2 m2 d2, .slice B3 m3 d3]; rw [World.size_alloc] at h; exact h)
  clear hV
  obtain ⟨⟨q0, q1, q2, q3⟩, -⟩ := HQA.out.k4
  obtain ⟨⟨p0, p1, p2, p3⟩, -⟩ := HQB.out.k4
  have done : ∀ W, Below w.heap.size w W → Calls Tryd.prog 6 #[] W fun e w' => e = .returned (.bool true) ∧ Below w.heap.size w w' := fun W hW => (wakes14_any W (HKW.out.below hW)).mono fun _ _ ⟨h1, h2⟩ => ⟨h1, hW.trans (h2.mono hW.size)⟩
  have HDN := Lib.hid done
  clear done
  go_wp2_with fail
  refine (cgreat_any _ x _ (Id.SchV.below HB.out HVA.out)).mono ?_
  rintro e Wx ⟨b, rfl, hb, hg⟩
  have HG := Lib.hid hg
  clear hg
  have HBx := Lib.hid (HB.out.trans (hb.mono HB.out.size))
  have HQAx := Lib.hid (HQA.out.below hb HQA.out.lt)
  have HQBx := Lib.hid (HQB.out.below hb HQB.out.lt)
  clear hb HB HQA HQB q0 q1 q2 q3 p0 p1 p2 p3
  have HB := HBx
  have HQA := HQAx
  have HQB := HQBx
  clear HBx HQAx HQBx
  obtain ⟨⟨q0, q1, q2, q3⟩, -⟩ := HQA.out.k4
  obtain ⟨⟨p0, p1, p2, p3⟩, -⟩ := HQB.out.k4
  cases b
  case true =>
    go_wp2_with fail
    refine (HDN.out _ HB.out).mono ?_
    rintro e W9 ⟨rfl, hb9⟩
    go_wp2_with fail
    go_ret
    exact ⟨rfl, hb9⟩
  have HFx := Lib.hid (HG.out rfl).fine
  clear HG
  go_wp2_with fail
  refine (cgreat_any _ y _ (Id.SchV.below HB.out HVB.out)).mono ?_
  rintro e Wy ⟨b, rfl, hb, hg⟩
  have HG := Lib.hid hg
  clear hg
  have HBx := Lib.hid (HB.out.trans (hb.mono HB.out.size))
  have HQAx := Lib.hid (HQA.out.below hb HQA.out.lt)
  have HQBx := Lib.hid (HQB.out.below hb HQB.out.lt)
  clear hb HB HQA HQB q0 q1 q2 q3 p0 p1 p2 p3
  have HB := HBx
  have HQA := HQAx
  have HQB := HQBx
  clear HBx HQAx HQBx
  obtain ⟨⟨q0, q1, q2, q3⟩, -⟩ := HQA.out.k4
  obtain ⟨⟨p0, p1, p2, p3⟩, -⟩ := HQB.out.k4
  cases b
  case true =>
    go_wp2_with fail
    refine (HDN.out _ HB.out).mono ?_
    rintro e W9 ⟨rfl, hb9⟩
    go_wp2_with fail
    go_ret
    exact ⟨rfl, hb9⟩
  have HFy := Lib.hid (HG.out rfl).fine
  clear HG
  obtain ⟨⟨sx, ex⟩, Htx⟩ : ∃ p, Hid (Prn.text x = p) := ⟨_, Lib.hid rfl⟩
  go_wp2_with fail
  refine (pText_any _ x HFx.out _ (HKW.out.below HB.out) (Id.SchV.below HB.out HVA.out)).mono ?_
  rw [Htx.out]
  unfold Chk.docV
  rintro e Tx ⟨rfl, hb⟩
  simp only
  have HBx := Lib.hid (HB.out.trans (hb.mono HB.out.size))
  have HQAx := Lib.hid (HQA.out.below hb HQA.out.lt)
  have HQBx := Lib.hid (HQB.out.below hb HQB.out.lt)
  clear hb HB HQA HQB q0 q1 q2 q3 p0 p1 p2 p3
  have HB := HBx
  have HQA := HQAx
  have HQB := HQBx
  clear HBx HQAx HQBx
  obtain ⟨⟨q0, q1, q2, q3⟩, -⟩ := HQA.out.k4
  obtain ⟨⟨p0, p1, p2, p3⟩, -⟩ := HQB.out.k4
  obtain ⟨⟨sy, ey⟩, Hty⟩ : ∃ p, Hid (Prn.text y = p) := ⟨_, Lib.hid rfl⟩
  go_wp2_with fail
  refine (pText_any _ y HFy.out _ (HKW.out.below HB.out) (Id.SchV.below HB.out HVB.out)).mono ?_
  rw [Hty.out]
  unfold Chk.docV
  rintro e Ty ⟨rfl, hb⟩
  simp only
  have HBx := Lib.hid (HB.out.trans (hb.mono HB.out.size))
  have HQAx := Lib.hid (HQA.out.below hb HQA.out.lt)
  have HQBx := Lib.hid (HQB.out.below hb HQB.out.lt)
  clear hb HB HQA HQB q0 q1 q2 q3 p0 p1 p2 p3
  have HB := HBx
  have HQA := HQAx
  have HQB := HQBx
  clear HBx HQAx HQBx
  obtain ⟨⟨q0, q1, q2, q3⟩, -⟩ := HQA.out.k4
  obtain ⟨⟨p0, p1, p2, p3⟩, -⟩ := HQB.out.k4
  by_cases hx : ex = 0
  case neg =>
    have t1 : ((ex : Int) != 0) = true := by rw [bne_iff_ne]; omega
    have t2 : ¬ (ex : Int) = 0 := by omega
    have t3 : ((ex : Int) == 0) = false := by rw [beq_eq_false_iff_ne]; omega
    clear hx
    go_wp2_with fail
    refine (HDN.out _ HB.out).mono ?_
    rintro e W9 ⟨rfl, hb9⟩
    go_wp2_with fail
    go_ret
    exact ⟨rfl, hb9⟩
  subst hx
  try simp only [Int.cast_ofNat_Int]
  by_cases hy : ey = 0
  case neg =>
    have t1 : ((ey : Int) != 0) = true := by rw [bne_iff_ne]; omega
    have t2 : ¬ (ey : Int) = 0 := by omega
    have t3 : ((ey : Int) == 0) = false := by rw [beq_eq_false_iff_ne]; omega
    clear hy
    go_wp2_with fail
    refine (HDN.out _ HB.out).mono ?_
    rintro e W9 ⟨rfl, hb9⟩
    go_wp2_with fail
    go_ret
    exact ⟨rfl, hb9⟩
  subst hy
  try simp only [Int.cast_ofNat_Int]
  have HSM := Lib.hid (Prn.text_same Htx.out Hty.out)
  have HEQ : Hid (Id.schEq x y = true → Prn.print x = Prn.print y) := Lib.hid (fun h => by rw [Prn.schEq_eq h])
  obtain ⟨b, HBq⟩ : ∃ b, Hid (Id.schEq x y = b) := ⟨_, Lib.hid rfl⟩
  obtain ⟨px, HPx⟩ : ∃ p, Hid (Prn.print x = p) := ⟨_, Lib.hid rfl⟩
  obtain ⟨py, HPy⟩ : ∃ p, Hid (Prn.print y = p) := ⟨_, Lib.hid rfl⟩
  have HEP : Hid (b = true → px = py) := Lib.hid (fun h => by rw [← HPx.out, ← HPy.out]; exact HEQ.out (by rw [HBq.out]; exact h))
  have HST : Hid ((sx.toList == sy.toList) = b) := Lib.hid (by rw [HSM.out, HBq.out])
  go_wp2_with fail
  refine (same12_any x y _ _ _ (Id.SchV.below HB.out HVA.out) (Id.SchV.below HB.out HVB.out)).mono ?_
  rw [HBq.out]
  rintro e Ws ⟨rfl, hb⟩
  have HBx := Lib.hid (HB.out.trans (hb.mono HB.out.size))
  have HQAx := Lib.hid (HQA.out.below hb HQA.out.lt)
  have HQBx := Lib.hid (HQB.out.below hb HQB.out.lt)
  clear hb HB HQA HQB q0 q1 q2 q3 p0 p1 p2 p3
  have HB := HBx
  have HQA := HQAx
  have HQB := HQBx
  clear HBx HQAx HQBx
  obtain ⟨⟨q0, q1, q2, q3⟩, -⟩ := HQA.out.k4
  obtain ⟨⟨p0, p1, p2, p3⟩, -⟩ := HQB.out.k4
  go_wp2_with fail
  refine (pPrint_any _ x HFx.out _ (HKW.out.below HB.out) (Id.SchV.below HB.out HVA.out)).mono ?_
  rw [HPx.out]
  rintro e Px ⟨rfl, hb⟩
  have HBx := Lib.hid (HB.out.trans (hb.mono HB.out.size))
  have HQAx := Lib.hid (HQA.out.below hb HQA.out.lt)
  have HQBx := Lib.hid (HQB.out.below hb HQB.out.lt)
  clear hb HB HQA HQB q0 q1 q2 q3 p0 p1 p2 p3
  have HB := HBx
  have HQA := HQAx
  have HQB := HQBx
  clear HBx HQAx HQBx
  obtain ⟨⟨q0, q1, q2, q3⟩, -⟩ := HQA.out.k4
  obtain ⟨⟨p0, p1, p2, p3⟩, -⟩ := HQB.out.k4
  go_wp2_with fail
  refine (pPrint_any _ y HFy.out _ (HKW.out.below HB.out) (Id.SchV.below HB.out HVB.out)).mono ?_
  rw [HPy.out]
  rintro e Py ⟨rfl, hb⟩
  have HBx := Lib.hid (HB.out.trans (hb.mono HB.out.size))
  have HQAx := Lib.hid (HQA.out.below hb HQA.out.lt)
  have HQBx := Lib.hid (HQB.out.below hb HQB.out.lt)
  clear hb HB HQA HQB q0 q1 q2 q3 p0 p1 p2 p3
  have HB := HBx
  have HQA := HQAx
  have HQB := HQBx
  clear HBx HQAx HQBx
  obtain ⟨⟨q0, q1, q2, q3⟩, -⟩ := HQA.out.k4
  obtain ⟨⟨p0, p1, p2, p3⟩, -⟩ := HQB.out.k4
  obtain ⟨px, pex⟩ := px
  obtain ⟨py, pey⟩ := py
  simp only
  clear HSM HEQ HBq HPx HPy Htx Hty
  have hst := HST.out
  cases b
  case false =>
    go_wp2_with fail
    refine (HDN.out _ HB.out).mono ?_
    rintro e W9 ⟨rfl, hb9⟩
    go_wp2_with fail
    go_ret
    exact ⟨rfl, hb9⟩
  have hpp : px = py := (Prod.mk.inj (HEP.out rfl)).1
  subst hpp
  go_wp2_with fail
  refine (HDN.out _ HB.out).mono ?_
  rintro e W9 ⟨rfl, hb9⟩
  go_wp2_with fail
  go_ret
  exact ⟨rfl, hb9⟩
end Go.Proofs.YtmncppnpppdfkaaDoor
