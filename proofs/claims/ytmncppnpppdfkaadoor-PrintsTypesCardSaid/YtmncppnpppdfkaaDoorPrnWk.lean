/- redresslaw14: wakes. No condition but the keywords' table. -/
import Derived.Test.YtmncppnpppdfkaaDoorPrnC
import Derived.Test.YtmncppnpppdfkaaDoorKC5
set_option linter.unusedVariables false
set_option linter.unusedSimpArgs false
namespace Go.Proofs.YtmncppnpppdfkaaDoor
open Go.RowKit Go.BigFrame
namespace Prn
open Go.Proofs.YtmncppnpppdfkaaDoor.Id Go.Proofs.YtmncppnpppdfkaaDoor.Chk
def wkText : ByteArray := ⟨#[109, 111, 100, 117, 108, 101, 32, 109, 59, 114, 101, 99, 111, 114, 100, 32, 82, 123, 97, 58, 108, 105, 115, 116, 32, 105, 110, 116, 59, 125]⟩
def wkOut : ByteArray := ⟨#[109, 111, 100, 117, 108, 101, 32, 109, 32, 59, 32, 114, 101, 99, 111, 114, 100, 32, 82, 32, 123, 32, 97, 32, 58, 32, 108, 105, 115, 116, 32, 105, 110, 116, 32, 59, 32, 125]⟩
def wkR : List Rec := [⟨⟨#[82]⟩, false, [⟨⟨#[97]⟩, [⟨5, ⟨#[]⟩⟩, ⟨3, ⟨#[]⟩⟩]⟩]⟩]
def wk : Sch := ⟨⟨#[109]⟩, wkR, [], []⟩
theorem wk_parse : parse wkText = (wk, 0, 0) := by kernel_rfl
theorem wk_bottoms : run 132 (bottomsT wk) none = none := by
  have h : valB wkR ⟨#[82]⟩ = true := val_of (r := wkR[0]) (by simp [wkR]) (by decide +kernel)
  unfold bottomsT bottomsR wk
  show run 132 [(valB wkR ⟨#[82]⟩, ⟨#[82]⟩)] none = none
  rw [h]
  rfl
theorem wk_check : check wk = (⟨#[]⟩, 0) := by
  unfold check flts
  rw [wk_bottoms]
  rw [show run 120 (namesT wk) none = none by kernel_rfl, show run 135 (countsT wk) none = none by kernel_rfl, show run 130 (doublesT wk) none = none by kernel_rfl, show run 131 (typesT wk) none = none by kernel_rfl, show run 134 (effectsT wk) none = none by kernel_rfl, show run 133 (undosT wk) none = none by kernel_rfl, show run 240 (sagasT wk) none = none by kernel_rfl, show run 241 (stepsT wk) none = none by kernel_rfl, show run 133 (waysT wk) none = none by kernel_rfl]
  rfl
theorem wk_fine : Fine wk := by
  refine ⟨(by decide : (1 : Nat) ≤ 1000), (by decide : (1 : Nat) ≤ 1000), (by decide : (0 : Nat) ≤ 1000), (by decide : (0 : Nat) ≤ 1000), ?_, ?_, ?_⟩
  · show ∀ r ∈ wkR, _
    unfold wkR
    simp
    decide
  · intro v hv
    cases hv
  · intro v hv
    cases hv
theorem wk_text : text wk = (wkOut, 0) := by
  unfold text
  rw [wk_check, if_neg (show ¬ ((⟨#[]⟩ : ByteArray), 0).2 ≠ 0 by simp)]
  rw [show jn (schW wk) = wkOut by kernel_rfl, if_neg (by decide)]
theorem wk_print : ∃ p : Nat, print wk = (p, 0) ∧ p ≠ 0 := by
  refine ⟨Sm.print wkOut.data.toList, ?_, by decide +kernel⟩
  unfold print
  rw [wk_text, if_neg (show ¬ (wkOut, 0).2 ≠ 0 by simp)]
end Prn
set_option maxRecDepth 100000 in
set_option maxHeartbeats 8000000 in
theorem wakes14_any (w : World) (hk : Tk.KW w) : Calls Tryd.prog 6 #[] w fun e w' => e = .returned (.bool true) ∧ Below w.heap.size w w' := by
  have HK := Lib.hid hk
  clear hk
  obtain ⟨P, HPR, hp0⟩ := Prn.wk_print
  have HPR := Lib.hid HPR
  go_enter Tryd.func6, Tryd.ntmps6
  go_wp2_with fail
  refine (rparse_any Prn.wkText (by decide) _).mono ?_
  rintro e w1 ⟨v, rfl, hb1, hsv⟩
  rw [Prn.wk_parse] at hsv ⊢
  have HB1 := Lib.hid hb1
  have HS1 := Lib.hid (Id.SchV.weak (Id.wk_none _) hsv : Id.SchV w1 none v Prn.wk)
  obtain ⟨A1, n1, c1, A2, n2, c2, A3, n3, c3, rfl, -⟩ := hsv
  clear hb1
  simp only
  go_upto_region 2 with (fail)
  refine wp_named (fun W2 hW2 => ?_)
  obtain ⟨hb2, hq2, -⟩ := fresh_box hW2
  clear hW2
  have HB2 := Lib.hid (HB1.out.trans (hb2.mono HB1.out.size))
  have HS2 := Lib.hid (Id.SchV.below hb2 HS1.out)
  have HQ2 := Lib.hid hq2
  obtain ⟨⟨q0, q1, q2, q3⟩, -⟩ := hq2.k4
  clear hb2 hq2
  go_wp2_with fail
  refine (pText_any _ Prn.wk Prn.wk_fine W2 (HK.out.below HB2.out) HS2.out).mono ?_
  rw [Prn.wk_text]
  unfold Chk.docV
  rintro e W3 ⟨rfl, hb3⟩
  have HB3 := Lib.hid (HB2.out.trans (hb3.mono HB2.out.size))
  have HS3 := Lib.hid (Id.SchV.below hb3 HS2.out)
  have hq3 := HQ2.out.below hb3 HQ2.out.lt
  clear hb3 q0 q1 q2 q3
  obtain ⟨⟨q0, q1, q2, q3⟩, -⟩ := hq3.k4
  clear hq3
  simp only
  go_wp2_with fail
  refine (pPrint_any _ Prn.wk Prn.wk_fine W3 (HK.out.below HB3.out) HS3.out).mono ?_
  rw [HPR.out]
  rintro e W4 ⟨rfl, hb4⟩
  have HB4 := Lib.hid (HB3.out.trans (hb4.mono HB3.out.size))
  clear hb4 q0 q1 q2 q3
  simp only
  have t1 : ((P : Int) != 0) = true := by rw [bne_iff_ne]; omega
  have t2 : ¬ (P : Int) = 0 := by omega
  have t3 : ((P : Int) == 0) = false := by rw [beq_eq_false_iff_ne]; omega
  have HO : Hid (Prn.wkOut = ⟨#[109, 111, 100, 117, 108, 101, 32, 109, 32, 59, 32, 114, 101, 99, 111, 114, 100, 32, 82, 32, 123, 32, 97, 32, 58, 32, 108, 105, 115, 116, 32, 105, 110, 116, 32, 59, 32, 125]⟩) := Lib.hid rfl
  rw [HO.out]
  clear hp0
  go_wp2_with fail
  go_ret
  exact ⟨rfl, HB4.out⟩
end Go.Proofs.YtmncppnpppdfkaaDoor
