/- The walk of PrintsRead (printed by gen_prnread.py). No condition but the keywords' table. -/
import Derived.Test.YtmncppnpppdfkaaGreatDoorPrnTMath
import Derived.Test.YtmncppnpppdfkaaGreatDoorPrnWk
import Derived.Test.YtmncppnpppdfkaaGreatDoorIdlP
import Derived.Test.YtmncppnpppdfkaaGreatDoorKI1
set_option linter.unusedVariables false
set_option linter.unusedSimpArgs false
namespace Go.Proofs.YtmncppnpppdfkaaGreatDoor
open Go.RowKit Go.BigFrame

/-- Behind the cut of the text. -/
def Prn.cutT (s : ByteArray) : ByteArray := if 2000 < s.size then s.extract 0 2000 else s
theorem Prn.cutT_size (s : ByteArray) : (Prn.cutT s).size ≤ 2000 := by
  unfold Prn.cutT
  split
  · simp; omega
  · omega
set_option maxRecDepth 100000 in
set_option maxHeartbeats 16000000 in
theorem printsRead_walk (text : ByteArray) (v : Value) (t : List Id.Srt) (hx : text.size ≤ 9223372036854775807) (w0 : World) (hv : Id.SortsR w0 none v t) (w : World) (he : w = w0) (hk : Tk.KW w) :
    Calls Tryz.prog 4 #[.string text, v] w fun e w' => e = .returned (.bool true) ∧ Below w.heap.size w w' := by
  subst he
  have HV := Lib.hid hv
  have HKW := Lib.hid hk
  obtain ⟨A, n, c, rfl⟩ := ERow.is hv
  have HN : Hid (n = t.length) := Lib.hid (by obtain ⟨_, _, e, _⟩ := ERow.slice hv; injection e)
  have hm : n ≤ 9223372036854775807 := by obtain ⟨_, _, e, _, _⟩ := ERow.slice hv; injection e; omega
  clear hk hv
  have done : ∀ W, Below w.heap.size w W → Calls Tryz.prog 14 #[] W fun e w' => e = .returned (.bool true) ∧ Below w.heap.size w w' := fun W hW => (wakes14_any W (HKW.out.below hW)).mono fun _ _ ⟨h1, h2⟩ => ⟨h1, hW.trans (h2.mono hW.size)⟩
  have HDN := Lib.hid done
  clear done
  obtain ⟨s, Hs⟩ : ∃ s, Hid (Prn.cutT text = s) := ⟨_, Lib.hid rfl⟩
  have hs2 : s.size ≤ 2000 := by rw [← Hs.out]; exact Prn.cutT_size text
  go_enter Tryz.func4, Tryz.ntmps4
  by_cases h2 : 2000 < text.size
  case pos =>
    have h2i : (2000 : Int) < (text.size : Int) := by omega
    have HSX : Hid (text.extract 0 2000 = s) := Lib.hid (by rw [← Hs.out]; exact (if_pos h2).symm)
    by_cases h3 : 300 < n
    case pos =>
      have h3i : (300 : Int) < (n : Int) := by omega
      go_wp2_with fail
      refine (HDN.out _ (Below.refl _ _)).mono ?_
      rintro e W9 ⟨rfl, hb9⟩
      go_wp2_with fail
      go_ret
      exact ⟨rfl, hb9⟩
    have h3i : ¬ (300 : Int) < (n : Int) := by omega
    go_wp2_with fail
    rw [HSX.out]
    obtain ⟨p, Hp⟩ : ∃ p, Hid (Prn.typeP t = p) := ⟨_, Lib.hid rfl⟩
    have hpz : p.size ≤ 65536 := by rw [← Hp.out]; exact Prn.typeP_size t
    refine (pType_any _ t _ HKW.out HV.out).mono ?_
    rw [Hp.out]
    rintro e W1 ⟨rfl, hb⟩
    have HB1 := Lib.hid hb
    clear hb
    have tail : True := trivial
    cases hpe : p.toList.isEmpty
    case false =>
      have HTR : Hid (Id.type p = (t, 0, 0)) := Lib.hid (by rw [← Hp.out]; exact Prn.typeP_read (by rw [Hp.out]; exact hpe))
      go_wp2_with fail
      refine (ptype_any p (by omega) _ (HKW.out.below HB1.out)).mono ?_
      rw [HTR.out]
      rintro e W2 ⟨uv, rfl, hb, hu⟩
      have HB2 := Lib.hid (HB1.out.trans (hb.mono HB1.out.size))
      have HTV : Hid (Id.SortsR W2 none (.slice A n c) t) := Lib.hid (ERow.below HV.out HB2.out (fun _ _ h => h))
      have HUV : Hid (Id.SortsR W2 none uv t) := Lib.hid (ERow.mono hu (fun _ _ hr => hr.weak (fun b' e => by cases e)) (fun _ _ h => h))
      obtain ⟨A1, n1, c1, rfl⟩ := ERow.is hu
      clear hu hb
      go_wp2_with fail
      refine (samesorts_any _ _ t t _ HTV.out HUV.out).mono ?_
      rw [Id.sameF_refl Id.srtEq_refl]
      rintro e Wd ⟨rfl, qd, rfl⟩
      have HBd := Lib.hid (below_drewN HB2.out qd)
      generalize W2.drewN qd = Wd at *
      obtain ⟨⟨u, ua, ue⟩, HU⟩ : ∃ q, Hid (Id.type s = q) := ⟨_, Lib.hid rfl⟩
      have hag : ue = 0 → u.length ≤ 12 → Id.type (Prn.typeP u) = (u, 0, 0) := fun h1 h2 => by have h := Prn.type_again (s := s); rw [HU.out] at h; exact h h1 h2
      have HAG := Lib.hid hag
      clear hag
      go_wp2_with fail
      refine (ptype_any s (by omega) _ (HKW.out.below HBd.out)).mono ?_
      rw [HU.out]
      rintro e W3 ⟨uv, rfl, hb, hu⟩
      have HB3 := Lib.hid (HBd.out.trans (hb.mono HBd.out.size))
      have HUR : Hid (Id.SortsR W3 none uv u) := Lib.hid (ERow.mono hu (fun _ _ hr => hr.weak (fun b' e => by cases e)) (fun _ _ h => h))
      obtain ⟨A2, n2, c2, rfl⟩ := ERow.is hu
      have HN2 : Hid (n2 = u.length) := Lib.hid (by obtain ⟨_, _, e, _⟩ := ERow.slice hu; injection e)
      have hm2 : n2 ≤ 9223372036854775807 := by obtain ⟨_, _, e, _, _⟩ := ERow.slice hu; injection e; omega
      clear hu hb
      by_cases hue : ue = 0
      case neg =>
        have t1 : ((ue : Int) != 0) = true := by rw [bne_iff_ne]; omega
        have t2 : ¬ (ue : Int) = 0 := by omega
        have t3 : ((ue : Int) == 0) = false := by rw [beq_eq_false_iff_ne]; omega
        clear hue
        go_wp2_with fail
        refine (HDN.out _ HB3.out).mono ?_
        rintro e W9 ⟨rfl, hb9⟩
        go_wp2_with fail
        go_ret
        exact ⟨rfl, hb9⟩
      subst hue
      by_cases h12 : 12 < n2
      case pos =>
        have h12i : (12 : Int) < (n2 : Int) := by omega
        go_wp2_with fail
        refine (HDN.out _ HB3.out).mono ?_
        rintro e W9 ⟨rfl, hb9⟩
        go_wp2_with fail
        go_ret
        exact ⟨rfl, hb9⟩
      have h12i : ¬ (12 : Int) < (n2 : Int) := by omega
      have HR := Lib.hid (HAG.out rfl (by rw [← HN2.out]; omega))
      obtain ⟨q, Hq⟩ : ∃ q, Hid (Prn.typeP u = q) := ⟨_, Lib.hid rfl⟩
      have hqz : q.size ≤ 65536 := by rw [← Hq.out]; exact Prn.typeP_size u
      rw [Hq.out] at HR
      clear HAG
      go_wp2_with fail
      refine (pType_any _ u _ (HKW.out.below HB3.out) HUR.out).mono ?_
      rw [Hq.out]
      rintro e W4 ⟨rfl, hb⟩
      have HB4 := Lib.hid (HB3.out.trans (hb.mono HB3.out.size))
      have HUR4 : Hid (Id.SortsR W4 none (.slice A2 n2 c2) u) := Lib.hid (ERow.below HUR.out hb (fun _ _ h => h))
      clear hb
      go_wp2_with fail
      refine (ptype_any q (by omega) _ (HKW.out.below HB4.out)).mono ?_
      rw [HR.out]
      rintro e W5 ⟨uv, rfl, hb, hu⟩
      have HB5 := Lib.hid (HB4.out.trans (hb.mono HB4.out.size))
      have HUR5 : Hid (Id.SortsR W5 none (.slice A2 n2 c2) u) := Lib.hid (ERow.below HUR4.out hb (fun _ _ h => h))
      have HUV : Hid (Id.SortsR W5 none uv u) := Lib.hid (ERow.mono hu (fun _ _ hr => hr.weak (fun b' e => by cases e)) (fun _ _ h => h))
      obtain ⟨A3, n3, c3, rfl⟩ := ERow.is hu
      clear hu hb
      go_wp2_with fail
      refine (samesorts_any _ _ u u _ HUR5.out HUV.out).mono ?_
      rw [Id.sameF_refl Id.srtEq_refl]
      rintro e W6 ⟨rfl, q6, rfl⟩
      have HB6 := Lib.hid (below_drewN HB5.out q6)
      go_wp2_with fail
      refine (HDN.out _ HB6.out).mono ?_
      rintro e W9 ⟨rfl, hb9⟩
      go_wp2_with fail
      go_ret
      exact ⟨rfl, hb9⟩
    case true =>
      obtain ⟨⟨u, ua, ue⟩, HU⟩ : ∃ q, Hid (Id.type s = q) := ⟨_, Lib.hid rfl⟩
      have hag : ue = 0 → u.length ≤ 12 → Id.type (Prn.typeP u) = (u, 0, 0) := fun h1 h2 => by have h := Prn.type_again (s := s); rw [HU.out] at h; exact h h1 h2
      have HAG := Lib.hid hag
      clear hag
      go_wp2_with fail
      refine (ptype_any s (by omega) _ (HKW.out.below HB1.out)).mono ?_
      rw [HU.out]
      rintro e W3 ⟨uv, rfl, hb, hu⟩
      have HB3 := Lib.hid (HB1.out.trans (hb.mono HB1.out.size))
      have HUR : Hid (Id.SortsR W3 none uv u) := Lib.hid (ERow.mono hu (fun _ _ hr => hr.weak (fun b' e => by cases e)) (fun _ _ h => h))
      obtain ⟨A2, n2, c2, rfl⟩ := ERow.is hu
      have HN2 : Hid (n2 = u.length) := Lib.hid (by obtain ⟨_, _, e, _⟩ := ERow.slice hu; injection e)
      have hm2 : n2 ≤ 9223372036854775807 := by obtain ⟨_, _, e, _, _⟩ := ERow.slice hu; injection e; omega
      clear hu hb
      by_cases hue : ue = 0
      case neg =>
        have t1 : ((ue : Int) != 0) = true := by rw [bne_iff_ne]; omega
        have t2 : ¬ (ue : Int) = 0 := by omega
        have t3 : ((ue : Int) == 0) = false := by rw [beq_eq_false_iff_ne]; omega
        clear hue
        go_wp2_with fail
        refine (HDN.out _ HB3.out).mono ?_
        rintro e W9 ⟨rfl, hb9⟩
        go_wp2_with fail
        go_ret
        exact ⟨rfl, hb9⟩
      subst hue
      by_cases h12 : 12 < n2
      case pos =>
        have h12i : (12 : Int) < (n2 : Int) := by omega
        go_wp2_with fail
        refine (HDN.out _ HB3.out).mono ?_
        rintro e W9 ⟨rfl, hb9⟩
        go_wp2_with fail
        go_ret
        exact ⟨rfl, hb9⟩
      have h12i : ¬ (12 : Int) < (n2 : Int) := by omega
      have HR := Lib.hid (HAG.out rfl (by rw [← HN2.out]; omega))
      obtain ⟨q, Hq⟩ : ∃ q, Hid (Prn.typeP u = q) := ⟨_, Lib.hid rfl⟩
      have hqz : q.size ≤ 65536 := by rw [← Hq.out]; exact Prn.typeP_size u
      rw [Hq.out] at HR
      clear HAG
      go_wp2_with fail
      refine (pType_any _ u _ (HKW.out.below HB3.out) HUR.out).mono ?_
      rw [Hq.out]
      rintro e W4 ⟨rfl, hb⟩
      have HB4 := Lib.hid (HB3.out.trans (hb.mono HB3.out.size))
      have HUR4 : Hid (Id.SortsR W4 none (.slice A2 n2 c2) u) := Lib.hid (ERow.below HUR.out hb (fun _ _ h => h))
      clear hb
      go_wp2_with fail
      refine (ptype_any q (by omega) _ (HKW.out.below HB4.out)).mono ?_
      rw [HR.out]
      rintro e W5 ⟨uv, rfl, hb, hu⟩
      have HB5 := Lib.hid (HB4.out.trans (hb.mono HB4.out.size))
      have HUR5 : Hid (Id.SortsR W5 none (.slice A2 n2 c2) u) := Lib.hid (ERow.below HUR4.out hb (fun _ _ h => h))
      have HUV : Hid (Id.SortsR W5 none uv u) := Lib.hid (ERow.mono hu (fun _ _ hr => hr.weak (fun b' e => by cases e)) (fun _ _ h => h))
      obtain ⟨A3, n3, c3, rfl⟩ := ERow.is hu
      clear hu hb
      go_wp2_with fail
      refine (samesorts_any _ _ u u _ HUR5.out HUV.out).mono ?_
      rw [Id.sameF_refl Id.srtEq_refl]
      rintro e W6 ⟨rfl, q6, rfl⟩
      have HB6 := Lib.hid (below_drewN HB5.out q6)
      go_wp2_with fail
      refine (HDN.out _ HB6.out).mono ?_
      rintro e W9 ⟨rfl, hb9⟩
      go_wp2_with fail
      go_ret
      exact ⟨rfl, hb9⟩
  case neg =>
    have h2i : ¬ (2000 : Int) < (text.size : Int) := by omega
    obtain rfl : s = text := by rw [← Hs.out]; exact if_neg h2
    by_cases h3 : 300 < n
    case pos =>
      have h3i : (300 : Int) < (n : Int) := by omega
      go_wp2_with fail
      refine (HDN.out _ (Below.refl _ _)).mono ?_
      rintro e W9 ⟨rfl, hb9⟩
      go_wp2_with fail
      go_ret
      exact ⟨rfl, hb9⟩
    have h3i : ¬ (300 : Int) < (n : Int) := by omega
    go_wp2_with fail
    obtain ⟨p, Hp⟩ : ∃ p, Hid (Prn.typeP t = p) := ⟨_, Lib.hid rfl⟩
    have hpz : p.size ≤ 65536 := by rw [← Hp.out]; exact Prn.typeP_size t
    refine (pType_any _ t _ HKW.out HV.out).mono ?_
    rw [Hp.out]
    rintro e W1 ⟨rfl, hb⟩
    have HB1 := Lib.hid hb
    clear hb
    have tail : True := trivial
    cases hpe : p.toList.isEmpty
    case false =>
      have HTR : Hid (Id.type p = (t, 0, 0)) := Lib.hid (by rw [← Hp.out]; exact Prn.typeP_read (by rw [Hp.out]; exact hpe))
      go_wp2_with fail
      refine (ptype_any p (by omega) _ (HKW.out.below HB1.out)).mono ?_
      rw [HTR.out]
      rintro e W2 ⟨uv, rfl, hb, hu⟩
      have HB2 := Lib.hid (HB1.out.trans (hb.mono HB1.out.size))
      have HTV : Hid (Id.SortsR W2 none (.slice A n c) t) := Lib.hid (ERow.below HV.out HB2.out (fun _ _ h => h))
      have HUV : Hid (Id.SortsR W2 none uv t) := Lib.hid (ERow.mono hu (fun _ _ hr => hr.weak (fun b' e => by cases e)) (fun _ _ h => h))
      obtain ⟨A1, n1, c1, rfl⟩ := ERow.is hu
      clear hu hb
      go_wp2_with fail
      refine (samesorts_any _ _ t t _ HTV.out HUV.out).mono ?_
      rw [Id.sameF_refl Id.srtEq_refl]
      rintro e Wd ⟨rfl, qd, rfl⟩
      have HBd := Lib.hid (below_drewN HB2.out qd)
      generalize W2.drewN qd = Wd at *
      obtain ⟨⟨u, ua, ue⟩, HU⟩ : ∃ q, Hid (Id.type s = q) := ⟨_, Lib.hid rfl⟩
      have hag : ue = 0 → u.length ≤ 12 → Id.type (Prn.typeP u) = (u, 0, 0) := fun h1 h2 => by have h := Prn.type_again (s := s); rw [HU.out] at h; exact h h1 h2
      have HAG := Lib.hid hag
      clear hag
      go_wp2_with fail
      refine (ptype_any s (by omega) _ (HKW.out.below HBd.out)).mono ?_
      rw [HU.out]
      rintro e W3 ⟨uv, rfl, hb, hu⟩
      have HB3 := Lib.hid (HBd.out.trans (hb.mono HBd.out.size))
      have HUR : Hid (Id.SortsR W3 none uv u) := Lib.hid (ERow.mono hu (fun _ _ hr => hr.weak (fun b' e => by cases e)) (fun _ _ h => h))
      obtain ⟨A2, n2, c2, rfl⟩ := ERow.is hu
      have HN2 : Hid (n2 = u.length) := Lib.hid (by obtain ⟨_, _, e, _⟩ := ERow.slice hu; injection e)
      have hm2 : n2 ≤ 9223372036854775807 := by obtain ⟨_, _, e, _, _⟩ := ERow.slice hu; injection e; omega
      clear hu hb
      by_cases hue : ue = 0
      case neg =>
        have t1 : ((ue : Int) != 0) = true := by rw [bne_iff_ne]; omega
        have t2 : ¬ (ue : Int) = 0 := by omega
        have t3 : ((ue : Int) == 0) = false := by rw [beq_eq_false_iff_ne]; omega
        clear hue
        go_wp2_with fail
        refine (HDN.out _ HB3.out).mono ?_
        rintro e W9 ⟨rfl, hb9⟩
        go_wp2_with fail
        go_ret
        exact ⟨rfl, hb9⟩
      subst hue
      by_cases h12 : 12 < n2
      case pos =>
        have h12i : (12 : Int) < (n2 : Int) := by omega
        go_wp2_with fail
        refine (HDN.out _ HB3.out).mono ?_
        rintro e W9 ⟨rfl, hb9⟩
        go_wp2_with fail
        go_ret
        exact ⟨rfl, hb9⟩
      have h12i : ¬ (12 : Int) < (n2 : Int) := by omega
      have HR := Lib.hid (HAG.out rfl (by rw [← HN2.out]; omega))
      obtain ⟨q, Hq⟩ : ∃ q, Hid (Prn.typeP u = q) := ⟨_, Lib.hid rfl⟩
      have hqz : q.size ≤ 65536 := by rw [← Hq.out]; exact Prn.typeP_size u
      rw [Hq.out] at HR
      clear HAG
      go_wp2_with fail
      refine (pType_any _ u _ (HKW.out.below HB3.out) HUR.out).mono ?_
      rw [Hq.out]
      rintro e W4 ⟨rfl, hb⟩
      have HB4 := Lib.hid (HB3.out.trans (hb.mono HB3.out.size))
      have HUR4 : Hid (Id.SortsR W4 none (.slice A2 n2 c2) u) := Lib.hid (ERow.below HUR.out hb (fun _ _ h => h))
      clear hb
      go_wp2_with fail
      refine (ptype_any q (by omega) _ (HKW.out.below HB4.out)).mono ?_
      rw [HR.out]
      rintro e W5 ⟨uv, rfl, hb, hu⟩
      have HB5 := Lib.hid (HB4.out.trans (hb.mono HB4.out.size))
      have HUR5 : Hid (Id.SortsR W5 none (.slice A2 n2 c2) u) := Lib.hid (ERow.below HUR4.out hb (fun _ _ h => h))
      have HUV : Hid (Id.SortsR W5 none uv u) := Lib.hid (ERow.mono hu (fun _ _ hr => hr.weak (fun b' e => by cases e)) (fun _ _ h => h))
      obtain ⟨A3, n3, c3, rfl⟩ := ERow.is hu
      clear hu hb
      go_wp2_with fail
      refine (samesorts_any _ _ u u _ HUR5.out HUV.out).mono ?_
      rw [Id.sameF_refl Id.srtEq_refl]
      rintro e W6 ⟨rfl, q6, rfl⟩
      have HB6 := Lib.hid (below_drewN HB5.out q6)
      go_wp2_with fail
      refine (HDN.out _ HB6.out).mono ?_
      rintro e W9 ⟨rfl, hb9⟩
      go_wp2_with fail
      go_ret
      exact ⟨rfl, hb9⟩
    case true =>
      obtain ⟨⟨u, ua, ue⟩, HU⟩ : ∃ q, Hid (Id.type s = q) := ⟨_, Lib.hid rfl⟩
      have hag : ue = 0 → u.length ≤ 12 → Id.type (Prn.typeP u) = (u, 0, 0) := fun h1 h2 => by have h := Prn.type_again (s := s); rw [HU.out] at h; exact h h1 h2
      have HAG := Lib.hid hag
      clear hag
      go_wp2_with fail
      refine (ptype_any s (by omega) _ (HKW.out.below HB1.out)).mono ?_
      rw [HU.out]
      rintro e W3 ⟨uv, rfl, hb, hu⟩
      have HB3 := Lib.hid (HB1.out.trans (hb.mono HB1.out.size))
      have HUR : Hid (Id.SortsR W3 none uv u) := Lib.hid (ERow.mono hu (fun _ _ hr => hr.weak (fun b' e => by cases e)) (fun _ _ h => h))
      obtain ⟨A2, n2, c2, rfl⟩ := ERow.is hu
      have HN2 : Hid (n2 = u.length) := Lib.hid (by obtain ⟨_, _, e, _⟩ := ERow.slice hu; injection e)
      have hm2 : n2 ≤ 9223372036854775807 := by obtain ⟨_, _, e, _, _⟩ := ERow.slice hu; injection e; omega
      clear hu hb
      by_cases hue : ue = 0
      case neg =>
        have t1 : ((ue : Int) != 0) = true := by rw [bne_iff_ne]; omega
        have t2 : ¬ (ue : Int) = 0 := by omega
        have t3 : ((ue : Int) == 0) = false := by rw [beq_eq_false_iff_ne]; omega
        clear hue
        go_wp2_with fail
        refine (HDN.out _ HB3.out).mono ?_
        rintro e W9 ⟨rfl, hb9⟩
        go_wp2_with fail
        go_ret
        exact ⟨rfl, hb9⟩
      subst hue
      by_cases h12 : 12 < n2
      case pos =>
        have h12i : (12 : Int) < (n2 : Int) := by omega
        go_wp2_with fail
        refine (HDN.out _ HB3.out).mono ?_
        rintro e W9 ⟨rfl, hb9⟩
        go_wp2_with fail
        go_ret
        exact ⟨rfl, hb9⟩
      have h12i : ¬ (12 : Int) < (n2 : Int) := by omega
      have HR := Lib.hid (HAG.out rfl (by rw [← HN2.out]; omega))
      obtain ⟨q, Hq⟩ : ∃ q, Hid (Prn.typeP u = q) := ⟨_, Lib.hid rfl⟩
      have hqz : q.size ≤ 65536 := by rw [← Hq.out]; exact Prn.typeP_size u
      rw [Hq.out] at HR
      clear HAG
      go_wp2_with fail
      refine (pType_any _ u _ (HKW.out.below HB3.out) HUR.out).mono ?_
      rw [Hq.out]
      rintro e W4 ⟨rfl, hb⟩
      have HB4 := Lib.hid (HB3.out.trans (hb.mono HB3.out.size))
      have HUR4 : Hid (Id.SortsR W4 none (.slice A2 n2 c2) u) := Lib.hid (ERow.below HUR.out hb (fun _ _ h => h))
      clear hb
      go_wp2_with fail
      refine (ptype_any q (by omega) _ (HKW.out.below HB4.out)).mono ?_
      rw [HR.out]
      rintro e W5 ⟨uv, rfl, hb, hu⟩
      have HB5 := Lib.hid (HB4.out.trans (hb.mono HB4.out.size))
      have HUR5 : Hid (Id.SortsR W5 none (.slice A2 n2 c2) u) := Lib.hid (ERow.below HUR4.out hb (fun _ _ h => h))
      have HUV : Hid (Id.SortsR W5 none uv u) := Lib.hid (ERow.mono hu (fun _ _ hr => hr.weak (fun b' e => by cases e)) (fun _ _ h => h))
      obtain ⟨A3, n3, c3, rfl⟩ := ERow.is hu
      clear hu hb
      go_wp2_with fail
      refine (samesorts_any _ _ u u _ HUR5.out HUV.out).mono ?_
      rw [Id.sameF_refl Id.srtEq_refl]
      rintro e W6 ⟨rfl, q6, rfl⟩
      have HB6 := Lib.hid (below_drewN HB5.out q6)
      go_wp2_with fail
      refine (HDN.out _ HB6.out).mono ?_
      rintro e W9 ⟨rfl, hb9⟩
      go_wp2_with fail
      go_ret
      exact ⟨rfl, hb9⟩
end Go.Proofs.YtmncppnpppdfkaaGreatDoor
