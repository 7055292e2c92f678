/- redressref14.Type and the walk of PrintsTypes (printed by gen_prnt2.py). No condition but the keywords' table. -/
import Derived.Test.YtmncppnpppdfkaaDoorPrnTMath
import Derived.Test.YtmncppnpppdfkaaDoorPrnR
import Derived.Test.YtmncppnpppdfkaaDoorPrnWk
set_option linter.unusedVariables false
set_option linter.unusedSimpArgs false
namespace Go.Proofs.YtmncppnpppdfkaaDoor
open Go.RowKit Go.BigFrame
namespace Prn
open Go.Proofs.YtmncppnpppdfkaaDoor.Id Go.Proofs.YtmncppnpppdfkaaDoor.Chk
theorem sp_jn {t : List Srt} (h : okP t = true) : (jn (t.map sortW)).size + 1 = (spB t).size ∧ (spB t).extract 0 (jn (t.map sortW)).size = jn (t.map sortW) := by
  obtain ⟨x, l, rfl⟩ : ∃ x l, t = x :: l := by
    cases t with
    | nil => cases h
    | cons x l => exact ⟨x, l, rfl⟩
  have e : spL (x :: l) = jl ((x :: l).map sortW) ++ [32] := by
    have h1 := ext_sorts (x :: l)
    rw [List.map_cons, ext_cons] at h1
    rw [List.map_cons]
    unfold jl
    unfold ext at h1
    simp only [List.cons_append, List.cons.injEq, true_and] at h1
    exact h1.symm
  have hs : (jn ((x :: l).map sortW)).size = (jl ((x :: l).map sortW)).length := by
    unfold jn
    simp [ByteArray.size]
  constructor
  · rw [hs]
    unfold spB
    rw [e]
    simp [ByteArray.size]
  · rw [hs]
    apply Tk.text_eq
    rw [ByteArray.toList_eq, ByteArray.toList_eq, jn_data, ByteArray.data_extract, Array.toList_extract]
    unfold spB
    rw [e]
    simp
end Prn
set_option maxRecDepth 100000 in
set_option maxHeartbeats 16000000 in
theorem rType_any (tv : Value) (t : List Id.Srt) (hz : ∀ x ∈ t, x.name.size ≤ 200) (w : World) (ht : Id.SortsR w none tv t) :
    Calls Tryd.prog 11 #[tv] w fun e w' => e = .returned (.string (Prn.typeP t)) ∧ Below w.heap.size w w' := by
  obtain ⟨T, HT⟩ : ∃ T, Hid (Prn.typeP t = T) := ⟨_, Lib.hid rfl⟩
  rw [HT.out]
  unfold Prn.typeP at HT
  have HS := Lib.hid ht
  have HZ := Lib.hid hz
  obtain ⟨A, n, c, rfl⟩ := ERow.is ht
  have HN : Hid (n = t.length) := Lib.hid (by obtain ⟨_, _, e, _⟩ := ERow.slice ht; injection e)
  have hm : n ≤ 9223372036854775807 := by obtain ⟨_, _, e, _, _⟩ := ERow.slice ht; injection e; omega
  clear ht hz
  by_cases h12 : n ≤ 12
  case neg =>
    have HE : Hid (T = ⟨#[]⟩) := Lib.hid (by rw [← HT.out, if_neg (by rw [← HN.out]; exact fun h => h12 h.1)])
    have h0 : ¬ (n : Int) < 1 := by omega
    have h1 : (12 : Int) < (n : Int) := by omega
    have h2 : 12 < n := by omega
    clear h12
    go_enter Tryd.func11, Tryd.ntmps11
    go_wp2_with fail
    go_ret
    exact ⟨by rw [HE.out]; rfl, Below.refl _ _⟩
  by_cases h00 : n = 0
  case pos =>
    have HE : Hid (T = ⟨#[]⟩) := Lib.hid (by rw [← HT.out, if_neg (by rw [List.length_eq_zero_iff.1 (HN.out.symm.trans h00)]; exact fun h => by cases h.2)])
    subst h00
    try simp only [Int.cast_ofNat_Int] at *
    go_enter Tryd.func11, Tryd.ntmps11
    go_wp2_with fail
    go_ret
    exact ⟨by rw [HE.out]; rfl, Below.refl _ _⟩
  obtain ⟨R, HR⟩ : ∃ R, Hid (Prn.okP t = R) := ⟨_, Lib.hid rfl⟩
  have HTT : Hid ((if R = true then Prn.jn (t.map Prn.sortW) else ⟨#[]⟩) = T) := Lib.hid (by rw [← HT.out, HR.out]; simp only [← HN.out, h12, true_and])
  have HNO : Hid (R = false → T = ⟨#[]⟩) := Lib.hid (fun h => by rw [← HTT.out, if_neg (by rw [h]; decide)])
  have h0 : ¬ (n : Int) < 1 := by omega
  have h1 : ¬ (12 : Int) < (n : Int) := by omega
  have h2 : ¬ 12 < n := by omega
  have hn1 : 1 ≤ n := by omega
  clear h00 HT
  go_enter Tryd.func11, Tryd.ntmps11
  go_wp2_with fail
  go_loopw [4, 5, 6] (fun i _ _ wr => ∃ (k : Nat), k ≤ n ∧ i = .int .i64 k ∧ Hid ((k < n → Prn.okP (t.drop k) = R) ∧ (k = n → R = true)) ∧ w = wr) (fun i _ _ _ => n - (intOf i).toNat)
  case atStart => exact ⟨0, by omega, rfl, Lib.hid ⟨fun _ => HR.out, fun h => by omega⟩, rfl⟩
  case round =>
    obtain ⟨k, hk, rfl, HK, rfl⟩ := hrel
    have ik0 : (0 : Int) ≤ (k : Int) := by omega
    by_cases hlt : k < n
    case neg =>
      obtain rfl : k = n := by omega
      have hRt := HK.out.2 rfl
      have HRO : Hid (Prn.okP t = true) := Lib.hid (by rw [HR.out]; exact hRt)
      have HE : Hid (Prn.jn (t.map Prn.sortW) = T) := Lib.hid (by rw [← HTT.out, if_pos hRt])
      have hsp := Prn.sp_jn HRO.out
      rw [HE.out] at hsp
      have HSP := Lib.hid hsp.2
      have hsz := hsp.1
      clear hRt HK hsp
      have hTz : T.size ≤ 65536 := by rw [← HE.out]; have h := Prn.typeP_size t; unfold Prn.typeP at h; rw [if_pos ⟨by rw [← HN.out]; exact h12, HRO.out⟩] at h; exact h
      go_wp2_with fail
      refine (rwords14_any _ t (by rw [← HN.out]; omega) (fun x hx => by have := Prn.sorts_size HRO.out _ (List.mem_map.2 ⟨x, hx, rfl⟩); omega) _ HS.out).mono ?_
      rintro e W1 ⟨rfl, hb⟩
      have HB := Lib.hid hb
      clear hb
      obtain ⟨S, HSS⟩ : ∃ S, Hid (Prn.spB t = S) := ⟨_, Lib.hid rfl⟩
      rw [HSS.out] at hsz HSP
      rw [HSS.out]
      have e1 : ((S.size : Int) - 1) = (T.size : Int) := by omega
      have e2 : (0 : Int) ≤ (S.size : Int) - 1 := by omega
      have e3 : (S.size : Int) - 1 ≤ (S.size : Int) := by omega
      have e4 : ((S.size : Int) - 1).toNat = T.size := by omega
      have e5 : IntKind.i64.wrap ((S.size : Int) - 1) = (S.size : Int) - 1 := by unfold IntKind.wrap; simp [IntKind.bits, IntKind.signed]; omega
      have e6 : S.size - 1 = T.size := by omega
      have e7 : 1 ≤ S.size := by omega
      go_wp2_with fail
      go_ret
      refine ⟨?_, HB.out⟩
      try simp only [e6]
      rw [HSP.out]
      rfl
    have hka : k < t.length := by rw [← HN.out]; exact hlt
    have hK := HK.out.1 hlt
    obtain ⟨g, off, cs, rfl, -, e1, hc⟩ := ERow.get HS.out hka (by omega)
    have HX : Hid ((k + 1 < n → Prn.okP (t.drop k) = (Chk.mid t[k] && Prn.okP (t.drop (k + 1)))) ∧ (k + 1 = n → Prn.okP (t.drop k) = Prn.finP t[k])) := Lib.hid ⟨fun h => Prn.okP_drop (by rw [← HN.out]; exact h), fun h => Prn.okP_last (by rw [← HN.out]; exact h)⟩
    obtain ⟨⟨yk, yn⟩, Hy⟩ : ∃ y, Hid (t[k] = y) := ⟨_, Lib.hid rfl⟩
    rw [hK, Hy.out] at HX
    rw [Hy.out] at e1
    unfold Id.SortE Id.Srt.cells at e1
    subst e1
    have a0 := hc 0 _ rfl
    have a1 := hc 1 _ rfl
    simp only [Nat.add_zero] at a0
    have ik1 : (k : Int) < (n : Int) := by omega
    clear hc Hy hka hK HK
    by_cases hl : k + 1 = n
    case pos =>
      have HFN := Lib.hid (HX.out.2 hl)
      have l1 : ((k : Int) == (n : Int) - 1) = true := by rw [beq_iff_eq]; omega
      have l3 : ¬ (k : Int) < (n : Int) - 1 := by omega
      by_cases h5 : yk = 5
      case pos =>
        subst h5
        have HE : Hid (T = ⟨#[]⟩) := Lib.hid (HNO.out (HFN.out.trans rfl))
        clear HX
        go_wp2_with fail
        go_ret
        exact ⟨by rw [HE.out]; rfl, Below.refl _ _⟩
      by_cases h6 : yk = 6
      case pos =>
        subst h6
        have HE : Hid (T = ⟨#[]⟩) := Lib.hid (HNO.out (HFN.out.trans rfl))
        clear HX
        go_wp2_with fail
        go_ret
        exact ⟨by rw [HE.out]; rfl, Below.refl _ _⟩
      by_cases h1 : yk = 1
      case pos =>
        subst h1
        have hf : R = yn.toList.isEmpty := HFN.out
        cases hne : yn.toList.isEmpty
        case false =>
          have HE : Hid (T = ⟨#[]⟩) := Lib.hid (HNO.out (hf.trans hne))
          clear HX
          go_wp2_with fail
          go_ret
          exact ⟨by rw [HE.out]; rfl, Below.refl _ _⟩
        have hRt : R = true := hf.trans hne
        clear hf
        have HK2 : Hid ((k + 1 < n → Prn.okP (t.drop (k + 1)) = R) ∧ (k + 1 = n → R = true)) := Lib.hid (⟨fun h => by omega, fun _ => hRt⟩)
        clear HX
        go_wp2_with fail
        go_roundw
        case rel => exact ⟨k + 1, by omega, by go_num, HK2, by first | rfl | trivial⟩
        case measure => simp [intOf] <;> omega
      by_cases h2 : yk = 2
      case pos =>
        subst h2
        have hf : R = yn.toList.isEmpty := HFN.out
        cases hne : yn.toList.isEmpty
        case false =>
          have HE : Hid (T = ⟨#[]⟩) := Lib.hid (HNO.out (hf.trans hne))
          clear HX
          go_wp2_with fail
          go_ret
          exact ⟨by rw [HE.out]; rfl, Below.refl _ _⟩
        have hRt : R = true := hf.trans hne
        clear hf
        have HK2 : Hid ((k + 1 < n → Prn.okP (t.drop (k + 1)) = R) ∧ (k + 1 = n → R = true)) := Lib.hid (⟨fun h => by omega, fun _ => hRt⟩)
        clear HX
        go_wp2_with fail
        go_roundw
        case rel => exact ⟨k + 1, by omega, by go_num, HK2, by first | rfl | trivial⟩
        case measure => simp [intOf] <;> omega
      by_cases h3 : yk = 3
      case pos =>
        subst h3
        have hf : R = yn.toList.isEmpty := HFN.out
        cases hne : yn.toList.isEmpty
        case false =>
          have HE : Hid (T = ⟨#[]⟩) := Lib.hid (HNO.out (hf.trans hne))
          clear HX
          go_wp2_with fail
          go_ret
          exact ⟨by rw [HE.out]; rfl, Below.refl _ _⟩
        have hRt : R = true := hf.trans hne
        clear hf
        have HK2 : Hid ((k + 1 < n → Prn.okP (t.drop (k + 1)) = R) ∧ (k + 1 = n → R = true)) := Lib.hid (⟨fun h => by omega, fun _ => hRt⟩)
        clear HX
        go_wp2_with fail
        go_roundw
        case rel => exact ⟨k + 1, by omega, by go_num, HK2, by first | rfl | trivial⟩
        case measure => simp [intOf] <;> omega
      by_cases h4 : yk = 4
      case pos =>
        subst h4
        have hf : R = yn.toList.isEmpty := HFN.out
        cases hne : yn.toList.isEmpty
        case false =>
          have HE : Hid (T = ⟨#[]⟩) := Lib.hid (HNO.out (hf.trans hne))
          clear HX
          go_wp2_with fail
          go_ret
          exact ⟨by rw [HE.out]; rfl, Below.refl _ _⟩
        have hRt : R = true := hf.trans hne
        clear hf
        have HK2 : Hid ((k + 1 < n → Prn.okP (t.drop (k + 1)) = R) ∧ (k + 1 = n → R = true)) := Lib.hid (⟨fun h => by omega, fun _ => hRt⟩)
        clear HX
        go_wp2_with fail
        go_roundw
        case rel => exact ⟨k + 1, by omega, by go_num, HK2, by first | rfl | trivial⟩
        case measure => simp [intOf] <;> omega
      by_cases h7 : yk = 7
      case pos =>
        subst h7
        have HF7 : Hid (R = Tk.isName yn) := Lib.hid HFN.out
        obtain ⟨b, HBN⟩ : ∃ b, Hid (Tk.isName yn = b) := ⟨_, Lib.hid rfl⟩
        go_wp2_with fail
        refine (rname_s yn _).mono ?_
        rw [HBN.out]
        rintro e V2 ⟨rfl, rfl⟩
        cases b
        case false =>
          have HE : Hid (T = ⟨#[]⟩) := Lib.hid (HNO.out (HF7.out.trans HBN.out))
          clear HX
          go_wp2_with fail
          go_ret
          exact ⟨by rw [HE.out]; rfl, Below.refl _ _⟩
        have hRt : R = true := HF7.out.trans HBN.out
        have HK2 : Hid ((k + 1 < n → Prn.okP (t.drop (k + 1)) = R) ∧ (k + 1 = n → R = true)) := Lib.hid (⟨fun h => by omega, fun _ => hRt⟩)
        clear HX
        go_wp2_with fail
        go_roundw
        case rel => exact ⟨k + 1, by omega, by go_num, HK2, by first | rfl | trivial⟩
        case measure => simp [intOf] <;> omega
      have hRf : R = false := by rw [HFN.out]; unfold Prn.finP; simp only [h1, h2, h3, h4, h7, false_or, or_self, if_false]
      have HRF := Lib.hid hRf
      clear hRf
      have t5 : ((yk : Int) == 5) = false := by rw [beq_eq_false_iff_ne]; omega
      have u5 : ¬ yk = 5 := by omega
      have t6 : ((yk : Int) == 6) = false := by rw [beq_eq_false_iff_ne]; omega
      have u6 : ¬ yk = 6 := by omega
      have t1 : ((yk : Int) == 1) = false := by rw [beq_eq_false_iff_ne]; omega
      have u1 : ¬ yk = 1 := by omega
      have t2 : ((yk : Int) == 2) = false := by rw [beq_eq_false_iff_ne]; omega
      have u2 : ¬ yk = 2 := by omega
      have t3 : ((yk : Int) == 3) = false := by rw [beq_eq_false_iff_ne]; omega
      have u3 : ¬ yk = 3 := by omega
      have t4 : ((yk : Int) == 4) = false := by rw [beq_eq_false_iff_ne]; omega
      have u4 : ¬ yk = 4 := by omega
      have t7 : ((yk : Int) == 7) = false := by rw [beq_eq_false_iff_ne]; omega
      have u7 : ¬ yk = 7 := by omega
      by_cases g1 : (1 : Int) ≤ (yk : Int)
      case pos =>
        have g4 : ¬ (yk : Int) ≤ 4 := by omega
        have g4n : ¬ yk ≤ 4 := by omega
        have g1n : 1 ≤ yk := by omega
        have HE : Hid (T = ⟨#[]⟩) := Lib.hid (HNO.out (HRF.out))
        clear HX
        go_wp2_with fail
        go_ret
        exact ⟨by rw [HE.out]; rfl, Below.refl _ _⟩
      case neg =>
        have g1n : ¬ 1 ≤ yk := by omega
        have HE : Hid (T = ⟨#[]⟩) := Lib.hid (HNO.out (HRF.out))
        clear HX
        go_wp2_with fail
        go_ret
        exact ⟨by rw [HE.out]; rfl, Below.refl _ _⟩
    have HFN := Lib.hid (HX.out.1 (by omega))
    have l1 : ((k : Int) == (n : Int) - 1) = false := by rw [beq_eq_false_iff_ne]; omega
    have l2 : ¬ (k : Int) = (n : Int) - 1 := by omega
    have l3 : (k : Int) < (n : Int) - 1 := by omega
    by_cases h5 : yk = 5
    case pos =>
      subst h5
      have hf : R = (yn.toList.isEmpty && Prn.okP (t.drop (k + 1))) := HFN.out
      cases hne : yn.toList.isEmpty
      case false =>
        have HE : Hid (T = ⟨#[]⟩) := Lib.hid (HNO.out (by rw [hf, hne]; rfl))
        clear HX
        go_wp2_with fail
        go_ret
        exact ⟨by rw [HE.out]; rfl, Below.refl _ _⟩
      have HK3 : Hid (Prn.okP (t.drop (k + 1)) = R) := Lib.hid (by rw [hf, hne]; rfl)
      clear hf
      have HK2 : Hid ((k + 1 < n → Prn.okP (t.drop (k + 1)) = R) ∧ (k + 1 = n → R = true)) := Lib.hid (⟨fun _ => HK3.out, fun h => absurd h hl⟩)
      clear HX
      go_wp2_with fail
      go_roundw
      case rel => exact ⟨k + 1, by omega, by go_num, HK2, by first | rfl | trivial⟩
      case measure => simp [intOf] <;> omega
    by_cases h6 : yk = 6
    case pos =>
      subst h6
      have hf : R = (yn.toList.isEmpty && Prn.okP (t.drop (k + 1))) := HFN.out
      cases hne : yn.toList.isEmpty
      case false =>
        have HE : Hid (T = ⟨#[]⟩) := Lib.hid (HNO.out (by rw [hf, hne]; rfl))
        clear HX
        go_wp2_with fail
        go_ret
        exact ⟨by rw [HE.out]; rfl, Below.refl _ _⟩
      have HK3 : Hid (Prn.okP (t.drop (k + 1)) = R) := Lib.hid (by rw [hf, hne]; rfl)
      clear hf
      have HK2 : Hid ((k + 1 < n → Prn.okP (t.drop (k + 1)) = R) ∧ (k + 1 = n → R = true)) := Lib.hid (⟨fun _ => HK3.out, fun h => absurd h hl⟩)
      clear HX
      go_wp2_with fail
      go_roundw
      case rel => exact ⟨k + 1, by omega, by go_num, HK2, by first | rfl | trivial⟩
      case measure => simp [intOf] <;> omega
    have HRF : Hid (R = false) := Lib.hid (by rw [HFN.out]; unfold Chk.mid; simp [h5, h6])
    have t5 : ((yk : Int) == 5) = false := by rw [beq_eq_false_iff_ne]; omega
    have u5 : ¬ yk = 5 := by omega
    have t6 : ((yk : Int) == 6) = false := by rw [beq_eq_false_iff_ne]; omega
    have u6 : ¬ yk = 6 := by omega
    by_cases g1 : (1 : Int) ≤ (yk : Int)
    case neg =>
      have g1n : ¬ 1 ≤ yk := by omega
      have HE : Hid (T = ⟨#[]⟩) := Lib.hid (HNO.out (HRF.out))
      clear HX
      go_wp2_with fail
      go_ret
      exact ⟨by rw [HE.out]; rfl, Below.refl _ _⟩
    have g1n : 1 ≤ yk := by omega
    by_cases g4 : (yk : Int) ≤ 4
    case pos =>
      have g4n : yk ≤ 4 := by omega
      have HE : Hid (T = ⟨#[]⟩) := Lib.hid (HNO.out (HRF.out))
      clear HX
      go_wp2_with fail
      go_ret
      exact ⟨by rw [HE.out]; rfl, Below.refl _ _⟩
    case neg =>
      have g4n : ¬ yk ≤ 4 := by omega
      have HE : Hid (T = ⟨#[]⟩) := Lib.hid (HNO.out (HRF.out))
      clear HX
      go_wp2_with fail
      go_ret
      exact ⟨by rw [HE.out]; rfl, Below.refl _ _⟩
set_option maxRecDepth 100000 in
set_option maxHeartbeats 16000000 in
theorem printsTypes_walk (v : Value) (t : List Id.Srt) (w0 : World) (hv : Id.SortsR w0 none v t) (w : World) (he : w = w0) (hk : Tk.KW w) :
    Calls Tryd.prog 4 #[v] w fun e w' => e = .returned (.bool true) ∧ Below w.heap.size w w' := by
  subst he
  have HV := Lib.hid hv
  have HKW := Lib.hid hk
  obtain ⟨A, n, c, rfl⟩ := ERow.is hv
  have HN : Hid (n = t.length) := Lib.hid (by obtain ⟨_, _, e, _⟩ := ERow.slice hv; injection e)
  have hm : n ≤ 9223372036854775807 := by obtain ⟨_, _, e, _, _⟩ := ERow.slice hv; injection e; omega
  clear hk hv
  have done : ∀ W, Below w.heap.size w W → Calls Tryd.prog 6 #[] W fun e w' => e = .returned (.bool true) ∧ Below w.heap.size w w' := fun W hW => (wakes14_any W (HKW.out.below hW)).mono fun _ _ ⟨h1, h2⟩ => ⟨h1, hW.trans (h2.mono hW.size)⟩
  have HDN := Lib.hid done
  clear done
  go_enter Tryd.func4, Tryd.ntmps4
  by_cases h3 : 300 < n
  case pos =>
    have h3i : (300 : Int) < (n : Int) := by omega
    go_wp2_with fail
    refine (HDN.out _ (Below.refl _ _)).mono ?_
    rintro e W9 ⟨rfl, hb9⟩
    go_wp2_with fail
    go_ret
    exact ⟨rfl, hb9⟩
  have h3i : ¬ (300 : Int) < (n : Int) := by omega
  go_wp2_with fail
  go_loopw [3] (fun i wr => ∃ (k : Nat), k ≤ n ∧ i = .int .i64 k ∧ w = wr ∧ Hid (∀ i (h : i < t.length), i < k → t[i].name.size ≤ 200)) (fun i _ => n - (intOf i).toNat)
  case atStart => exact ⟨0, by omega, rfl, rfl, Lib.hid (fun i h hi => by omega)⟩
  case round =>
    obtain ⟨k, hk, rfl, rfl, HZ⟩ := hrel
    have ik0 : (0 : Int) ≤ (k : Int) := by omega
    by_cases hlt : k < n
    case neg =>
      obtain rfl : k = n := by omega
      have HZZ : Hid (∀ x ∈ t, x.name.size ≤ 200) := Lib.hid (fun x hx => by obtain ⟨i, hi, rfl⟩ := List.mem_iff_getElem.1 hx; exact HZ.out i hi (by rw [HN.out]; exact hi))
      go_wp2_with fail
      refine (pType_any _ t _ HKW.out HV.out).mono ?_
      rintro e W1 ⟨rfl, hb⟩
      have HB1 := Lib.hid hb
      have HV1 : Hid (Id.SortsR W1 none (.slice A k c) t) := Lib.hid (ERow.below HV.out hb (fun _ _ h => h))
      clear hb
      go_wp2_with fail
      refine (rType_any _ t HZZ.out _ HV1.out).mono ?_
      rintro e W2 ⟨rfl, hb⟩
      have HB2 := Lib.hid (HB1.out.trans (hb.mono HB1.out.size))
      clear hb
      go_wp2_with fail
      refine (HDN.out _ HB2.out).mono ?_
      rintro e W9 ⟨rfl, hb9⟩
      go_wp2_with fail
      go_ret
      exact ⟨rfl, hb9⟩
    have hka : k < t.length := by rw [← HN.out]; exact hlt
    obtain ⟨g, off, cs, rfl, -, e1, hc⟩ := ERow.get HV.out hka (by omega)
    obtain ⟨⟨yk, yn⟩, Hy⟩ : ∃ y, Hid (t[k] = y) := ⟨_, Lib.hid rfl⟩
    rw [Hy.out] at e1
    unfold Id.SortE Id.Srt.cells at e1
    subst e1
    have a1 := hc 1 _ rfl
    have ik1 : (k : Int) < (n : Int) := by omega
    clear hc
    by_cases hz : yn.size ≤ 200
    case neg =>
      have hz2 : 200 < yn.size := by omega
      go_wp2_with fail
      refine (HDN.out _ (Below.refl _ _)).mono ?_
      rintro e W9 ⟨rfl, hb9⟩
      go_wp2_with fail
      go_ret
      exact ⟨rfl, hb9⟩
    have HNX : Hid (∀ i (h : i < t.length), i < k + 1 → t[i].name.size ≤ 200) := Lib.hid (fun i h hi => by rcases Nat.lt_or_eq_of_le (Nat.le_of_lt_succ hi) with h1 | rfl; exact HZ.out i h h1; rw [Hy.out]; exact hz)
    clear HZ Hy
    go_wp2_with fail
    go_roundw
    case rel => exact ⟨k + 1, by omega, by go_num, by first | rfl | trivial, HNX⟩
    case measure => simp [intOf]; omega
end Go.Proofs.YtmncppnpppdfkaaDoor
