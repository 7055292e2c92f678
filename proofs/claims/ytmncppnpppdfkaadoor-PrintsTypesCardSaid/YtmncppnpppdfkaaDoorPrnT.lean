/- prints.Type (printed by gen_prnt.py). No condition but the keywords' table. -/
import Derived.Test.YtmncppnpppdfkaaDoorPrnC
set_option linter.unusedVariables false
set_option linter.unusedSimpArgs false
namespace Go.Proofs.YtmncppnpppdfkaaDoor
open Go.RowKit Go.BigFrame
namespace Prn
open Go.Proofs.YtmncppnpppdfkaaDoor.Id Go.Proofs.YtmncppnpppdfkaaDoor.Chk
def typeP (t : List Srt) : ByteArray := if t.length ≤ 12 ∧ okP t = true then jn (t.map sortW) else ⟨#[]⟩
theorem okP_drop {t : List Srt} {k : Nat} (h : k + 1 < t.length) : okP (t.drop k) = (mid (t[k]'(by omega)) && okP (t.drop (k + 1))) := by
  rw [List.drop_eq_getElem_cons (show k < t.length by omega), List.drop_eq_getElem_cons h]
  rfl
theorem okP_last {t : List Srt} {k : Nat} (h : k + 1 = t.length) : okP (t.drop k) = finP (t[k]'(by omega)) := by
  rw [List.drop_eq_getElem_cons (show k < t.length by omega), List.drop_of_length_le (by omega)]
  rfl
theorem sorts_size {t : List Srt} (h : okP t = true) : ∀ u ∈ t.map sortW, u.size ≤ 32 := fun u hu => by
  obtain ⟨x, hx, rfl⟩ := List.mem_map.1 hu
  exact (own_sorts h x hx).2
end Prn
set_option maxRecDepth 100000 in
set_option maxHeartbeats 16000000 in
theorem pType_any (tv : Value) (t : List Id.Srt) (w : World) (hk : Tk.KW w) (ht : Id.SortsR w none tv t) :
    Calls Tryd.prog 10 #[tv] w fun e w' => e = .returned (.string (Prn.typeP t)) ∧ Below w.heap.size w w' := by
  obtain ⟨T, HT⟩ : ∃ T, Hid (Prn.typeP t = T) := ⟨_, Lib.hid rfl⟩
  rw [HT.out]
  unfold Prn.typeP at HT
  have HKW := Lib.hid hk
  have HS := Lib.hid ht
  obtain ⟨A, n, c, rfl⟩ := ERow.is ht
  have HN : Hid (n = t.length) := Lib.hid (by obtain ⟨_, _, e, _⟩ := ERow.slice ht; injection e)
  have hm : n ≤ 9223372036854775807 := by obtain ⟨_, _, e, _, _⟩ := ERow.slice ht; injection e; omega
  clear hk ht
  by_cases h12 : n ≤ 12
  case neg =>
    have HE : Hid (T = ⟨#[]⟩) := Lib.hid (by rw [← HT.out, if_neg (by rw [← HN.out]; exact fun h => h12 h.1)])
    have h0 : ((n : Int) == 0) = false := by rw [beq_eq_false_iff_ne]; omega
    have h0b : ¬ (n : Int) = 0 := by omega
    have h1 : (12 : Int) < (n : Int) := by omega
    have h2 : 12 < n := by omega
    clear h12
    go_enter Tryd.func10, Tryd.ntmps10
    go_wp2_with fail
    go_ret
    exact ⟨by rw [HE.out]; rfl, Below.refl _ _⟩
  by_cases h00 : n = 0
  case pos =>
    have HE : Hid (T = ⟨#[]⟩) := Lib.hid (by rw [← HT.out, if_neg (by rw [List.length_eq_zero_iff.1 (HN.out.symm.trans h00)]; exact fun h => by cases h.2)])
    subst h00
    try simp only [Int.cast_ofNat_Int] at *
    go_enter Tryd.func10, Tryd.ntmps10
    go_wp2_with fail
    go_ret
    exact ⟨by rw [HE.out]; rfl, Below.refl _ _⟩
  obtain ⟨R, HR⟩ : ∃ R, Hid (Prn.okP t = R) := ⟨_, Lib.hid rfl⟩
  have HTT : Hid ((if R = true then Prn.jn (t.map Prn.sortW) else ⟨#[]⟩) = T) := Lib.hid (by rw [← HT.out, HR.out]; simp only [← HN.out, h12, true_and])
  have HNO : Hid (R = false → T = ⟨#[]⟩) := Lib.hid (fun h => by rw [← HTT.out, if_neg (by rw [h]; decide)])
  have h0 : ((n : Int) == 0) = false := by rw [beq_eq_false_iff_ne]; omega
  have h0b : ¬ (n : Int) = 0 := by omega
  have h1 : ¬ (12 : Int) < (n : Int) := by omega
  have h2 : ¬ 12 < n := by omega
  have hn1 : 1 ≤ n := by omega
  clear h00 HT
  go_enter Tryd.func10, Tryd.ntmps10
  go_wp2_with fail
  go_loopw [17] (fun i wr => ∃ (k : Nat), k ≤ n ∧ i = .int .i64 k ∧ Hid ((k < n → Prn.okP (t.drop k) = R) ∧ (k = n → R = true)) ∧ Hid (Below w.heap.size w wr)) (fun i _ => n - (intOf i).toNat)
  case atStart => exact ⟨0, by omega, rfl, Lib.hid ⟨fun _ => HR.out, fun h => by omega⟩, Lib.hid (Below.refl _ _)⟩
  case round =>
    obtain ⟨k, hk, rfl, HK, HB⟩ := hrel
    obtain ⟨V, rfl⟩ : ∃ w', w' = wr := ⟨_, rfl⟩
    have ik0 : (0 : Int) ≤ (k : Int) := by omega
    by_cases hlt : k < n
    case neg =>
      obtain rfl : k = n := by omega
      have hRt := HK.out.2 rfl
      have HRO : Hid (Prn.okP t = true) := Lib.hid (by rw [HR.out]; exact hRt)
      have HE : Hid (Prn.jn (t.map Prn.sortW) = T) := Lib.hid (by rw [← HTT.out, if_pos hRt])
      have hbs := HB.out.size
      clear hRt HK
      go_upto_region 24 with (fail)
      refine wp_named (fun W2 hW => ?_)
      obtain ⟨hbx, hqx, -⟩ := fresh_box hW
      have HP := Lib.hid (Prn.Put.start (w0 := V) (b := V.heap.size) (L := []) hbx ⟨Nat.le_refl _, hbx.size, _, hqx, ERow.nil _ _ _ _ _⟩)
      clear hW hqx
      have HB2 := Lib.hid (HB.out.trans (hbx.mono hbs))
      clear hbx
      go_wp2_with fail
      refine (pwsorts_any V.heap.size _ t _ V W2 HP.out.bel HP.out.wr (fun w' hb _ => ERow.below (ERow.below HS.out HB.out (fun _ _ h => h)) hb (fun _ _ h => h)) (by simp only [List.length_nil, List.length_append, ← HN.out]; omega)).mono ?_
      rintro e W3 ⟨rfl, hp⟩
      have HP3 := Lib.hid (HP.out.step hp)
      clear hp
      go_wp2_with fail
      have hjl := Prn.jl_le (Prn.sorts_size HRO.out)
      rw [List.length_map, ← HN.out] at hjl
      refine (pwtext_any V.heap.size (t.map Prn.sortW) V.heap.size W3 (by have h := HP3.out.wr; rw [List.nil_append, List.nil_append] at h; exact h) (by simp only [List.length_map, ← HN.out]; omega) (by omega)).mono ?_
      rw [HE.out]
      rintro e W4 ⟨rfl, hb4⟩
      have HB4 := Lib.hid (HB.out.trans ((HP3.out.bel.trans (hb4.mono HP3.out.bel.size)).mono hbs))
      clear hb4 hjl
      go_wp2_with fail
      go_ret
      exact ⟨rfl, HB4.out⟩
    have hka : k < t.length := by rw [← HN.out]; exact hlt
    have hK := HK.out.1 hlt
    obtain ⟨g, off, cs, rfl, -, e1, hc⟩ := ERow.get HS.out hka (by omega)
    have HX : Hid ((k + 1 < n → Prn.okP (t.drop k) = (Chk.mid t[k] && Prn.okP (t.drop (k + 1)))) ∧ (k + 1 = n → Prn.okP (t.drop k) = Prn.finP t[k])) := Lib.hid ⟨fun h => Prn.okP_drop (by rw [← HN.out]; exact h), fun h => Prn.okP_last (by rw [← HN.out]; exact h)⟩
    obtain ⟨⟨yk, yn⟩, Hy⟩ : ∃ y, Hid (t[k] = y) := ⟨_, Lib.hid rfl⟩
    rw [hK, Hy.out] at HX
    rw [Hy.out] at e1
    unfold Id.SortE Id.Srt.cells at e1
    subst e1
    have a0 := hc 0 _ rfl
    have a1 := hc 1 _ rfl
    simp only [Nat.add_zero] at a0
    have hgl : g < w.heap.size := World.block_lt_of_cell? w _ a0
    have a0 := (HB.out.cell hgl).trans a0
    have a1 := (HB.out.cell hgl).trans a1
    have hbs := HB.out.size
    have hgne : ¬ g = V.heap.size := by omega
    have ik1 : (k : Int) < (n : Int) := by omega
    clear hc Hy hka hK HK
    go_upto_region 6 with (fail)
    refine wp_named (fun V1 hW => ?_)
    obtain ⟨hbx, hqx, -⟩ := fresh_box hW
    have HB1 := Lib.hid (HB.out.trans (hbx.mono hbs))
    obtain ⟨⟨b0, b1⟩, -⟩ := hqx.k2
    clear hW hbx hqx a0 a1 HB
    by_cases hl : k + 1 = n
    case pos =>
      have hf := HX.out.2 hl
      have HFN := Lib.hid hf
      have l1 : ((k : Int) == (n : Int) - 1) = true := by rw [beq_iff_eq]; omega
      have l2 : (k : Int) = (n : Int) - 1 := by omega
      clear hf
      by_cases h5 : yk = 5
      case pos =>
        subst h5
        have HE : Hid (T = ⟨#[]⟩) := Lib.hid (HNO.out (HFN.out.trans rfl))
        clear HX
        go_wp2_with fail
        go_ret
        exact ⟨by rw [HE.out]; rfl, HB1.out⟩
      by_cases h6 : yk = 6
      case pos =>
        subst h6
        have HE : Hid (T = ⟨#[]⟩) := Lib.hid (HNO.out (HFN.out.trans rfl))
        clear HX
        go_wp2_with fail
        go_ret
        exact ⟨by rw [HE.out]; rfl, HB1.out⟩
      by_cases h1 : yk = 1
      case pos =>
        subst h1
        have hf : R = yn.toList.isEmpty := HFN.out
        cases hne : yn.toList.isEmpty
        case false =>
          have HE : Hid (T = ⟨#[]⟩) := Lib.hid (HNO.out (hf.trans hne))
          clear HX
          go_wp2_with fail
          go_ret
          exact ⟨by rw [HE.out]; rfl, HB1.out⟩
        have hRt : R = true := hf.trans hne
        clear hf
        have HK2 : Hid ((k + 1 < n → Prn.okP (t.drop (k + 1)) = R) ∧ (k + 1 = n → R = true)) := Lib.hid (⟨fun h => by omega, fun _ => hRt⟩)
        clear HX
        go_wp2_with fail
        go_roundw
        case rel => exact ⟨k + 1, by omega, by go_num, HK2, HB1⟩
        case measure => simp [intOf] <;> omega
      by_cases h2 : yk = 2
      case pos =>
        subst h2
        have hf : R = yn.toList.isEmpty := HFN.out
        cases hne : yn.toList.isEmpty
        case false =>
          have HE : Hid (T = ⟨#[]⟩) := Lib.hid (HNO.out (hf.trans hne))
          clear HX
          go_wp2_with fail
          go_ret
          exact ⟨by rw [HE.out]; rfl, HB1.out⟩
        have hRt : R = true := hf.trans hne
        clear hf
        have HK2 : Hid ((k + 1 < n → Prn.okP (t.drop (k + 1)) = R) ∧ (k + 1 = n → R = true)) := Lib.hid (⟨fun h => by omega, fun _ => hRt⟩)
        clear HX
        go_wp2_with fail
        go_roundw
        case rel => exact ⟨k + 1, by omega, by go_num, HK2, HB1⟩
        case measure => simp [intOf] <;> omega
      by_cases h3 : yk = 3
      case pos =>
        subst h3
        have hf : R = yn.toList.isEmpty := HFN.out
        cases hne : yn.toList.isEmpty
        case false =>
          have HE : Hid (T = ⟨#[]⟩) := Lib.hid (HNO.out (hf.trans hne))
          clear HX
          go_wp2_with fail
          go_ret
          exact ⟨by rw [HE.out]; rfl, HB1.out⟩
        have hRt : R = true := hf.trans hne
        clear hf
        have HK2 : Hid ((k + 1 < n → Prn.okP (t.drop (k + 1)) = R) ∧ (k + 1 = n → R = true)) := Lib.hid (⟨fun h => by omega, fun _ => hRt⟩)
        clear HX
        go_wp2_with fail
        go_roundw
        case rel => exact ⟨k + 1, by omega, by go_num, HK2, HB1⟩
        case measure => simp [intOf] <;> omega
      by_cases h4 : yk = 4
      case pos =>
        subst h4
        have hf : R = yn.toList.isEmpty := HFN.out
        cases hne : yn.toList.isEmpty
        case false =>
          have HE : Hid (T = ⟨#[]⟩) := Lib.hid (HNO.out (hf.trans hne))
          clear HX
          go_wp2_with fail
          go_ret
          exact ⟨by rw [HE.out]; rfl, HB1.out⟩
        have hRt : R = true := hf.trans hne
        clear hf
        have HK2 : Hid ((k + 1 < n → Prn.okP (t.drop (k + 1)) = R) ∧ (k + 1 = n → R = true)) := Lib.hid (⟨fun h => by omega, fun _ => hRt⟩)
        clear HX
        go_wp2_with fail
        go_roundw
        case rel => exact ⟨k + 1, by omega, by go_num, HK2, HB1⟩
        case measure => simp [intOf] <;> omega
      by_cases h7 : yk = 7
      case pos =>
        subst h7
        have HF7 : Hid (R = Tk.isName yn) := Lib.hid HFN.out
        obtain ⟨b, HBN⟩ : ∃ b, Hid (Tk.isName yn = b) := ⟨_, Lib.hid rfl⟩
        go_wp2_with fail
        refine (name_any yn _ (HKW.out.below HB1.out)).mono ?_
        rw [HBN.out]
        rintro e V2 ⟨rfl, hb2⟩
        have HBz := Lib.hid (HB1.out.trans (hb2.mono HB1.out.size))
        clear hb2 b0 b1
        cases b
        case false =>
          have HE : Hid (T = ⟨#[]⟩) := Lib.hid (HNO.out (HF7.out.trans HBN.out))
          go_wp2_with fail
          go_ret
          exact ⟨by rw [HE.out]; rfl, HBz.out⟩
        have hRt : R = true := HF7.out.trans HBN.out
        have HK2 : Hid ((k + 1 < n → Prn.okP (t.drop (k + 1)) = R) ∧ (k + 1 = n → R = true)) := Lib.hid (⟨fun h => by omega, fun _ => hRt⟩)
        clear HX
        go_wp2_with fail
        go_roundw
        case rel => exact ⟨k + 1, by omega, by go_num, HK2, HBz⟩
        case measure => simp [intOf] <;> omega
      have hRf : R = false := by rw [HFN.out]; unfold Prn.finP; simp only [h1, h2, h3, h4, h7, false_or, or_self, if_false]
      have t5 : ((yk : Int) == 5) = false := by rw [beq_eq_false_iff_ne]; omega
      have t6 : ((yk : Int) == 6) = false := by rw [beq_eq_false_iff_ne]; omega
      have t1 : ((yk : Int) == 1) = false := by rw [beq_eq_false_iff_ne]; omega
      have t2 : ((yk : Int) == 2) = false := by rw [beq_eq_false_iff_ne]; omega
      have t3 : ((yk : Int) == 3) = false := by rw [beq_eq_false_iff_ne]; omega
      have t4 : ((yk : Int) == 4) = false := by rw [beq_eq_false_iff_ne]; omega
      have t7 : ((yk : Int) == 7) = false := by rw [beq_eq_false_iff_ne]; omega
      have HRF := Lib.hid hRf
      clear hRf h5 h6 h1 h2 h3 h4 h7
      have HE : Hid (T = ⟨#[]⟩) := Lib.hid (HNO.out (HRF.out))
      clear HX
      go_wp2_with fail
      go_ret
      exact ⟨by rw [HE.out]; rfl, HB1.out⟩
    have hf := HX.out.1 (by omega)
    have HFN := Lib.hid hf
    have l1 : ((k : Int) == (n : Int) - 1) = false := by rw [beq_eq_false_iff_ne]; omega
    have l2 : ¬ (k : Int) = (n : Int) - 1 := by omega
    clear hf
    by_cases h5 : yk = 5
    case pos =>
      subst h5
      have hf : R = (yn.toList.isEmpty && Prn.okP (t.drop (k + 1))) := HFN.out
      cases hne : yn.toList.isEmpty
      case false =>
        have HE : Hid (T = ⟨#[]⟩) := Lib.hid (HNO.out (by rw [hf, hne]; rfl))
        clear HX
        go_wp2_with fail
        go_ret
        exact ⟨by rw [HE.out]; rfl, HB1.out⟩
      have HK3 : Hid (Prn.okP (t.drop (k + 1)) = R) := Lib.hid (by rw [hf, hne]; rfl)
      clear hf
      have HK2 : Hid ((k + 1 < n → Prn.okP (t.drop (k + 1)) = R) ∧ (k + 1 = n → R = true)) := Lib.hid (⟨fun _ => HK3.out, fun h => absurd h hl⟩)
      clear HX
      go_wp2_with fail
      go_roundw
      case rel => exact ⟨k + 1, by omega, by go_num, HK2, HB1⟩
      case measure => simp [intOf] <;> omega
    by_cases h6 : yk = 6
    case pos =>
      subst h6
      have hf : R = (yn.toList.isEmpty && Prn.okP (t.drop (k + 1))) := HFN.out
      cases hne : yn.toList.isEmpty
      case false =>
        have HE : Hid (T = ⟨#[]⟩) := Lib.hid (HNO.out (by rw [hf, hne]; rfl))
        clear HX
        go_wp2_with fail
        go_ret
        exact ⟨by rw [HE.out]; rfl, HB1.out⟩
      have HK3 : Hid (Prn.okP (t.drop (k + 1)) = R) := Lib.hid (by rw [hf, hne]; rfl)
      clear hf
      have HK2 : Hid ((k + 1 < n → Prn.okP (t.drop (k + 1)) = R) ∧ (k + 1 = n → R = true)) := Lib.hid (⟨fun _ => HK3.out, fun h => absurd h hl⟩)
      clear HX
      go_wp2_with fail
      go_roundw
      case rel => exact ⟨k + 1, by omega, by go_num, HK2, HB1⟩
      case measure => simp [intOf] <;> omega
    have HRF : Hid (R = false) := Lib.hid (by rw [HFN.out]; unfold Chk.mid; simp [h5, h6])
    by_cases h1 : yk = 1
    case pos =>
      subst h1
      have HE : Hid (T = ⟨#[]⟩) := Lib.hid (HNO.out (HRF.out))
      clear HX
      go_wp2_with fail
      go_ret
      exact ⟨by rw [HE.out]; rfl, HB1.out⟩
    by_cases h2 : yk = 2
    case pos =>
      subst h2
      have HE : Hid (T = ⟨#[]⟩) := Lib.hid (HNO.out (HRF.out))
      clear HX
      go_wp2_with fail
      go_ret
      exact ⟨by rw [HE.out]; rfl, HB1.out⟩
    by_cases h3 : yk = 3
    case pos =>
      subst h3
      have HE : Hid (T = ⟨#[]⟩) := Lib.hid (HNO.out (HRF.out))
      clear HX
      go_wp2_with fail
      go_ret
      exact ⟨by rw [HE.out]; rfl, HB1.out⟩
    by_cases h4 : yk = 4
    case pos =>
      subst h4
      have HE : Hid (T = ⟨#[]⟩) := Lib.hid (HNO.out (HRF.out))
      clear HX
      go_wp2_with fail
      go_ret
      exact ⟨by rw [HE.out]; rfl, HB1.out⟩
    by_cases h7 : yk = 7
    case pos =>
      subst h7
      have HE : Hid (T = ⟨#[]⟩) := Lib.hid (HNO.out (HRF.out))
      clear HX
      go_wp2_with fail
      go_ret
      exact ⟨by rw [HE.out]; rfl, HB1.out⟩
    have t5 : ((yk : Int) == 5) = false := by rw [beq_eq_false_iff_ne]; omega
    have t6 : ((yk : Int) == 6) = false := by rw [beq_eq_false_iff_ne]; omega
    have t1 : ((yk : Int) == 1) = false := by rw [beq_eq_false_iff_ne]; omega
    have t2 : ((yk : Int) == 2) = false := by rw [beq_eq_false_iff_ne]; omega
    have t3 : ((yk : Int) == 3) = false := by rw [beq_eq_false_iff_ne]; omega
    have t4 : ((yk : Int) == 4) = false := by rw [beq_eq_false_iff_ne]; omega
    have t7 : ((yk : Int) == 7) = false := by rw [beq_eq_false_iff_ne]; omega
    clear h5 h6 h1 h2 h3 h4 h7
    have HE : Hid (T = ⟨#[]⟩) := Lib.hid (HNO.out (HRF.out))
    clear HX
    go_wp2_with fail
    go_ret
    exact ⟨by rw [HE.out]; rfl, HB1.out⟩
end Go.Proofs.YtmncppnpppdfkaaDoor
