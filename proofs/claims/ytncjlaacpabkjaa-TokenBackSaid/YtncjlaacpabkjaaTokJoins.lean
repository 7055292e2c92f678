/- TokenJoins: the walk. -/
import Derived.Test.YtncjlaacpabkjaaTokScanMath
import Derived.Test.YtncjlaacpabkjaaAppend
import Derived.Test.YtncjlaacpabkjaaTokWakes
import Derived.Test.YtncjlaacpabkjaaTokSame
set_option linter.unusedVariables false
namespace Go.Proofs.Ytncjlaacpabkjaa
open Go.RowKit
theorem Tk.row_src {w : World} {base : Nat} {v : Value} {ls : List Tk.Tok} (h : w.ownsRow base 30 4 v ls.length (Tk.flat ls)) : ∃ A c, v = .slice A ls.length c ∧ Tk.ReadT w A ls ∧ ls.length ≤ 9223372036854775807 ∧ (A = none → ls.length = 0 ∧ c = 0) := by
  rcases h.2 with ⟨rfl, h0⟩ | ⟨g, cap, cur, rfl, hbs, hgg, hn, hc, _⟩
  · exact ⟨none, 0, by rw [h0], fun e => by omega, by omega, fun _ => ⟨h0, rfl⟩⟩
  · obtain ⟨A, c, e, hr, hm⟩ := Tk.row_reads h
    exact ⟨A, c, e, hr, hm, fun e2 => by subst e2; cases e⟩
theorem Tk.ReadT.src {w : World} {A : Option Addr} {ls : List Tk.Tok} (h : Tk.ReadT w A ls) : ∀ ad, A = some ad → ∀ j u, (Tk.flat ls)[j]? = some u → w.cell? (ad.add j) = some u := by
  intro ad e j u hu
  have hj : j < (Tk.flat ls).length := (List.getElem?_eq_some_iff.1 hu).1
  rw [Tk.flat_len] at hj
  obtain ⟨g, off, e2, hc⟩ := h (by omega)
  rw [e] at e2
  injection e2 with e2
  subst e2
  have hj4 : j / 4 < ls.length := by omega
  obtain ⟨h0, h1, h2, h3⟩ := hc (j / 4) hj4
  have hadd : (⟨g, off, none⟩ : Addr).add j = ⟨g, off + j, none⟩ := by unfold Addr.add; split <;> simp_all
  rw [hadd]
  have hg := Tk.flat_get hj4 (j % 4) (Nat.mod_lt _ (by omega))
  rw [show j / 4 * 4 + j % 4 = j from by omega, hu] at hg
  have hm : j % 4 = 0 ∨ j % 4 = 1 ∨ j % 4 = 2 ∨ j % 4 = 3 := by omega
  rcases hm with hm | hm | hm | hm <;> rw [hm] at hg <;> injection hg with hg <;> rw [hg]
  · rw [show off + j = off + j / 4 * 4 from by omega]; exact h0
  · rw [show off + j = off + j / 4 * 4 + 1 from by omega]; exact h1
  · rw [show off + j = off + j / 4 * 4 + 2 from by omega]; exact h2
  · rw [show off + j = off + j / 4 * 4 + 3 from by omega]; exact h3
theorem Tk.flat_one (ls : List Tk.Tok) : ∀ u ∈ Tk.flat ls, u.oneCell' = true := by
  intro u hu
  obtain ⟨t, _, ht⟩ := List.mem_flatMap.1 hu
  simp [Tk.Tok.cells] at ht
  rcases ht with rfl | rfl | rfl | rfl <;> rfl
theorem bytes_append (a b : ByteArray) : (a ++ b).data.toList = a.data.toList ++ b.data.toList := by simp
set_option maxRecDepth 100000 in
set_option maxHeartbeats 4000000 in
theorem tokenJoins_walk (a b : ByteArray) (ha : a.size ≤ maxLen) (hb : b.size ≤ maxLen) (w : World) :
    Calls Try.prog 4 #[.string a, .string b] w fun e w' => e = .returned (.bool true) ∧ Below w.heap.size w w' := by
  unfold maxLen at ha hb
  go_enter Try.func4, Try.ntmps4
  go_upto_if 17 with (fail)
  go_cut [0] (fun x wx => ∃ a' : ByteArray, x = .string a' ∧ a'.size ≤ 3000 ∧ wx = w)
  case first =>
    by_cases h1 : 3000 < a.size
    · go_wp2_with fail
      go_meet
      case rel => exact ⟨_, rfl, by simp; omega, rfl⟩
    · go_wp2_with fail
      go_meet
      case rel => exact ⟨_, rfl, by omega, rfl⟩
  case rest =>
    obtain ⟨a', rfl, ha', rfl⟩ := hcut
    clear ha
    go_upto_if 22 with (fail)
    go_cut [1] (fun x wx => ∃ b' : ByteArray, x = .string b' ∧ b'.size ≤ 3000 ∧ wx = wc)
    case first =>
      by_cases h1 : 3000 < b.size
      · go_wp2_with fail
        go_meet
        case rel => exact ⟨_, rfl, by simp; omega, rfl⟩
      · go_wp2_with fail
        go_meet
        case rel => exact ⟨_, rfl, by omega, rfl⟩
    case rest =>
      obtain ⟨b', rfl, hb', rfl⟩ := hcut
      clear hb
      go_wp2_with fail
      obtain ⟨RA, hRA⟩ : ∃ R, Tk.all a' = R := ⟨_, rfl⟩
      obtain ⟨RB, hRB⟩ : ∃ R, Tk.all b' = R := ⟨_, rfl⟩
      have HRA := Lib.hid hRA
      have HRB := Lib.hid hRB
      clear hRA hRB
      refine (all_any a' (by unfold maxLen; omega) _).mono ?_
      rintro e w1 ⟨v1, rfl, hb1, hr1⟩
      rw [HRA.out] at hr1 ⊢
      obtain ⟨la, ka, ea⟩ := RA
      simp only at hr1 ⊢
      go_wp2_with fail
      refine (all_any b' (by unfold maxLen; omega) _).mono ?_
      rintro e w2 ⟨v2, rfl, hb2, hr2⟩
      rw [HRB.out] at hr2 ⊢
      obtain ⟨lb, kb, eb⟩ := RB
      simp only at hr2 ⊢
      go_wp2_with fail
      have hsz : (a' ++ ⟨#[10]⟩ ++ b').size ≤ maxLen := by unfold maxLen; simp; rw [show (⟨#[10]⟩ : ByteArray).size = 1 from rfl]; omega
      have hfa := (Tk.all_facts a')
      have hfb := (Tk.all_facts b')
      rw [HRA.out] at hfa
      rw [HRB.out] at hfb
      obtain ⟨fa1, fa2, fa3, fa4⟩ := hfa
      obtain ⟨fb1, fb2, fb3, fb4⟩ := hfb
      simp only at fa1 fa2 fa3 fa4 fb1 fb2 fb3 fb4
      have hj := Tk.all_join (c := a' ++ ⟨#[10]⟩ ++ b') (a := a') (b := b') (by simp) (by simp; rw [show (⟨#[10]⟩ : ByteArray).size = 1 from rfl]; omega)
      rw [HRA.out, HRB.out] at hj
      simp only at hj
      obtain ⟨Al, cl, rfl, hl1, _, hAl⟩ := Tk.row_src hr1
      by_cases hea : ea = 0
      · subst hea
        rw [if_neg (by simp)] at hj
        by_cases heb : eb = 0
        · subst heb
          rw [if_neg (by simp)] at hj
          have HJ := Lib.hid hj
          have FB4 := Lib.hid fb4
          clear hj fa2 fb2 fa4 fb4
          refine (all_any _ hsz _).mono ?_
          rintro e w3 ⟨v3, rfl, hb3, hr3⟩
          rw [HJ.out] at hr3 ⊢
          simp only at hr3 ⊢
          have hz1 := hb1.size
          have hz2 := hb2.size
          have hz3 := hb3.size
          have hr2' := Tk.row_below hr2 hb3
          have HV : Hid (0 < lb.length → ∃ g2 c2, v2 = .slice (some ⟨g2, 0, none⟩) lb.length c2) := by
            apply Lib.hid
            intro h0
            rcases hr2.2 with ⟨_, h⟩ | ⟨g, cap, cur, hv, _⟩
            · omega
            · exact ⟨g, cap, hv⟩
          obtain ⟨A2, c2, rfl, _, _⟩ := Tk.row_reads hr2
          obtain ⟨A3, c3, rfl, hm3, _⟩ := Tk.row_reads hr3
          have HA3 : Hid (∀ g, A2 = some ⟨g, 0, none⟩ → some g ≠ (Value.slice A3 (la ++ lb.map (Tk.Tok.move ((a').size + 1))).length c3).ownBlock) := by
            apply Lib.hid
            rintro g rfl e
            have h4 := hr3.lt _ e.symm
            have h5 := hr2.lt g rfl
            omega
          have HA1 : Hid (∀ g, A2 = some ⟨g, 0, none⟩ → w1.heap.size ≤ g ∧ g < w2.heap.size) := by
            apply Lib.hid
            rintro g rfl
            exact hr2.lt g rfl
          have HR3 := Lib.hid hr3
          have HL1 := Lib.hid hl1
          have HAL := Lib.hid hAl
          have HR2 := Lib.hid hr2'
          clear hr1 hr2 hr2' hl1 hr3 hm3 hAl
          go_wp2_with fail
          go_loopw [14] (fun i wr => ∃ k : Nat, k ≤ lb.length ∧ i = .int .i64 k ∧ Hid (wr.ownsRow w1.heap.size 30 4 (.slice A2 lb.length c2) lb.length (Tk.flat (Tk.part ((a').size + 1) k lb))) ∧ Hid (wr.ownsRow w2.heap.size 30 4 (.slice A3 (la ++ lb.map (Tk.Tok.move ((a').size + 1))).length c3) (la ++ lb.map (Tk.Tok.move ((a').size + 1))).length (Tk.flat (la ++ lb.map (Tk.Tok.move ((a').size + 1))))) ∧ Below w1.heap.size w3 wr) (fun i _ => lb.length - (intOf i).toNat)
          case atStart => exact ⟨0, by omega, rfl, Lib.hid (by rw [Tk.part_zero]; exact HR2.out), HR3, Below.refl _ _⟩
          case round =>
            obtain ⟨k, hk, rfl, HM, HN, hb4⟩ := hrel
            by_cases hlt : k < lb.length
            · obtain ⟨g2, c2', hv⟩ := HV.out (by omega)
              injection hv with hv1 hv2 hv3
              subst hv1 hv3
              have hset := row_set HM.out (k * 4 + 3) (by omega) (.int .i64 (((a').size + 1 + lb[k].at_ : Nat) : Int))
              obtain ⟨hs1, hs2, hs3, hs4⟩ := hset
              have hcell := HM.out.cells (g := g2) rfl (k * 4 + 3) _ (Tk.part_get hlt)
              have hadd : (⟨g2, 0, none⟩ : Addr).add (k * 4 + 3) = ⟨g2, k * 4 + 3, none⟩ := by unfold Addr.add; split <;> simp_all
              rw [hadd] at hcell
              have hat := FB4.out lb[k] (List.getElem_mem hlt)
              have HS1 := Lib.hid hs1
              have hki : (k : Int) < (lb.length : Int) := by omega
              have hN2 := ownsRow_setCell_other HN.out (a := ⟨g2, k * 4 + 3, none⟩) (by have := HA3.out g2 rfl; intro e; exact this e.symm) (.int .i64 (((a').size + 1 + lb[k].at_ : Nat) : Int))
              have HN2 := Lib.hid hN2
              have HPS := Lib.hid (Tk.part_step (m := (a').size + 1) hlt)
              have hb5 := hb4.setCell (p := ⟨g2, k * 4 + 3, none⟩) hs4 (.int .i64 (((a').size + 1 + lb[k].at_ : Nat) : Int))
              have HB5 := Lib.hid hb5
              clear hs1 hs3 hN2 hadd hb5
              generalize lb[k].at_ = q at *
              go_wp2_with fail
              go_roundw
              case rel => 
                have e : ((q : Int) + ((a').size : Int) + 1) = (((a').size + 1 + q : Nat) : Int) := by omega
                rw [e]
                exact ⟨k + 1, by omega, by go_num, Lib.hid (by rw [HPS.out]; exact HS1.out), HN2, HB5.out⟩
              case measure => simp [intOf]; omega
            · obtain rfl : k = lb.length := by omega
              have hMM := HM.out
              rw [Tk.part_all] at hMM
              have hb1r : Below w1.heap.size w1 wr := (hb2.trans (hb3.mono hz2)).trans hb4
              have hLr := HL1.out.below hb1r
              obtain ⟨A2', c2', e2, hMr, _, hA2⟩ := Tk.row_src (ls := lb.map (Tk.Tok.move ((a').size + 1))) (by simpa using hMM)
              injection e2 with e2 e3 e4
              subst e2 e4
              obtain ⟨A3', c3', e5, hNr, _, _⟩ := Tk.row_src HN.out
              injection e5 with e5 e6 e7
              subst e5 e7
              have hlen : (lb.map (Tk.Tok.move ((a').size + 1))).length = lb.length := by simp
              have hz4 := hb4.size
              have hnew := World.ownsRow_made wr #[] 0 (base := wr.heap.size) (e := 30) (size := 4) (Nat.le_refl _) (by unfold maxLen; omega) (by simp)
              have HLN := Lib.hid hlen
              have HLR := Lib.hid hLr
              have HMR := Lib.hid hMr
              have HNR := Lib.hid hNr
              have HA2 := Lib.hid hA2
              have HNW := Lib.hid hnew
              clear hMM hlen hLr hMr hNr hA2 hnew e3 e6
              have tok1 : True := trivial
              go_wp2_with (first | (at_builtin; have _t := tok1; go_must (refine wpList_append_src rfl (.tmp 108) (.tmp 109) _ rfl wr.heap.size 30 _ 4 40 Try.underlying22 info_tok rfl (by decide) _ 0 [] rfl HNW.out _ la.length _ (Tk.flat la) rfl HAL.out (Tk.flat_len la) (HLR.out.below ((Below.refl _ _).alloc (Nat.le_refl _) _)).src (Tk.flat_one la) (by simp only [maxLen]; omega) (by omega) (by simp) ?_); clear tok1 _t; intro v5 w5 hown5 hg5 hb5; rw [Nat.zero_add, List.nil_append] at hown5; have HO5 := Lib.hid hown5; have hz5 := hb5.size; simp only [World.size_alloc] at hz5; have hb5' : Below wr.heap.size wr w5 := ((Below.refl _ _).alloc (Nat.le_refl _) _).trans hb5; have HM5 := Lib.hid (HMR.out.below hb5'); clear hown5 hg5) | (at_builtin; go_must (refine wpList_append_src rfl (.tmp 110) (.tmp 111) _ rfl wr.heap.size 30 _ 4 40 Try.underlying22 info_tok rfl (by decide) _ la.length _ rfl HO5.out _ lb.length _ (Tk.flat (lb.map (Tk.Tok.move ((a').size + 1)))) rfl (by have := HA2.out; rw [HLN.out] at this; exact this) (by rw [Tk.flat_len, HLN.out]) HM5.out.src (Tk.flat_one _) (by simp only [maxLen]; omega) (by omega) (by omega) ?_); intro v6 w6 hown6 hg6 hb6))
              have hb6' : Below wr.heap.size wr w6 := hb5'.trans hb6
              rw [← Tk.flat_append] at hown6
              obtain ⟨A6, c6, e6, hr6, _, _⟩ := Tk.row_src (ls := la ++ lb.map (Tk.Tok.move ((a').size + 1))) (by rw [List.length_append, HLN.out]; exact hown6)
              rw [List.length_append, HLN.out] at e6
              subst e6
              have HR6 := Lib.hid hr6
              have HN6 := Lib.hid (HNR.out.below hb6')
              clear hown6 hg6 hr6
              refine (tsame_true A6 A3 (la.length + lb.length) c6 c3 (la ++ lb.map (Tk.Tok.move ((a').size + 1))) (by rw [List.length_append, HLN.out]) (by omega) _ HR6.out HN6.out).mono ?_
              rintro e w7 ⟨rfl, q, rfl⟩
              go_wp2_with fail
              refine (wakes_any _).mono ?_
              rintro e w8 ⟨rfl, hb8⟩
              go_wp2_with fail
              go_ret
              exact ⟨rfl, bl_join (below_drewN (bl_join (bl_join hb1 hb1r) hb6') q) hb8⟩
        · rw [if_pos heb] at hj
          have heb0 := fb2 heb
          subst heb0
          have hj : Tk.all (a' ++ ⟨#[10]⟩ ++ b') = ([], kb + (a').size + 1, eb) := by rw [hj]; congr 2; omega
          have tb : ((eb : Int) == 0) = false := by simp; omega
          have HJ := Lib.hid hj
          clear hj heb fa2 fb2 fa4 fb4
          refine (all_any _ hsz _).mono ?_
          rintro e w3 ⟨v3, rfl, hb3, hr3⟩
          rw [HJ.out] at hr3 ⊢
          simp only at hr3 ⊢
          obtain ⟨A3, c3, rfl, _, _⟩ := Tk.row_reads (ls := []) hr3
          go_wp2_with fail
          refine (wakes_any _).mono ?_
          rintro e w4 ⟨rfl, hb4⟩
          go_wp2_with fail
          go_ret
          exact ⟨by simp, bl_join (bl_join (bl_join hb1 hb2) hb3) hb4⟩
      · rw [if_pos hea] at hj
        have hea0 := fa2 hea
        subst hea0
        have ta : ((ea : Int) == 0) = false := by simp; omega
        have HJ := Lib.hid hj
        clear hj hea fa2 fb2 fa4 fb4
        refine (all_any _ hsz _).mono ?_
        rintro e w3 ⟨v3, rfl, hb3, hr3⟩
        rw [HJ.out] at hr3 ⊢
        simp only at hr3 ⊢
        obtain ⟨A3, c3, rfl, _, _⟩ := Tk.row_reads (ls := []) hr3
        go_wp2_with fail
        refine (wakes_any _).mono ?_
        rintro e w4 ⟨rfl, hb4⟩
        go_wp2_with fail
        go_ret
        exact ⟨by simp, bl_join (bl_join (bl_join hb1 hb2) hb3) hb4⟩
end Go.Proofs.Ytncjlaacpabkjaa
