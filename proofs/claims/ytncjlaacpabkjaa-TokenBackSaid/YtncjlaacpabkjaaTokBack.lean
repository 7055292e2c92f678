/- TokenBack: the walk. -/
import Derived.Test.YtncjlaacpabkjaaTokBackMath
import Derived.Test.YtncjlaacpabkjaaTokSpellQ
import Derived.Test.YtncjlaacpabkjaaTokWakes
import Derived.Test.YtncjlaacpabkjaaTokSame
import Derived.Test.YtncjlaacpabkjaaAppend
import Derived.Test.YtncjlaacpabkjaaTokJoins
import Derived.Test.YtncjlaacpabkjaaLie
set_option linter.unusedVariables false
namespace Go.Proofs.Ytncjlaacpabkjaa
open Go.RowKit
theorem Tk.nonempty {t : ByteArray} (h : 0 < t.size) : t.toList.isEmpty = false := by
  cases e : t.toList.isEmpty
  · rfl
  · have e2 : t.toList = Tk.empty.toList := by rw [List.isEmpty_iff.1 e]; decide +kernel
    have e3 := Tk.text_eq' e2
    rw [e3] at h
    exact absurd h (by decide)
set_option maxRecDepth 100000 in
set_option maxHeartbeats 8000000 in
theorem tokenBack_walk (s : ByteArray) (hs : s.size ≤ maxLen) (w : World) :
    Calls Try.prog 6 #[.string s] w fun e w' => e = .returned (.bool true) ∧ Below w.heap.size w w' := by
  unfold maxLen at hs
  by_cases h6 : 6000 < s.size
  case' pos =>
    have h6i : (6000 : Int) < (s.size : Int) := by omega
    have hz : (s.extract 0 6000).size ≤ 6000 := by simp; omega
    go_enter Try.func6, Try.ntmps6
    go_wp2_with fail
    generalize s.extract 0 6000 = x at hz ⊢
    clear hs h6 h6i
  case' neg =>
    have h6i : ¬ (6000 : Int) < (s.size : Int) := by omega
    have hz : s.size ≤ 6000 := by omega
    go_enter Try.func6, Try.ntmps6
    go_wp2_with fail
    obtain ⟨x, rfl⟩ : ∃ x, x = s := ⟨_, rfl⟩
    clear hs h6 h6i
  all_goals
    refine (all_any x (by unfold maxLen; omega) _).mono ?_
    rintro e w1 ⟨v1, rfl, hb1, hr1⟩
    have hfa := Tk.all_facts x
    have hap : (Tk.all x).2.2 = 0 → Tk.Apart x 0 (Tk.all x).1 := Tk.all_apart
    generalize Tk.all x = R at hr1 hfa hap ⊢
    obtain ⟨tl, ta, te⟩ := R
    simp only at hr1 hfa hap ⊢
    obtain ⟨A1, c1, rfl, hr1, hm1⟩ := Tk.row_reads hr1
    obtain ⟨_, hf1, _, _⟩ := hfa
    have HR1 := Lib.hid hr1
    by_cases hte : te = 0
    case' neg =>
      have hnil := hf1 hte
      subst hnil
      have tb : ((te : Int) != 0) = true := by rw [bne_iff_ne]; omega
      clear hap hf1 hr1 hm1 hte
      go_wp2_with fail
      refine (wakes_any _).mono ?_
      rintro e w2 ⟨rfl, hb2⟩
      go_wp2_with fail
      go_ret
      exact ⟨rfl, bl_join hb1 hb2⟩
    subst hte
    simp only [Int.cast_ofNat_Int]
    have HAP := Lib.hid (hap rfl)
    have htot := Tk.Apart.total (Nat.zero_le _) HAP.out
    have HCK := Lib.hid HAP.out.chk
    have HOW := Lib.hid HAP.out.owns
    clear hap hf1 hr1
    go_wp2_with fail
    go_loopw [6, 7] (fun en i wr => ∃ k E : Nat, k ≤ tl.length ∧ E ≤ x.size ∧ i = .int .i64 k ∧ en = .int .i64 E ∧ Hid (Tk.Apart x E (tl.drop k)) ∧ Below w1.heap.size w1 wr) (fun _ i _ => tl.length - (intOf i).toNat)
    case atStart => exact ⟨0, 0, by omega, by omega, rfl, rfl, HAP, Below.refl _ _⟩
    case round =>
      obtain ⟨k, E, hk, hE, rfl, rfl, HA, hb2⟩ := hrel
      have hbz := hb2.size
      by_cases hlt : k < tl.length
      · obtain ⟨ag, ao, rfl, hca⟩ := (HR1.out.below hb2) (by omega)
        obtain ⟨a0, a1, a2, a3⟩ := hca k hlt
        have hki : (k : Int) < (tl.length : Int) := by omega
        obtain ⟨⟨f1, f2, f3, f4, _⟩, fA⟩ := Tk.Apart.drop hlt HA.out
        have HA2 := Lib.hid fA
        have F4 := Lib.hid f4
        clear hca fA f4
        generalize tl[k] = t at *
        obtain ⟨t0, t1, t2, t3⟩ := t
        simp only at a0 a1 a2 a3 f1 f2 f3 F4 HA2

        have i1 : decide (t3 < E) = false := decide_eq_false (by omega)
        have i2 : decide ((x.size : Int) - (t1.size : Int) < (t3 : Int)) = false := decide_eq_false (by omega)
        have i3 : (t3 : Int) + (t1.size : Int) ≤ (x.size : Int) := by omega
        have i4 : (0 : Int) ≤ (t3 : Int) := by omega
        have i5 : (t3 : Int) ≤ (t3 : Int) + (t1.size : Int) := by omega
        have i6 : ((t3 : Int) + (t1.size : Int)).toNat = t3 + t1.size := by omega
        have HI6 := Lib.hid i6
        have i7 := Tk.nonempty f2
        have i8 : (!(x.extract t3 (t3 + t1.size)).toList == t1.toList) = false := by rw [F4.out]; simp
        clear i6
        go_wp2_with fail
        go_quiet (fail)
        go_wp2_with fail
        go_roundw
        case rel => exact ⟨k + 1, t3 + t1.size, by omega, by omega, by go_num, by go_num, HA2, below_drewN (hb2.alloc hbz _) _⟩
        case measure => simp [intOf]; omega
      · obtain rfl : k = tl.length := by omega
        have hbw : Below w.heap.size w wr := bl_join hb1 hb2
        have htl : (tl.map Tk.Tok.int).length = tl.length := by simp
        have htz : ∀ t ∈ tl.map Tk.Tok.int, t.text.size ≤ 65536 := fun t ht => by
          obtain ⟨u, hu, rfl⟩ := List.mem_map.1 ht
          have h1 := Tk.mem_total hu
          have e : u.int.text = u.text := rfl
          rw [e]
          omega
        have HTZ := Lib.hid htz
        have HTL := Lib.hid htl
        have hsp : Tk.spell (tl.map Tk.Tok.int) = (⟨(Tk.joined (tl.map Tk.Tok.int)).toArray⟩, 0) := by
          unfold Tk.spell
          rw [if_pos HCK.out, if_neg (by omega)]
        have HSP := Lib.hid hsp
        have HJL := Tk.joined_len (tl.map Tk.Tok.int)
        have hcz : (⟨(Tk.joined (tl.map Tk.Tok.int)).toArray⟩ : ByteArray).size ≤ 65536 := by show (Tk.joined (tl.map Tk.Tok.int)).toArray.size ≤ _; rw [List.size_toArray]; omega
        have hall := Tk.all_joined (c := ⟨(Tk.joined (tl.map Tk.Tok.int)).toArray⟩) HOW.out (by simp) hcz
        have HALL := Lib.hid hall
        have HRI := Lib.hid (Tk.ReadT.int (HR1.out.below hb2))
        have HRT := Lib.hid (HR1.out.below hb2)
        clear htl htz hsp hall
        generalize (⟨(Tk.joined (tl.map Tk.Tok.int)).toArray⟩ : ByteArray) = c at *
        go_wp2_with fail
        refine (spell_any A1 tl.length c1 (tl.map Tk.Tok.int) HTL.out (by omega) HTZ.out _ HRI.out).mono ?_
        rintro e w2 ⟨rfl, hb3⟩
        rw [HSP.out]
        go_wp2_with fail
        refine (all_any c (by unfold maxLen; omega) _).mono ?_
        rintro e w3 ⟨v3, rfl, hb4, hr3⟩
        rw [HALL.out] at hr3 ⊢
        simp only at hr3 ⊢
        rw [Tk.placed_len] at hr3
        have hr4 : w3.ownsRow w2.heap.size 30 4 v3 tl.length (Tk.flat (Tk.mixed 0 tl)) := by rw [Tk.mixed_zero]; exact hr3
        obtain ⟨A3, c3, hv3, _, _, hnc, _, _⟩ := Lie.of_own hr4
        subst hv3
        have HM0 := Lib.hid hr4
        have HV := Lib.hid (fun hn => hr4.form hn)
        have HRT2 := Lib.hid (HRT.out.below hb3)
        obtain ⟨wo, rfl⟩ : ∃ wo : World, wo = wr := ⟨_, rfl⟩
        clear hr3 hr4
        go_wp2_with fail
        go_loopw [13] (fun i wr => ∃ k : Nat, k ≤ tl.length ∧ i = .int .i64 k ∧ Hid (wr.ownsRow w2.heap.size 30 4 (.slice A3 tl.length c3) tl.length (Tk.flat (Tk.mixed k tl))) ∧ Below w2.heap.size w2 wr) (fun i _ => tl.length - (intOf i).toNat)
        case atStart => exact ⟨0, by omega, rfl, HM0, hb4⟩
        case round =>
          obtain ⟨k, hk, rfl, HM, hb5⟩ := hrel
          by_cases hlt : k < tl.length
          · obtain ⟨g2, c2', hv, _⟩ := HV.out (by omega)
            injection hv with hv1 hv2 hv3
            subst hv1 hv3
            obtain ⟨hs1, hs2, hs3, hs4⟩ := row_set HM.out (k * 4 + 3) (by omega) (.int .i64 ((tl[k].at_ : Nat) : Int))
            obtain ⟨q0, hq0⟩ := Tk.mixed_get hlt
            have hcell := HM.out.cells (g := g2) rfl (k * 4 + 3) _ hq0
            have hadd : (⟨g2, 0, none⟩ : Addr).add (k * 4 + 3) = ⟨g2, k * 4 + 3, none⟩ := by unfold Addr.add; split <;> simp_all
            rw [hadd] at hcell
            obtain ⟨ag, ao, rfl, hca⟩ := (HRT2.out.below hb5) (by omega)
            obtain ⟨a0, a1, a2, a3⟩ := hca k hlt
            have HS1 := Lib.hid hs1
            have hki : (k : Int) < (tl.length : Int) := by omega
            have HPS := Lib.hid (Tk.mixed_step hlt)
            have HB5 := Lib.hid (hb5.setCell (p := ⟨g2, k * 4 + 3, none⟩) hs4 (.int .i64 ((tl[k].at_ : Nat) : Int)))
            clear hs1 hs3 hadd hq0 hca a0 a1 a2
            generalize tl[k].at_ = q at *
            go_wp2_with fail
            go_roundw
            case rel => exact ⟨k + 1, by omega, by go_num, Lib.hid (by rw [HPS.out]; exact HS1.out), HB5.out⟩
            case measure => simp [intOf]; omega
          · obtain rfl : k = tl.length := by omega
            have hMM := HM.out
            rw [Tk.mixed_all] at hMM
            obtain ⟨A3', c3', e3, hr3, _⟩ := Tk.row_reads hMM
            injection e3 with e3 e4 e5
            subst e3 e5
            have HR3 := Lib.hid hr3
            have HRL := Lib.hid (HRT2.out.below hb5)
            clear hMM hr3 e4
            go_wp2_with fail
            refine (tsame_true A1 A3 tl.length c1 c3 tl rfl hm1 _ HRL.out HR3.out).mono ?_
            rintro e w7 ⟨rfl, q, rfl⟩
            go_wp2_with fail
            refine (wakes_any _).mono ?_
            rintro e w8 ⟨rfl, hb8⟩
            go_wp2_with fail
            go_ret
            exact ⟨rfl, bl_join (below_drewN (bl_join (bl_join hbw hb3) hb5) q) hb8⟩
end Go.Proofs.Ytncjlaacpabkjaa
