/- redressref11.All. It answers Tk.all. -/
import Derived.Test.YtoomlpalkinipaaDoorTokAppend
import Derived.Test.YtoomlpalkinipaaDoorTokWalkE
set_option linter.unusedVariables false
namespace Go.Proofs.YtoomlpalkinipaaDoor
open Go.RowKit
set_option maxRecDepth 100000 in
set_option maxHeartbeats 4000000 in
set_option maxRecDepth 100000 in
set_option maxHeartbeats 4000000 in
theorem rall_any (s : ByteArray) (hs : s.size ≤ maxLen) (w : World) :
    Calls Tryd.prog 19 #[.string s] w fun e w' => ∃ v, e = .returned (.tuple #[v, .int .i64 (Tk.all s).2.1, .int .i64 (Tk.all s).2.2]) ∧ Below w.heap.size w w' ∧ w'.ownsRow w.heap.size 37 4 v (Tk.all s).1.length (Tk.flat (Tk.all s).1) := by
  have hs2 := hs
  unfold maxLen at hs
  go_enter Tryd.func19, Tryd.ntmps19
  by_cases hbig : 65536 < s.size
  · have HO : Hid (Tk.all s = ([], 0, 3)) := Lib.hid (by unfold Tk.all; rw [if_pos hbig])
    go_wp2_with fail
    go_ret3
    exact ⟨_, by rw [HO.out]; rfl, Below.refl _ _, by rw [HO.out]; exact ⟨rfl, .inl ⟨rfl, rfl⟩⟩⟩
  · have HO : Hid (Tk.all s = Tk.scan 3 s (s.size + 1) (Tk.gapEnd false s 0) []) := Lib.hid (by unfold Tk.all; rw [if_neg hbig])
    go_wp2_with fail
    refine (rgap_any s hs2 0 (by omega) _).mono ?_
    rintro e w1 ⟨rfl, rfl⟩
    go_wp2_with fail
    go_loopw [5, 6] (fun l i wr => ∃ (f k : Nat) (acc : List Tk.Tok) (lv : Value), k ≤ s.size ∧ s.size < f + k ∧ acc.length ≤ k ∧ lv = l ∧ i = .int .i64 k ∧ Hid (Tk.all s = Tk.scan 3 s f k acc) ∧ Hid (wr.ownsRow w.heap.size 37 4 lv acc.length (Tk.flat acc)) ∧ Below w.heap.size w wr) (fun _ i _ => s.size - (intOf i).toNat)
    case atStart => exact ⟨s.size + 1, Tk.gapEnd false s 0, [], .slice none 0 0, Tk.gapEnd_le _ (by omega), by omega, by simp, rfl, rfl, HO, Lib.hid ⟨rfl, .inl ⟨rfl, rfl⟩⟩, Below.refl _ _⟩
    case round =>
      obtain ⟨f, k, acc, lv, hk, hf, ha, rfl, rfl, HA, HR, hb⟩ := hrel
      by_cases hlt : k < s.size
      · obtain ⟨f, rfl⟩ : ∃ f', f = f' + 1 := ⟨f - 1, by omega⟩
        have hHA := HA.out
        unfold Tk.scan at hHA
        rw [if_pos hlt] at hHA
        generalize hone : Tk.oneAt 3 s k = o at hHA
        obtain ⟨⟨tk, tt, tn, ta⟩, er⟩ := o
        have HONE := Lib.hid hone
        by_cases her : er = 0
        · subst her
          have hok := Tk.oneAt_ok (d := 3) hlt (by rw [hone])
          rw [hone] at hok
          obtain ⟨hok1, hok2⟩ := hok
          simp only at hok1 hok2
          rw [if_neg (by simp)] at hHA
          have HE := Lib.hid hHA
          clear hHA hone
          go_wp2_with fail
          refine (rone_any s (by omega) k hlt _).mono ?_
          rintro e w1 ⟨rfl, hb1⟩
          rw [HONE.out]
          simp only [Tk.Tok.val]
          have hz1 := hb1.size
          have hz0 := hb.size
          have HRD : Hid (((w1.alloc (.cells #[.int .u8 tk, .string tt, .int .i64 tn, .int .i64 ta] 37)).ownsRow w.heap.size 37 4 lv acc.length (Tk.flat acc)) ∧ (some w1.heap.size ≠ lv.ownBlock)) := by
            refine Lib.hid ⟨(Tk.row_below HR.out hb1).alloc _, fun e => ?_⟩
            have := HR.out.lt _ e.symm
            omega
          go_wp2_with (at_builtin; go_must (refine wpList_append_four rfl _ _ _ rfl w.heap.size 37 _ _ Tryd.underlying33 info_tok rfl _ acc.length _ rfl HRD.out.1 _ _ _ _ _ rfl (by simp) (by simp [Value.oneCell']) (by simp only [maxLen]; omega) (by omega) (by simp; omega) ?_); intro v' w2 hown2 hb2 hg2; have HOW := Lib.hid hown2; have hcell := hg2.cell (a := ⟨w1.heap.size, 1, none⟩) (v := .string tt) (by go_simp) HRD.out.2; clear hown2 hg2)
          rw [show (k : Int) + (tt.size : Int) = ((k + tt.size : Nat) : Int) from by simp]
          refine (rgap_any s hs2 (k + tt.size) hok2 _).mono ?_
          rintro e w3 ⟨rfl, rfl⟩
          have hge := Tk.gapEnd_ge false s (k + tt.size)
          have hle := Tk.gapEnd_le (s := s) (k := k + tt.size) false hok2
          clear hcell
          go_wp2_with fail
          go_roundw
          case rel => exact ⟨f, _, acc ++ [⟨tk, tt, tn, ta⟩], v', hle, by omega, by rw [List.length_append]; simp; omega, rfl, rfl, HE, Lib.hid (by rw [List.length_append, Tk.flat_snoc]; exact HOW.out), (hb.trans (hb1.mono hz0)).trans (((Below.refl _ _).alloc (by omega) _).trans hb2)⟩
          case measure => simp [intOf]; omega
        · rw [if_pos her] at hHA
          have HE := Lib.hid hHA
          have ter : ((er : Int) == 0) = false := by simp; omega
          clear hHA hone her
          go_wp2_with fail
          refine (rone_any s (by omega) k hlt _).mono ?_
          rintro e w1 ⟨rfl, hb1⟩
          rw [HONE.out]
          simp only [Tk.Tok.val]
          go_wp2_with fail
          go_ret3
          exact ⟨_, by rw [HE.out]; rfl, (hb.trans (hb1.mono hb.size)).alloc (by have := hb.size; have := hb1.size; omega) _, by rw [HE.out]; exact ⟨rfl, .inl ⟨rfl, rfl⟩⟩⟩
      · obtain rfl : k = s.size := by omega
        have HE : Hid (Tk.all s = (acc, 0, 0)) := Lib.hid (by
          rw [HA.out]
          cases f with
          | zero => rfl
          | succ f => unfold Tk.scan; rw [if_neg hlt])
        clear hlt
        go_wp2_with fail
        go_ret3
        exact ⟨_, by rw [HE.out]; rfl, hb, by rw [HE.out]; exact HR.out⟩
end Go.Proofs.YtoomlpalkinipaaDoor
