/- token.All. -/
import Derived.Test.YtoomlpalkinipaaDoorTokNext
set_option linter.unusedVariables false
namespace Go.Proofs.YtoomlpalkinipaaDoor
open Go.RowKit
namespace Tk
theorem oneAt_kinds (s : ByteArray) (k : Nat) : (oneAt 0 s k).2 = (oneAt 3 s k).2 ∧ (oneAt 0 s k).1.at_ = k ∧ ((oneAt 0 s k).2 = 0 → oneAt 0 s k = oneAt 3 s k) := by
  unfold oneAt
  split
  · exact ⟨rfl, rfl, fun _ => rfl⟩
  · split
    · dsimp only
      split
      · exact ⟨rfl, rfl, fun _ => rfl⟩
      · split
        · exact ⟨rfl, rfl, fun _ => rfl⟩
        · exact ⟨rfl, rfl, fun _ => rfl⟩
    · split
      · exact ⟨rfl, rfl, fun _ => rfl⟩
      · split
        · exact ⟨rfl, rfl, fun _ => rfl⟩
        · exact ⟨rfl, rfl, fun e => by cases e⟩
theorem scan3_err {s : ByteArray} {k f : Nat} {acc : List Tok} (h : k < s.size) (he : (oneAt 0 s k).2 ≠ 0) : scan 3 s (f + 1) k acc = ([], k, (oneAt 0 s k).2) := by
  have := (oneAt_kinds s k).1
  rw [scan, if_pos h, if_pos (by rw [← this]; exact he), this]
theorem scan3_ok {s : ByteArray} {k f : Nat} {acc : List Tok} (h : k < s.size) (he : (oneAt 0 s k).2 = 0) : scan 3 s (f + 1) k acc = scan 3 s f (gapEnd false s (k + (oneAt 0 s k).1.text.size)) (acc ++ [(oneAt 0 s k).1]) := by
  have := (oneAt_kinds s k).2.2 he
  rw [scan, if_pos h, if_neg (by rw [← this]; simpa using he), ← this]
theorem scan_end {s : ByteArray} {k f d : Nat} {acc : List Tok} (h : ¬ k < s.size) : scan d s f k acc = (acc, 0, 0) := by
  cases f with
  | zero => rfl
  | succ f => rw [scan, if_neg h]
theorem row_mono {w : World} {base base' : Nat} {e : TypeId} {size : Nat} {v : Value} {n : Nat} {xs : List Value} (h : w.ownsRow base e size v n xs) (hb : base' ≤ base) : w.ownsRow base' e size v n xs := by
  refine ⟨h.1, ?_⟩
  rcases h.2 with hn | ⟨g, cap, cur, rfl, hbs, rest⟩
  · exact .inl hn
  · exact .inr ⟨g, cap, cur, rfl, by omega, rest⟩
theorem row_apart {w : World} {b : Nat} {e : TypeId} {size : Nat} {v : Value} {n : Nat} {xs : List Value} (h : w.ownsRow (b + 1) e size v n xs) : some b ≠ v.ownBlock := by
  intro e
  have := h.lt _ e.symm
  omega
end Tk
set_option maxRecDepth 100000 in
set_option maxHeartbeats 4000000 in
theorem all_any (s : ByteArray) (hs : s.size ≤ maxLen) (w : World) :
    Calls Tryd.prog 12 #[.string s] w fun e w' => ∃ v, e = .returned (.tuple #[v, .int .i64 (Tk.all s).2.1, .int .i64 (Tk.all s).2.2]) ∧ Below w.heap.size w w' ∧ w'.ownsRow w.heap.size 37 4 v (Tk.all s).1.length (Tk.flat (Tk.all s).1) := by
  have hs2 := hs
  unfold maxLen at hs
  by_cases hbig : 65536 < s.size
  · have HO : Hid (Tk.all s = ([], 0, 3)) := Lib.hid (by unfold Tk.all; rw [if_pos hbig])
    go_enter Tryd.func12, Tryd.ntmps12
    go_wp2_with fail
    go_ret3
    exact ⟨_, by rw [HO.out]; rfl, Below.refl _ _, by rw [HO.out]; exact ⟨rfl, .inl ⟨rfl, rfl⟩⟩⟩
  · have HO : Hid (Tk.all s = Tk.scan 3 s (s.size + 1) (Tk.gapEnd false s 0) []) := Lib.hid (by unfold Tk.all; rw [if_neg hbig])
    go_enter Tryd.func12, Tryd.ntmps12
    go_wp2_with fail
    go_loopg [2] (s.size + 1) (fun n l wr => ∃ (k : Nat) (acc : List Tk.Tok) (lv : Value), k ≤ s.size ∧ s.size + 1 ≤ n + k ∧ acc.length ≤ k ∧ lv = l ∧ Tk.Rd wr w.heap.size s k ∧ Hid (Tk.all s = Tk.scan 3 s n (Tk.gapEnd false s k) acc) ∧ Hid (wr.ownsRow (w.heap.size + 1) 37 4 lv acc.length (Tk.flat acc)) ∧ Below w.heap.size w wr)
    case atStart => exact ⟨0, [], .slice none 0 0, by omega, by omega, by simp, rfl, heap_alloc_new w _, HO, Lib.hid ⟨rfl, .inl ⟨rfl, rfl⟩⟩, (Below.refl _ _).alloc (Nat.le_refl _) _⟩
    case round =>
      obtain ⟨k, acc, lv, hk, hnk, ha, rfl, hR, HA, HR, hb⟩ := hrel
      have hbz := hb.size
      have hlt := hR.lt
      have hgle := Tk.gapEnd_le (s := s) (k := k) false hk
      have hgge := Tk.gapEnd_ge false s k
      by_cases hend : Tk.gapEnd false s k < s.size
      · generalize hK : Tk.gapEnd false s k = K at hend hgle hgge HA
        have hone := Tk.oneAt_ok (d := 0) (s := s) (k := K) hend
        have hat := (Tk.oneAt_kinds s K).2.1
        obtain ⟨f, rfl⟩ : ∃ f, gk = f + 1 := ⟨gk - 1, by omega⟩
        by_cases her : (Tk.oneAt 0 s K).2 = 0
        · have hA := HA.out
          rw [Tk.scan3_ok hend her] at hA
          obtain ⟨hok1, hok2⟩ := hone her
          generalize hO : Tk.oneAt 0 s K = o at hA hok1 hok2 her
          obtain ⟨⟨tk, tt, tn, ta⟩, er⟩ := o
          simp only at hA hok1 hok2 her
          subst her
          have HNX := Lib.hid (next_any s (by omega) w.heap.size k K hk hK hend wr hR)
          rw [hO] at HNX
          have HE := Lib.hid hA
          clear hA hone hat hK hO
          go_wp2_with fail
          refine (HNX.out).mono ?_
          rintro e w1 ⟨rfl, hg1, k', hR1, hk'⟩
          obtain rfl : k' = K + tt.size := hk' trivial
          clear hk'
          simp only [Tk.Tok.val]
          have hz1 := hg1.size
          have hRow1 := HR.out.kept hg1 (by have := Tk.row_apart HR.out; exact .inr (fun e => this e.symm))
          have HRD : Hid (((w1.alloc (.cells #[.int .u8 tk, .string tt, .int .i64 tn, .int .i64 ta] 37)).ownsRow (w.heap.size + 1) 37 4 lv acc.length (Tk.flat acc)) ∧ (some w1.heap.size ≠ lv.ownBlock) ∧ some w.heap.size ≠ lv.ownBlock) := by
            refine Lib.hid ⟨hRow1.alloc _, fun e => ?_, Tk.row_apart HR.out⟩
            have := hRow1.lt _ e.symm
            omega
          clear hRow1
          have hR2 := hR1.alloc (.cells #[.int .u8 tk, .string tt, .int .i64 tn, .int .i64 ta] 37)
          go_wp2_with (at_builtin; go_must (refine wpList_append_four rfl _ _ _ rfl (w.heap.size + 1) 37 _ _ Tryd.underlying33 info_tok rfl lv acc.length _ rfl HRD.out.1 _ _ _ _ _ rfl (by simp) (by simp [Value.oneCell']) (by simp only [maxLen]; omega) (by omega) (by simp; omega) ?_); intro v' w2 hown2 hb2 hg2; have HOW := Lib.hid hown2; clear hown2)
          have hR3 := (hR2.alloc _).grown hg2 HRD.out.2.2
          clear hg2
          go_roundg f
          case rel =>
            refine ⟨K + tt.size, acc ++ [⟨tk, tt, tn, ta⟩], v', hok2, by omega, by rw [List.length_append]; simp; omega, rfl, hR3, HE, Lib.hid (by rw [List.length_append, Tk.flat_snoc]; exact HOW.out), ?_⟩
            exact (hb.trans (below_of_grown hg1 (Nat.le_refl _) (.inr hbz))).trans (((Below.refl _ _).alloc (by omega) _).trans (hb2.mono (by omega)))
          case measure => omega
        · have hA := HA.out
          rw [Tk.scan3_err hend her] at hA
          have HNX := Lib.hid (next_any s (by omega) w.heap.size k K hk hK hend wr hR)
          generalize hO : Tk.oneAt 0 s K = o at hA her HNX hat
          obtain ⟨⟨tk, tt, tn, ta⟩, er⟩ := o
          simp only at hA her hat
          subst hat
          have HE := Lib.hid hA
          have ter : ((er : Int) == 0) = false := by simp; omega
          have ter2 : decide (er = 0) = false := by simp; omega
          clear hA hone hK hO her
          go_wp2_with fail
          refine (HNX.out).mono ?_
          rintro e w1 ⟨rfl, hg1, k', hR1, hk'⟩
          clear hk'
          simp only [Tk.Tok.val]
          go_wp2_with fail
          go_quiet (fail)
          go_wp2_with fail
          go_ret3
          exact ⟨_, by rw [HE.out]; rfl, below_drewN ((hb.trans (below_of_grown hg1 (Nat.le_refl _) (.inr hbz))).alloc (by have := hg1.size; omega) _) _, by rw [HE.out]; exact ⟨rfl, .inl ⟨rfl, rfl⟩⟩⟩
      · obtain hK : Tk.gapEnd false s k = s.size := by omega
        have HE : Hid (Tk.all s = (acc, 0, 0)) := Lib.hid (by rw [HA.out, Tk.scan_end hend])
        have HNX := Lib.hid (next_end s (by omega) w.heap.size k hk hK wr hR)
        clear hend hK
        go_wp2_with fail
        refine (HNX.out).mono ?_
        rintro e w1 ⟨rfl, hg1, k', hR1, hk'⟩
        clear hk'
        simp only [Tk.Tok.val]
        go_wp2_with fail
        go_ret3
        have hRow1 := HR.out.kept hg1 (by have := Tk.row_apart HR.out; exact .inr (fun e => this e.symm))
        exact ⟨_, by rw [HE.out]; rfl, (hb.trans (below_of_grown hg1 (Nat.le_refl _) (.inr hbz))).alloc (by have := hg1.size; omega) _, by rw [HE.out]; exact Tk.row_mono (hRow1.alloc _) (by omega)⟩
end Go.Proofs.YtoomlpalkinipaaDoor
