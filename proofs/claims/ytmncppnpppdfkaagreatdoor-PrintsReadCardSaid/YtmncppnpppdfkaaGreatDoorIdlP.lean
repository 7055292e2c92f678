/- The parser: Type. -/
import Derived.Test.YtmncppnpppdfkaaGreatDoorKI1
set_option linter.unusedVariables false
set_option linter.unusedSimpArgs false
namespace Go.Proofs.YtmncppnpppdfkaaGreatDoor
open Go.RowKit
theorem Id.SortsR.weak {B B' : Option Nat} {w : World} {v : Value} {l : List Id.Srt} (h : Id.wkB B B') (hs : Id.SortsR w B v l) : Id.SortsR w B' v l := ERow.mono hs (fun _ _ hr => hr.weak h) (fun _ _ h => h)
set_option maxRecDepth 100000 in
set_option maxHeartbeats 8000000 in
theorem pwhole_sorts (s : ByteArray) (hs : s.size ≤ 9223372036854775807) (w : World) (hk : Tk.KW w) :
    Calls Tryz.prog 54 #[.string s, .func (.func 55) #[] #[]] w fun e w' => ∃ v, e = .returned (.tuple #[v, .int .i64 (Id.type s).2.1, .int .i64 (Id.type s).2.2]) ∧ Below w.heap.size w w' ∧ Id.SortsR w' (some w.heap.size) v (Id.type s).1 := by
  obtain ⟨R, HR⟩ : ∃ R, Hid (Id.type s = R) := ⟨_, Lib.hid rfl⟩
  rw [HR.out]
  obtain ⟨⟨pl, pat, pe⟩, HT⟩ : ∃ T, Hid (Tk.all s = T) := ⟨_, Lib.hid rfl⟩
  have hpl := Tk.all_len s
  rw [HT.out] at hpl
  simp only at hpl
  go_enter Tryz.func54, Tryz.ntmps54
  go_wp2_with fail
  refine (all_any s (by unfold maxLen; omega) _).mono ?_
  rintro e w2 ⟨v2, rfl, hb2, hown⟩
  rw [HT.out] at hown ⊢
  simp only at hown ⊢
  have hk2 := hk.below hb2
  have hsz2 := hb2.size
  by_cases hpe : pe = 0
  case neg =>
    have HE : Hid (R = ([], pat, pe)) := Lib.hid (by rw [← HR.out]; unfold Id.type Id.whole; rw [HT.out]; simp [hpe])
    have tpe : ((pe : Int) != 0) = true := by rw [bne_iff_ne]; omega
    have tpe2 : decide (pe = 0) = false := by simpa using hpe
    clear hpe
    go_wp2_with fail
    go_ret3
    exact ⟨_, (by first | (rw [HE.out]; done) | (rw [HE.out]; rfl)), hb2, by rw [HE.out]; exact ERow.nil _ _ _ _ _⟩
  subst hpe
  have hPS := Id.Ps.of_own hown
  have hbl3 := (Below.refl w2.heap.size w2).alloc (Nat.le_refl _) (.cells #[v2, .bool false] 152)
  have hk3 := hk2.below hbl3
  have hb0 : 0 < w2.heap.size := hk2.1
  have hsz3 : w2.heap.size < (w2.alloc (.cells #[v2, .bool false] 152)).heap.size := by simp
  obtain ⟨A2, c2, rfl, _⟩ := Tk.row_reads hown
  obtain ⟨⟨x, s3⟩, H3⟩ : ∃ T, Hid (Id.sorts (pl, false) = T) := ⟨_, Lib.hid rfl⟩
  have HR2 : Hid (R = match s3.1 with
    | [] => if s3.2 then ([], s.size, 120) else (x, 0, 0)
    | t :: _ => ([], t.at_, 120)) := Lib.hid (by rw [← HR.out]; unfold Id.type Id.whole; rw [HT.out]; simp only [H3.out]; rfl)
  have HPS := Lib.hid hPS
  have HB3 := Lib.hid (hb2.trans (hbl3.mono hsz2))
  clear hPS hbl3 hk2 hb2 hown hk
  go_wp2_with fail
  refine (psorts_any w2.heap.size hb0 (pl, false) (by simp only; omega) _ hk3 HPS.out).mono ?_
  rintro e w4 ⟨v1, rfl, hg4, hp4, r1⟩
  rw [H3.out] at hp4 r1
  simp only at hp4 r1 ⊢
  obtain ⟨A5, n5, c5, rfl⟩ := ERow.is r1
  have HB4 := Lib.hid (below_gb HB3.out hg4 hsz2 (by omega))
  have HSV : Hid (Id.SortsR w4 (some w.heap.size) (.slice A5 n5 c5) x) := Lib.hid (Id.SortsR.weak (Id.wk_le (by omega)) r1)
  obtain ⟨A, c, hpk, hpr, hpc, hpc2, hpn⟩ := hp4.lies
  clear r1 hp4 hk3 HPS HB3 hg4 hsz2 hsz3 hpn
  obtain ⟨l3, bad⟩ := s3
  simp only at hpk hpr hpc HR2
  cases l3 with
  | nil =>
    simp only [List.length_nil] at hpk
    obtain ⟨⟨p0, p1⟩, _⟩ := hpk.k2
    clear hpk hpr hpc
    cases bad
    · have HE : Hid (R = (x, 0, 0)) := Lib.hid (by rw [HR2.out]; rfl)
      go_wp2_with fail
      go_ret3
      exact ⟨_, (by first | (rw [HE.out]; done) | (rw [HE.out]; rfl)), HB4.out, by rw [HE.out]; exact HSV.out⟩
    · have HE : Hid (R = ([], s.size, 120)) := Lib.hid (by rw [HR2.out]; rfl)
      go_wp2_with fail
      go_ret3
      exact ⟨_, (by first | (rw [HE.out]; done) | (rw [HE.out]; rfl)), HB4.out, by rw [HE.out]; exact ERow.nil _ _ _ _ _⟩
  | cons t r =>
    have HE : Hid (R = ([], t.at_, 120)) := Lib.hid HR2.out
    obtain ⟨g, off, rfl, hcs⟩ := hpr (by simp)
    obtain ⟨t0, t1, t2, t3⟩ := hcs 0 (by simp)
    simp only [Nat.zero_mul, Nat.add_zero, List.getElem_cons_zero] at t0 t1 t2 t3
    simp only [List.length_cons] at hpk hpc
    obtain ⟨m, hm⟩ : ∃ m, m = r.length := ⟨_, rfl⟩
    rw [← hm] at hpk hpc
    have hm1 : ¬ (m : Int) + 1 = 0 := by omega
    have hm2 : (0 : Int) < (m : Int) + 1 := by omega
    have hm3 : ((m : Int) + 1 == 0) = false := by rw [beq_eq_false_iff_ne]; omega
    have hm4 : 0 < m + 1 := by omega
    obtain ⟨⟨p0, p1⟩, _⟩ := hpk.k2
    clear hcs hm hpk
    cases bad
    all_goals
      go_wp2_with fail
      go_region
      go_wp2_with fail
      go_ret3
      exact ⟨_, (by first | (rw [HE.out]; done) | (rw [HE.out]; rfl)), HB4.out.drew, by rw [HE.out]; exact ERow.nil _ _ _ _ _⟩
set_option maxRecDepth 100000 in
set_option maxHeartbeats 8000000 in
theorem ptype_any (s : ByteArray) (hs : s.size ≤ 9223372036854775807) (w : World) (hk : Tk.KW w) :
    Calls Tryz.prog 20 #[.string s] w fun e w' => ∃ v, e = .returned (.tuple #[v, .int .i64 (Id.type s).2.1, .int .i64 (Id.type s).2.2]) ∧ Below w.heap.size w w' ∧ Id.SortsR w' (some w.heap.size) v (Id.type s).1 := by
  obtain ⟨R, HR⟩ : ∃ R, Hid (Id.type s = R) := ⟨_, Lib.hid rfl⟩
  rw [HR.out]
  go_enter Tryz.func20, Tryz.ntmps20
  go_wp2_with fail
  refine (pwhole_sorts s hs _ hk).mono ?_
  rintro e w2 ⟨v, rfl, hb2, hsv⟩
  rw [HR.out] at hsv ⊢
  go_wp2_with fail
  go_ret3
  exact ⟨_, rfl, hb2, hsv⟩
end Go.Proofs.YtmncppnpppdfkaaGreatDoor
