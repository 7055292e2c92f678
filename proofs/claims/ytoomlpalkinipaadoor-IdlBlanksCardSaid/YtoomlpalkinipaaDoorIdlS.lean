/- The document's side: name, Sorts. -/
import Derived.Test.YtoomlpalkinipaaDoorIdlQ
set_option linter.unusedVariables false
set_option linter.unusedSimpArgs false
namespace Go.Proofs.YtoomlpalkinipaaDoor
open Go.RowKit
set_option maxRecDepth 100000 in
set_option maxHeartbeats 4000000 in
theorem rname12_any (A : Option Addr) (l : List Tk.Tok) (c : Nat) (hl : l.length ≤ 1000000) (i : Int) (s : Id.St) (ha : Id.At l i s) (w : World) (hr : Tk.ReadT w A l) :
    Calls Tryd.prog 42 #[.slice A l.length c, .int .i64 i] w fun e w' => ∃ i', e = .returned (.tuple #[.string (Id.name s).1, .int .i64 i']) ∧ Id.At l i' (Id.name s).2 ∧ w' = w := by
  have HA := Lib.hid ha
  rcases ha.cases with ⟨hb, hi, hi2⟩ | ⟨rfl, rfl⟩ | ⟨k, hk, rfl, rfl⟩
  · have HE : Hid (Id.name s = (⟨#[]⟩, s)) := Lib.hid (by obtain ⟨r, b⟩ := s; simp only at hb; subst hb; cases r <;> rfl)
    have hi3 : decide (i < 0) = true := by simpa using hi
    clear hb hr ha hl
    generalize l.length = n at *
    go_enter Tryd.func42, Tryd.ntmps42
    go_wp2_with fail
    go_ret2
    exact ⟨_, (by first | (rw [HE.out]; done) | (rw [HE.out]; rfl)), by rw [HE.out]; exact HA.out, rfl⟩
  · obtain ⟨n, hn⟩ : ∃ n, n = l.length := ⟨_, rfl⟩
    have HF := Lib.hid HA.out.fault
    rw [← hn] at HF ⊢
    have HN := Lib.hid hn
    have h1 : n ≤ 1000000 := by omega
    clear hr ha hn hl
    go_enter Tryd.func42, Tryd.ntmps42
    go_wp2_with fail
    go_ret2
    exact ⟨_, rfl, HF.out, rfl⟩
  · obtain ⟨g, off, rfl, hcs⟩ := hr (by omega)
    obtain ⟨t0, t1, t2, t3⟩ := hcs k hk
    obtain ⟨t, ht⟩ : ∃ t, t = l[k] := ⟨_, rfl⟩
    rw [← ht] at t0 t1 t2 t3 HA ⊢
    obtain ⟨n, hn⟩ : ∃ n, n = l.length := ⟨_, rfl⟩
    rw [← hn] at hk ⊢
    have i1 : (0 : Int) ≤ (k : Int) := by omega
    have i2 : (k : Int) < (n : Int) := by omega
    have i3 : ¬ (k : Int) < 0 := by omega
    have i4 : k ≤ 1000000 := by omega
    clear hcs hr ha hn ht hl
    obtain ⟨tk, tt, tn, ta⟩ := t
    simp only at t0 t1 t2 t3
    have HX : Hid (Id.name (⟨tk, tt, tn, ta⟩ :: l.drop (k + 1), false) = if tk = 1 ∧ Tk.isName tt = true then (tt, (l.drop (k + 1), false)) else (⟨#[]⟩, (⟨tk, tt, tn, ta⟩ :: l.drop (k + 1), true))) := Lib.hid (by
      unfold Id.name Id.one
      simp only
      split <;> rfl)
    by_cases hk1 : tk = 1
    case neg =>
      have HE : Hid (Id.name (⟨tk, tt, tn, ta⟩ :: l.drop (k + 1), false) = (⟨#[]⟩, (⟨tk, tt, tn, ta⟩ :: l.drop (k + 1), true))) := Lib.hid (by rw [HX.out, if_neg (fun h => hk1 h.1)])
      have tk2 : ((tk : Int) != 1) = true := by rw [bne_iff_ne]; omega
      clear hk1
      go_enter Tryd.func42, Tryd.ntmps42
      go_wp2_with fail
      go_ret2
      exact ⟨_, (by first | (rw [HE.out]; done) | (rw [HE.out]; rfl)), by rw [HE.out]; exact HA.out.fault, rfl⟩
    subst hk1
    obtain ⟨q, hq⟩ : ∃ q, Tk.isName tt = q := ⟨_, rfl⟩
    have HQ := Lib.hid hq
    clear hq
    go_enter Tryd.func42, Tryd.ntmps42
    go_wp2_with fail
    refine (rname_any tt _).mono ?_
    rintro e w' ⟨rfl, hw⟩
    obtain rfl := hw.symm
    rw [HQ.out]
    cases q
    · have HE : Hid (Id.name (⟨1, tt, tn, ta⟩ :: l.drop (k + 1), false) = (⟨#[]⟩, (⟨1, tt, tn, ta⟩ :: l.drop (k + 1), true))) := Lib.hid (by rw [HX.out, HQ.out]; simp)
      go_wp2_with fail
      go_ret2
      exact ⟨_, (by first | (rw [HE.out]; done) | (rw [HE.out]; rfl)), by rw [HE.out]; exact HA.out.fault, rfl⟩
    · have HE : Hid (Id.name (⟨1, tt, tn, ta⟩ :: l.drop (k + 1), false) = (tt, (l.drop (k + 1), false))) := Lib.hid (by rw [HX.out, HQ.out]; simp)
      go_wp2_with fail
      go_ret2
      exact ⟨_, (by first | (rw [HE.out]; done) | (rw [HE.out]; rfl)), by rw [HE.out]; exact HA.out.next, rfl⟩
end Go.Proofs.YtoomlpalkinipaaDoor
