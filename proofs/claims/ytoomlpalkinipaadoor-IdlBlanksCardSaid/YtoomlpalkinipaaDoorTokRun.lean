/- (*token.reader).run: the place goes to the run's end; its text. -/
import Derived.Test.YtoomlpalkinipaaDoorTokSkip
set_option linter.unusedVariables false
namespace Go.Proofs.YtoomlpalkinipaaDoor
open Go.RowKit
theorem run_callFunc_body {P : Program} {f : FuncId} {fn : Func} (hf : P.funcs[f]? = some fn) (hn : (fn.name == "runtime.NumGoroutine") = false) (hb : fn.body.isNone = false) (args : Array Value) (w : World) :
    (callFunc f args).run P w = .ok (.enter f args) w := by
  have h1 : ¬ fn.name = "runtime.NumGoroutine" := by simpa using hn
  have h2 : ¬ fn.body = none := by intro e; rw [e] at hb; cases hb
  simp [callFunc, hf, h1, h2]
set_option maxRecDepth 100000 in
set_option maxHeartbeats 4000000 in
theorem run_any (f : FuncId) (p : Nat → Bool) (hc : ∀ (args : Array Value) (w : World), (callFunc f args).run Tryd.prog w = .ok (.enter f args) w) (hf : Hid (∀ (x : Nat) (hx : x < 256) (w : World), Calls Tryd.prog f #[.int .u8 x] w fun e w' => e = .returned (.bool (p x)) ∧ w' = w))
    (s : ByteArray) (hs : s.size ≤ maxLen) (b k : Nat) (hk : k ≤ s.size) (w : World) (h : Tk.Rd w b s k) :
    Calls Tryd.prog 50 #[.pointer (some ⟨b, 0, none⟩), .func (.func f) #[] #[]] w fun e w' => e = .returned (.string (s.extract k (Tk.runEnd p s k))) ∧ w.grownBy w' (some b) ∧ Tk.Rd w' b s (Tk.runEnd p s k) := by
  unfold maxLen at hs
  have c0 := h.c0
  have c1 := h.c1
  go_enter Tryd.func50, Tryd.ntmps50
  go_wp2
  clear c0 c1
  go_loopg [32] (s.size - k + 1) (fun n c wr => ∃ j, n = s.size - j + 1 ∧ k ≤ j ∧ j ≤ s.size ∧ Tk.Rd wr b s j ∧ Hid (Tk.runEnd p s k = Tk.runEnd p s j) ∧ w.grownBy wr (some b))
  case atStart => exact ⟨k, rfl, Nat.le_refl _, hk, h, Lib.hid rfl, grown_refl _ _⟩
  case round =>
    obtain ⟨j, rfl, hkj, hj, hR, HG, hgr⟩ := hrel
    have c0 := hR.c0
    have c1 := hR.c1
    have f1 := hR.f1
    by_cases hlt : j < s.size
    · have hx : s[j].toNat < 256 := s[j].toNat_lt
      have hji : (j : Int) < (s.size : Int) := by omega
      have hjs : (j : Int) + 1 ≤ 9223372036854775807 := by omega
      cases hp : p s[j].toNat
      · have HS := Lib.hid (Tk.runEnd_stop (p := p) hlt hp)
        have HC := Lib.hid (calls_val (hf.out s[j].toNat hx) (v' := .bool false) (by rw [hp]))
        clear hp
        go_wp2
        go_quiet (go_must (first | exact calls_q HC.out | exact Calls.quiet_of_same (HC.out _)))
        go_wp2
        go_quiet (fail)
        go_wp2
        go_ret
        exact ⟨by rw [HG.out, HS.out]; rfl, (by repeat (first | exact hgr | refine grown_trans ?_ (grown_drewN _ _ _) | refine grown_trans ?_ (grown_set _ _ _ _))), by rw [HG.out, HS.out]; exact hR⟩
      · have HS := Lib.hid (Tk.runEnd_on (p := p) hlt hp)
        have HC := Lib.hid (calls_val (hf.out s[j].toNat hx) (v' := .bool true) (by rw [hp]))
        clear hp
        go_wp2
        go_quiet (go_must (first | exact calls_q HC.out | exact Calls.quiet_of_same (HC.out _)))
        go_wp2
        rw [show (j : Int) + 1 = ((j + 1 : Nat) : Int) from by simp]
        go_roundg (s.size - (j + 1) + 1)
        case rel => exact ⟨j + 1, rfl, by omega, by omega, Tk.Rd.set hR _, Lib.hid (by rw [HG.out, HS.out]), (by repeat (first | exact hgr | refine grown_trans ?_ (grown_drewN _ _ _) | refine grown_trans ?_ (grown_set _ _ _ _)))⟩
        case measure => omega
    · obtain rfl : j = s.size := by omega
      have hki : (k : Int) ≤ (s.size : Int) := by omega
      go_wp2
      go_quiet (fail)
      go_wp2
      go_quiet (fail)
      go_wp2
      go_ret
      exact ⟨by rw [HG.out, Tk.runEnd_end (Nat.le_refl _)]; rfl, (by repeat (first | exact hgr | refine grown_trans ?_ (grown_drewN _ _ _) | refine grown_trans ?_ (grown_set _ _ _ _))), by rw [HG.out, Tk.runEnd_end (Nat.le_refl _)]; exact hR⟩
theorem run_inner (s : ByteArray) (hs : s.size ≤ maxLen) (b k : Nat) (hk : k ≤ s.size) (w : World) (h : Tk.Rd w b s k) :
    Calls Tryd.prog 50 #[.pointer (some ⟨b, 0, none⟩), .func (.func 51) #[] #[]] w fun e w' => e = .returned (.string (s.extract k (Tk.runEnd Tk.isInner s k))) ∧ w.grownBy w' (some b) ∧ Tk.Rd w' b s (Tk.runEnd Tk.isInner s k) :=
  run_any _ _ (run_callFunc_body Tryd.func51 (by kernel_rfl) (by kernel_rfl)) (Lib.hid fun x hx w => (inner_any x hx w).mono fun _ _ h => ⟨h.1, h.2.symm⟩) s hs b k hk w h
theorem run_digit (s : ByteArray) (hs : s.size ≤ maxLen) (b k : Nat) (hk : k ≤ s.size) (w : World) (h : Tk.Rd w b s k) :
    Calls Tryd.prog 50 #[.pointer (some ⟨b, 0, none⟩), .func (.func 52) #[] #[]] w fun e w' => e = .returned (.string (s.extract k (Tk.runEnd Tk.isDigit s k))) ∧ w.grownBy w' (some b) ∧ Tk.Rd w' b s (Tk.runEnd Tk.isDigit s k) :=
  run_any _ _ (run_callFunc_body Tryd.func52 (by kernel_rfl) (by kernel_rfl)) (Lib.hid fun x hx w => (digit_any x hx w).mono fun _ _ h => ⟨h.1, h.2.symm⟩) s hs b k hk w h
end Go.Proofs.YtoomlpalkinipaaDoor
