/- Same tokens; a few tokens. -/
import Derived.Test.YtncjlaacpabkjaaTokRow
set_option linter.unusedVariables false
namespace Go.Proofs.Ytncjlaacpabkjaa
open Go.RowKit
set_option maxHeartbeats 1000000 in
theorem tsame_true (A B : Option Addr) (n c d : Nat) (ls : List Tk.Tok) (hn : ls.length = n) (hm : n ≤ 9223372036854775807) (w : World) (ha : Tk.ReadT w A ls) (hb : Tk.ReadT w B ls) :
    Calls Try.prog 9 #[.slice A n c, .slice B n d] w fun e w' => e = .returned (.bool true) ∧ ∃ q, w' = w.drewN q := by
  have Hn := Lib.hid hn
  have Ha := Lib.hid ha
  have Hb := Lib.hid hb
  clear hn ha hb
  go_enter Try.func9, Try.ntmps9
  go_wp2
  go_loopw [5] (fun i wr => ∃ k q : Nat, k ≤ n ∧ i = .int .i64 k ∧ Hid (wr = w.drewN q)) (fun i _ => n - (intOf i).toNat)
  case atStart => exact ⟨0, 0, by omega, rfl, rfl⟩
  case round =>
    obtain ⟨k, q, hk, rfl, HW⟩ := hrel
    obtain rfl := HW.out
    by_cases hlt : k < n
    · have hkl : k < ls.length := by rw [Hn.out]; exact hlt
      obtain ⟨ag, ao, rfl, hca⟩ := Ha.out (by omega)
      obtain ⟨bg, bo, rfl, hcb⟩ := Hb.out (by omega)
      obtain ⟨a0, a1, a2, a3⟩ := hca k hkl
      obtain ⟨b0, b1, b2, b3⟩ := hcb k hkl
      have hi1 : (k : Int) < (n : Int) := by omega
      have hi0 : (0 : Int) ≤ (k : Int) := by omega
      clear hca hcb HW
      generalize ls[k].kind = x0 at *
      generalize ls[k].text = x1 at *
      generalize ls[k].num = x2 at *
      generalize ls[k].at_ = x3 at *
      go_wp2
      go_quiet (fail)
      go_wp2
      go_roundw
      case rel => exact ⟨k + 1, _, by omega, by go_num, rfl⟩
      case measure => simp [intOf]; omega
    · go_wp2
      go_ret
      exact ⟨rfl, q, rfl⟩
end Go.Proofs.Ytncjlaacpabkjaa
