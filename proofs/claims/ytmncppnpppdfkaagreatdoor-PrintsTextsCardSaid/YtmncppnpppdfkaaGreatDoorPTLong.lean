/- A text's print, the program's and the document's. No condition but the text's length. -/
import Derived.Test.YtmncppnpppdfkaaGreatDoorPTSumMath
import Derived.Test.YtmncppnpppdfkaaGreatDoorPTK0
set_option linter.unusedVariables false
namespace Go.Proofs.YtmncppnpppdfkaaGreatDoor
open Go.BigFrame
open Go.RowKit
theorem take_snoc (s : ByteArray) (k : Nat) (h : k < s.size) : s.data.toList.take (k + 1) = s.data.toList.take k ++ [s[k]] := by
  rw [List.take_succ_eq_append_getElem (by simpa using h)]; rfl
namespace Sm
def base : Nat := 14695981039346656037
theorem base_lt : base < 18446744073709551616 := by unfold base; omega
def printTo (s : ByteArray) (k : Nat) : Nat := printOn base (s.data.toList.take k)
theorem printTo_lt (s : ByteArray) (k : Nat) : printTo s k < 18446744073709551616 := printOn_lt base_lt _
theorem printTo_succ (s : ByteArray) (k : Nat) (h : k < s.size) : printTo s (k + 1) = print1 (printTo s k) s[k].toNat := by
  unfold printTo
  rw [take_snoc s k h, printOn_snoc]
theorem print_step {h x : Nat} (hh : h < 18446744073709551616) (hx : x < 256) :
    IntKind.u64.wrap (bits BinOp.xor IntKind.u64 (h : Int) (IntKind.u64.wrap (x : Int)) * 1099511628211) = ((print1 h x : Nat) : Int) := by
  have e1 : IntKind.u64.wrap (x : Int) = (x : Int) := by rw [IntKind.wrap_u64]; omega
  rw [e1, u64_xor_nat h x hh (by omega), IntKind.wrap_u64, print1]
  rfl
theorem printTo_all (s : ByteArray) : printTo s s.size = print s.data.toList := by
  unfold printTo print base
  rw [List.take_of_length_le (by simp)]
end Sm
set_option maxHeartbeats 400000 in
theorem long_any (s : ByteArray) (hs : s.size ≤ maxLen) (w : World) :
    Calls Tryz.prog 50 #[.string s] w fun e w' => e = .returned (.int .u64 (Sm.print s.data.toList)) ∧ w = w' := by
  unfold maxLen at hs
  go_enter Tryz.func50, Tryz.ntmps50
  go_wp2
  go_loop [3, 7] (fun r i => ∃ k : Nat, k ≤ s.size ∧ i = .int .i64 k ∧ r = .int .u64 (Sm.printTo s k)) (fun _ i => s.size - (intOf i).toNat)
  case atStart => exact ⟨0, by omega, rfl, rfl⟩
  case round =>
    obtain ⟨k, hk, rfl, rfl⟩ := hrel
    have hR := Sm.printTo_lt s k
    by_cases hlt : k < s.size
    · have HS := Lib.hid (Sm.printTo_succ s k hlt)
      have HP := Lib.hid (Sm.print_step hR s[k].toNat_lt)
      clear hR
      go_wp2
      go_round
      case rel => exact ⟨k + 1, by omega, by go_num, by rw [HS.out, HP.out]⟩
      case measure => simp [intOf]; omega
    · obtain rfl : k = s.size := by omega
      have HA := Lib.hid (Sm.printTo_all s)
      clear hlt
      go_wp2
      go_ret
      exact ⟨by rw [HA.out]; rfl, rfl⟩
namespace Sm
end Sm
set_option maxHeartbeats 400000 in
theorem reflong_any (s : ByteArray) (hs : s.size ≤ maxLen) (w : World) :
    Calls Tryz.prog 51 #[.string s] w fun e w' => e = .returned (.int .u64 (Sm.print s.data.toList)) ∧ w = w' := by
  unfold maxLen at hs
  go_enter Tryz.func51, Tryz.ntmps51
  go_wp2
  go_loop [3, 4] (fun r i => ∃ k : Nat, k ≤ s.size ∧ i = .int .i64 k ∧ r = .int .u64 (Sm.printTo s k)) (fun _ i => s.size - (intOf i).toNat)
  case atStart => exact ⟨0, by omega, rfl, rfl⟩
  case round =>
    obtain ⟨k, hk, rfl, rfl⟩ := hrel
    have hR := Sm.printTo_lt s k
    by_cases hlt : k < s.size
    · have HS := Lib.hid (Sm.printTo_succ s k hlt)
      have HP := Lib.hid (Sm.print_step hR s[k].toNat_lt)
      clear hR
      go_wp2
      go_round
      case rel => exact ⟨k + 1, by omega, by go_num, by rw [HS.out, HP.out]⟩
      case measure => simp [intOf]; omega
    · obtain rfl : k = s.size := by omega
      have HA := Lib.hid (Sm.printTo_all s)
      clear hlt
      go_wp2
      go_ret
      exact ⟨by rw [HA.out]; rfl, rfl⟩
end Go.Proofs.YtmncppnpppdfkaaGreatDoor
