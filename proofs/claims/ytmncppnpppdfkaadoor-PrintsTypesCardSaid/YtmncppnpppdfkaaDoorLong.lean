/- A text's print, the program's and the document's. No condition but the text's length. -/
import Derived.Test.YtmncppnpppdfkaaDoorSumMath
import Derived.Test.YtmncppnpppdfkaaDoorK0
set_option linter.unusedVariables false
namespace Go.Proofs.YtmncppnpppdfkaaDoor
open Go.BigFrame
open Go.RowKit
theorem take_snoc (s : ByteArray) (k : Nat) (h : k < s.size) : s.data.toList.take (k + 1) = s.data.toList.take k ++ [s[k]] := by
  rw [List.take_succ_eq_append_getElem (by simpa using h)]; rfl
namespace Sm
def base : Nat := 14695981039346656037
def prime : Nat := 1099511628211
theorem base_lt : base < 18446744073709551616 := by unfold base; omega
def printTo (s : ByteArray) (k : Nat) : Nat := printOn base (s.data.toList.take k)
theorem printTo_lt (s : ByteArray) (k : Nat) : printTo s k < 18446744073709551616 := printOn_lt base_lt _
theorem printTo_succ (s : ByteArray) (k : Nat) (h : k < s.size) : printTo s (k + 1) = print1 (printTo s k) s[k].toNat := by
  unfold printTo
  rw [take_snoc s k h, printOn_snoc]
theorem print_step {h x : Nat} (hh : h < 18446744073709551616) (hx : x < 256) :
    IntKind.u64.wrap (bits BinOp.xor IntKind.u64 (h : Int) (IntKind.u64.wrap (x : Int)) * 1099511628211) = ((print1 h x : Nat) : Int) := by
  have e1 : IntKind.u64.wrap (x : Int) = (x : Int) := by rw [IntKind.wrap_u64]; omega
  rw [e1, u64_xor_nat h x hh (by omega), IntKind.wrap_u64, print1]
  rfl
theorem printTo_all (s : ByteArray) : printTo s s.size = print s.data.toList := by
  unfold printTo print base
  rw [List.take_of_length_le (by simp)]
end Sm
set_option maxHeartbeats 400000 in
theorem long_any (s : ByteArray) (hs : s.size ≤ maxLen) (w : World) :
    Calls Tryd.prog 24 #[.string s] w fun e w' => e = .returned (.int .u64 (Sm.print s.data.toList)) ∧ w = w' := by
  unfold maxLen at hs
  go_enter Tryd.func24, Tryd.ntmps24
  go_wp2
  go_loop [3, 7] (fun r i => ∃ k : Nat, k ≤ s.size ∧ i = .int .i64 k ∧ r = .int .u64 (Sm.printTo s k)) (fun _ i => s.size - (intOf i).toNat)
  case atStart => exact ⟨0, by omega, rfl, rfl⟩
  case round =>
    obtain ⟨k, hk, rfl, rfl⟩ := hrel
    have hR := Sm.printTo_lt s k
    by_cases hlt : k < s.size
    · have HS := Lib.hid (Sm.printTo_succ s k hlt)
      have HP := Lib.hid (Sm.print_step hR s[k].toNat_lt)
      clear hR
      go_wp2
      go_round
      case rel => exact ⟨k + 1, by omega, by go_num, by rw [HS.out, HP.out]⟩
      case measure => simp [intOf]; omega
    · obtain rfl : k = s.size := by omega
      have HA := Lib.hid (Sm.printTo_all s)
      clear hlt
      go_wp2
      go_ret
      exact ⟨by rw [HA.out]; rfl, rfl⟩
namespace Sm
def le4 (n : Nat) : List UInt8 := [UInt8.ofNat n, UInt8.ofNat (n / 256), UInt8.ofNat (n / 65536), UInt8.ofNat (n / 16777216)]
theorem ofNat_toNat (n : Nat) : (UInt8.ofNat n).toNat = n % 256 := by simp
end Sm
theorem run_put (n : Nat) (hn : n < 4294967296) (w : World) :
    Sem.run Tryd.prog (convert 122 9 (.slice (some ⟨w.heap.size, 0, none⟩) 4 4)) (w.alloc (.cells #[.int .u8 (↑n % 256), .int .u8 (↑n / 256 % 256), .int .u8 (↑n / 65536 % 256), .int .u8 (↑n / 16777216)] 5)) =
      .ok (.string ⟨(Sm.le4 n).toArray⟩) (w.alloc (.cells #[.int .u8 (↑n % 256), .int .u8 (↑n / 256 % 256), .int .u8 (↑n / 65536 % 256), .int .u8 (↑n / 16777216)] 5)) := by
  refine run_convert_bytes_back (P := Tryd.prog) _ 122 9 5 ⟨w.heap.size, 0, none⟩ 4 (Sm.le4 n) Tryd.underlying122 Tryd.underlying5 Tryd.underlying9 ?_
  intro j hj
  have hj : j < 4 := hj
  have hj' : j = 0 ∨ j = 1 ∨ j = 2 ∨ j = 3 := by omega
  rcases hj' with rfl | rfl | rfl | rfl
  · simp [Sm.le4, go_sem, Addr.add]
  · simp [Sm.le4, go_sem, Addr.add]
  · simp [Sm.le4, go_sem, Addr.add]
  · simp [Sm.le4, go_sem, Addr.add]; omega
end Go.Proofs.YtmncppnpppdfkaaDoor
