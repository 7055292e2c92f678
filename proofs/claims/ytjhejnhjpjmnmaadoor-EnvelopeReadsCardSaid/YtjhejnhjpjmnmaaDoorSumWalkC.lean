import Derived.Test.YtjhejnhjpjmnmaaDoorSumWalkB
set_option linter.unusedVariables false
namespace Go.Proofs.YtjhejnhjpjmnmaaDoor
open Go.RowKit Go.BigFrame
theorem info_u8 : (Tryd.prog.info? 5).map (fun i => (i.zero, i.size, i.bytes)) = some (some (.int .u8 0), 1, 1) := by kernel_rfl
namespace Sm
def byteV (x : UInt8) : Value := .int .u8 x.toNat
theorem le4_snoc {n k : Nat} (hk : k < 4) : (le4 n).take (k + 1) = (le4 n).take k ++ [UInt8.ofNat (n / 256 ^ k)] := by
  have hk' : k = 0 ∨ k = 1 ∨ k = 2 ∨ k = 3 := by omega
  rcases hk' with rfl | rfl | rfl | rfl <;> simp [le4]
theorem byteV_ofNat (n : Nat) : byteV (UInt8.ofNat n) = .int .u8 ((n : Int) % 256) := by unfold byteV; rw [ofNat_toNat]; rfl
def divs (n k : Nat) : Nat := n / 256 ^ k
theorem divs_succ (n k : Nat) : divs n (k + 1) = divs n k / 256 := by unfold divs; rw [Nat.pow_succ, Nat.div_div_eq_div_mul]
theorem divs_lt {n : Nat} (k : Nat) (h : n < 4294967296) : divs n k < 4294967296 := by
  unfold divs; exact Nat.lt_of_le_of_lt (Nat.div_le_self _ _) h
end Sm
namespace Sm
def xreg (s : ByteArray) (k : Nat) : Nat := reg 4294967295 (s.data.toList.take k)
theorem xreg_lt (s : ByteArray) (k : Nat) : xreg s k < 4294967296 := reg_lt (by omega) _
theorem xreg_succ (s : ByteArray) (k : Nat) (h : k < s.size) : xreg s (k + 1) = stepN 8 (xreg s k ^^^ s[k].toNat) := by
  unfold xreg
  rw [take_snoc s k h, reg_snoc]
  rfl
theorem xreg_all (s : ByteArray) : 4294967295 - xreg s s.size = crc s.data.toList := by
  unfold xreg crc more
  rw [List.take_of_length_le (by simp)]
theorem xor_in {X x : Nat} (hX : X < 4294967296) (hx : x < 256) : bits .xor .u32 (X : Int) (x : Int) = ((X ^^^ x : Nat) : Int) := u32_xor_nat X x hX (by omega)
end Sm
set_option maxHeartbeats 400000 in
theorem refcrc_any (s : ByteArray) (hs : s.size ≤ maxLen) (w : World) :
    Calls Tryd.prog 37 #[.string s] w fun e w' => e = .returned (.int .u32 (Sm.crc s.data.toList)) ∧ w = w' := by
  unfold maxLen at hs
  go_enter Tryd.func37, Tryd.ntmps37
  go_wp2
  go_loop [3, 4] (fun c i => ∃ k : Nat, k ≤ s.size ∧ i = .int .i64 k ∧ c = .int .u32 (Sm.xreg s k)) (fun _ i => s.size - (intOf i).toNat)
  case atStart => exact ⟨0, by omega, rfl, rfl⟩
  case round =>
    obtain ⟨k, hk, rfl, rfl⟩ := hrel
    have hR := Sm.xreg_lt s k
    by_cases hlt : k < s.size
    · have HS := Lib.hid (Sm.xreg_succ s k hlt)
      have hx : s[k].toNat < 256 := s[k].toNat_lt
      have e1 := Sm.xor_in hR hx
      have hX := Sm.xor_byte_lt hR hx
      generalize hX0 : Sm.xreg s k ^^^ s[k].toNat = X0 at *
      clear hX0
      go_wp2
      clear e1
      go_loop [3, 5] (fun c i => ∃ j : Nat, j ≤ 8 ∧ i = .int .i64 j ∧ c = .int .u32 (Sm.stepN j X0)) (fun _ i => 8 - (intOf i).toNat)
      case atStart => exact ⟨0, by omega, rfl, rfl⟩
      case round =>
        obtain ⟨j, hj, rfl, rfl⟩ := hrel
        have hc := Sm.stepN_lt j (c := X0) hX
        by_cases hjl : j < 8
        · by_cases hb : Sm.stepN j X0 % 2 = 1
          · have ht : ((Sm.stepN j X0 : Int) % 2 == 1) = true := by rw [beq_iff_eq]; omega
            have HS2 := Lib.hid (Sm.step_odd hc hb)
            clear hb
            go_wp2
            go_round
            case rel => exact ⟨j + 1, by omega, by go_num, HS2.out⟩
            case measure => simp [intOf]; omega
          · have ht : ((Sm.stepN j X0 : Int) % 2 == 1) = false := by rw [beq_eq_false_iff_ne]; omega
            have HS2 := Lib.hid (Sm.step_even hb)
            clear hb
            go_wp2
            go_round
            case rel => exact ⟨j + 1, by omega, by go_num, HS2.out⟩
            case measure => simp [intOf]; omega
        · obtain rfl : j = 8 := by omega
          clear hjl
          go_wp2
          go_round
          case rel => exact ⟨k + 1, by omega, by go_num, by rw [HS.out]⟩
          case measure => simp [intOf]; omega
    · obtain rfl : k = s.size := by omega
      have HA := Lib.hid (Sm.xreg_all s)
      clear hlt
      go_wp2
      go_ret
      exact ⟨by rw [← HA.out]; refine ret_eq ?_; show Value.int _ _ = Value.int _ _; congr 1; omega, rfl⟩
end Go.Proofs.YtjhejnhjpjmnmaaDoor
