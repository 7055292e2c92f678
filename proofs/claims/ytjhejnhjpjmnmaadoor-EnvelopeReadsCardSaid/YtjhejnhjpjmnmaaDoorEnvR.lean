/- envelope.getVar, getBig, getLittle. -/
import Derived.Test.YtjhejnhjpjmnmaaDoorEnvRMath
import Derived.Test.YtjhejnhjpjmnmaaDoorEnvC
set_option linter.unusedVariables false
namespace Go.Proofs.YtjhejnhjpjmnmaaDoor
open Go.RowKit
namespace Ev
theorem and127 (c : Nat) (hc : c < 256) : bits .and .u8 (c : Int) 127 = ((c % 128 : Nat) : Int) := by
  have h := u8_and_nat c 127 hc (by omega)
  have e : ∀ z, z < 256 → z &&& 127 = z % 128 := by decide +kernel
  rw [e c hc] at h
  exact h
theorem acc_or {a c k : Nat} (ha : a < 18446744073709551616) (hc : c < 256) :
    bits .or .u64 (a : Int) (IntKind.u64.wrap (IntKind.u64.wrap (bits .and .u8 (c : Int) 127) * 2 ^ (7 * k))) = ((a ||| (c % 128 * 2 ^ (7 * k) % 18446744073709551616) : Nat) : Int) := by
  rw [and127 c hc]
  have e1 : IntKind.u64.wrap ((c % 128 : Nat) : Int) = ((c % 128 : Nat) : Int) := by rw [IntKind.wrap_u64]; omega
  have e2 : IntKind.u64.wrap (((c % 128 : Nat) : Int) * 2 ^ (7 * k)) = ((c % 128 * 2 ^ (7 * k) % 18446744073709551616 : Nat) : Int) := by
    rw [IntKind.wrap_u64, show ((2 : Int) ^ (7 * k)) = ((2 ^ (7 * k) : Nat) : Int) from by rw [Int.natCast_pow]; rfl, ← Int.natCast_mul]
    rfl
  rw [e1, e2]
  exact u64_or_nat a _ ha (Nat.mod_lt _ (by decide))
end Ev
theorem ret_two {a b c d : Value} (h1 : a = b) (h2 : c = d) : Ending.returned (.tuple #[a, c]) = Ending.returned (.tuple #[b, d]) := by rw [h1, h2]
set_option maxRecDepth 100000 in
set_option maxHeartbeats 2000000 in
theorem getVar_any (s : ByteArray) (hs : s.size ≤ maxLen) (w : World) :
    Calls Tryd.prog 42 #[.string s] w fun e w' => e = .returned (.tuple #[.int .u64 (Ev.getv s.data.toList).1, .int .i64 (Ev.getv s.data.toList).2]) ∧ ∃ n, w' = w.drewN n := by
  unfold maxLen at hs
  have HG : Hid (Ev.getv s.data.toList = Ev.getvF s.data.toList 10 0) := Lib.hid rfl
  rw [HG.out]
  go_enter Tryd.func42, Tryd.ntmps42
  go_wp2_with fail
  go_loopw [2, 8] (fun x i wr => ∃ k q : Nat, k ≤ 10 ∧ i = .int .i64 k ∧ x = .int .u64 (Ev.acc s.data.toList k) ∧ Hid (Ev.getvF s.data.toList 10 0 = Ev.getvF s.data.toList (10 - k) k) ∧ Hid (wr = w.drewN q)) (fun _ i _ => 10 - (intOf i).toNat)
  case atStart => exact ⟨0, 0, by omega, rfl, rfl, Lib.hid rfl, Lib.hid rfl⟩
  case round =>
    obtain ⟨k, q, hk, rfl, rfl, HF, HW⟩ := hrel
    obtain rfl := HW.out
    have hal := Ev.acc_lt s.data.toList k
    by_cases hlt : k < s.size
    · by_cases h10 : k < 10
      · have hi : (k : Int) < (s.size : Int) := by omega
        have hi1 : (k : Int) < 10 := by omega
        have hi0 : (0 : Int) ≤ (k : Int) := by omega
        have hm : (k : Int) < min (s.size : Int) 10 := by omega
        have HB := Lib.hid (Sm.getD_byte s k hlt)
        have hx := s[k].toNat_lt
        have HA := Lib.hid (Ev.acc_or (k := k) hal hx)
        have hll : k < s.data.toList.length := by simpa using hlt
        have HS := Lib.hid (fun h => Ev.getvF_stop h10 hll (congrArg UInt8.toNat (Sm.getD_byte s k hlt)) h)
        have HN := Lib.hid (fun h => Ev.getvF_go h10 hll (congrArg UInt8.toNat (Sm.getD_byte s k hlt)) h)
        have H9 := Lib.hid (fun h => Sm.getD_byte s 9 h)
        have HAS : Hid (Ev.acc s.data.toList (k + 1) = Ev.acc s.data.toList k ||| (s[k].toNat % 128 * 2 ^ (7 * k) % 18446744073709551616)) := Lib.hid (by simp only [Ev.acc, HB.out])
        go_wp2_with fail
        · go_ret2
          have h9 : 9 < s.size := by omega
          have e9 : k = 9 := by omega
          refine ⟨?_, q, rfl⟩
          rw [HF.out, HS.out (by omega), if_pos ⟨e9, by rw [H9.out h9]; omega⟩]
          rfl
        · go_ret2
          have h9 : 9 < s.size := by omega
          obtain rfl : k = 9 := by omega
          refine ⟨?_, q, rfl⟩
          rw [HF.out, HS.out (by omega), if_neg (by rintro ⟨_, h⟩; rw [H9.out h9] at h; omega), HAS.out, ← HA.out]
          rfl
        · go_ret2
          refine ⟨?_, q, rfl⟩
          rw [HF.out, HS.out (by omega), if_neg (by rintro ⟨h, _⟩; omega), HAS.out, ← HA.out]
          rfl
        · go_roundw
          case rel => exact ⟨k + 1, q, by omega, by go_num, by rw [HAS.out, ← HA.out], Lib.hid (by rw [HF.out, HN.out (by omega)]), Lib.hid rfl⟩
          case measure => simp [intOf]; omega
      · have HE := Lib.hid (Ev.getvF_end (l := s.data.toList) (k := k) (.inl (by omega)))
        have hm : ¬ (k : Int) < min (s.size : Int) 10 := by omega
        go_wp2_with fail
        go_ret2
        exact ⟨by rw [HF.out, HE.out]; rfl, q, rfl⟩
    · have HE := Lib.hid (Ev.getvF_end (l := s.data.toList) (k := k) (.inr (by simpa using hlt)))
      have hm : ¬ (k : Int) < min (s.size : Int) 10 := by omega
      go_wp2_with fail
      go_ret2
      exact ⟨by rw [HF.out, HE.out]; rfl, q, rfl⟩
namespace Ev
theorem big_or {X c : Nat} (hX : X < 18446744073709551616) (hc : c < 256) : bits .or .u64 (IntKind.u64.wrap ((X : Int) * 256)) (c : Int) = ((X * 256 % 18446744073709551616 + c : Nat) : Int) := by
  have e : IntKind.u64.wrap ((X : Int) * 256) = ((X * 256 % 18446744073709551616 : Nat) : Int) := by rw [IntKind.wrap_u64]; omega
  rw [e, u64_or_nat _ c (Nat.mod_lt _ (by decide)) (by omega), Nat.or_comm, or_join 8 hc (by omega), Nat.add_comm]
theorem lit_or {X c k : Nat} (hX : X < 2 ^ (8 * k)) (hk : k < 4) (hc : c < 256) : bits .or .u64 (X : Int) (IntKind.u64.wrap ((c : Int) * 2 ^ (8 * k))) = ((X + c * 2 ^ (8 * k) : Nat) : Int) := by
  have hp : 2 ^ (8 * k) ≤ 2 ^ 24 := Nat.pow_le_pow_right (by decide) (by omega)
  have hb : c * 2 ^ (8 * k) ≤ 255 * 2 ^ (8 * k) := Nat.mul_le_mul_right _ (by omega)
  have e : IntKind.u64.wrap ((c : Int) * 2 ^ (8 * k)) = ((c * 2 ^ (8 * k) : Nat) : Int) := by
    rw [show ((2 : Int) ^ (8 * k)) = ((2 ^ (8 * k) : Nat) : Int) from by rw [Int.natCast_pow]; rfl, ← Int.natCast_mul, IntKind.wrap_u64]
    omega
  rw [e, u64_or_nat X _ (by omega) (by omega), or_join (8 * k) hX (Nat.mul_mod_left _ _)]
theorem take_succ {s : ByteArray} {k : Nat} (h : k < s.size) : s.data.toList.take (k + 1) = s.data.toList.take k ++ [s[k]] := Sm.take_snoc s k h
end Ev
set_option maxRecDepth 100000 in
set_option maxHeartbeats 2000000 in
theorem getBig_any (s : ByteArray) (hs : s.size = 8) (w : World) :
    Calls Tryd.prog 34 #[.string s, .int .i64 8] w fun e w' => e = .returned (.int .u64 (Ev.bigv 0 s.data.toList)) ∧ ∃ n, w' = w.drewN n := by
  have HS := Lib.hid hs
  have hs1 : 8 ≤ s.size := by omega
  clear hs
  go_enter Tryd.func34, Tryd.ntmps34
  go_wp2_with fail
  go_loopw [4, 7] (fun x i wr => ∃ k q : Nat, k ≤ 8 ∧ i = .int .i64 k ∧ x = .int .u64 (Ev.bigv 0 (s.data.toList.take k)) ∧ Hid (wr = w.drewN q)) (fun _ i _ => 8 - (intOf i).toNat)
  case atStart => exact ⟨0, 0, by omega, rfl, rfl, Lib.hid rfl⟩
  case round =>
    obtain ⟨k, q, hk, rfl, rfl, HW⟩ := hrel
    obtain rfl := HW.out
    by_cases hlt : k < 8
    · have hks : k < s.size := by omega
      have HT := Lib.hid (Ev.take_succ hks)
      have hx := s[k].toNat_lt
      have hi : (k : Int) < 8 := by omega
      have hi2 : (k : Int) < (s.size : Int) := by omega
      have HB := Lib.hid (Ev.bigv_snoc (s.data.toList.take k) 0 s[k])
      have hbl := Ev.bigv_lt (s.data.toList.take k) 0 (by decide)
      generalize Ev.bigv 0 (s.data.toList.take k) = X at *
      go_wp2_with fail
      go_roundw
      case rel => 
        refine ⟨k + 1, q, by omega, by go_num, ?_, Lib.hid rfl⟩
        rw [HT.out, HB.out, Ev.big_or hbl hx]
      case measure => simp [intOf]; omega
    · obtain rfl : k = 8 := by omega
      have HT : Hid (s.data.toList.take 8 = s.data.toList) := Lib.hid (List.take_of_length_le (by have := HS.out; simp; omega))
      go_wp2_with fail
      go_ret
      exact ⟨by rw [HT.out]; rfl, q, rfl⟩
set_option maxRecDepth 100000 in
set_option maxHeartbeats 2000000 in
theorem getLittle_any (s : ByteArray) (hs : 4 ≤ s.size) (w : World) :
    Calls Tryd.prog 29 #[.string s, .int .i64 4] w fun e w' => e = .returned (.int .u64 (Sm.val4 s.data.toList)) ∧ ∃ n, w' = w.drewN n := by
  have HL := Lib.hid (Ev.lit_four s.data.toList)
  go_enter Tryd.func29, Tryd.ntmps29
  go_wp2_with fail
  go_loopw [4, 7] (fun x i wr => ∃ k q : Nat, k ≤ 4 ∧ i = .int .i64 k ∧ x = .int .u64 (Ev.lit s.data.toList k) ∧ Hid (wr = w.drewN q)) (fun _ i _ => 4 - (intOf i).toNat)
  case atStart => exact ⟨0, 0, by omega, rfl, rfl, Lib.hid rfl⟩
  case round =>
    obtain ⟨k, q, hk, rfl, rfl, HW⟩ := hrel
    obtain rfl := HW.out
    by_cases hlt : k < 4
    · have hks : k < s.size := by omega
      have HT := Lib.hid (Sm.getD_byte s k hks)
      have hx := s[k].toNat_lt
      have hi : (k : Int) < 4 := by omega
      have hi2 : (k : Int) < (s.size : Int) := by omega
      have hll := Ev.lit_lt s.data.toList k
      have HLL := Lib.hid hll
      clear hll
      have HB : Hid (Ev.lit s.data.toList (k + 1) = Ev.lit s.data.toList k + s[k].toNat * 2 ^ (8 * k)) := Lib.hid (by simp only [Ev.lit, HT.out])
      generalize Ev.lit s.data.toList k = X at *
      go_wp2_with fail
      go_roundw
      case rel => 
        refine ⟨k + 1, q, by omega, by go_num, ?_, Lib.hid rfl⟩
        rw [HB.out, Ev.lit_or HLL.out hlt hx]
      case measure => simp [intOf]; omega
    · obtain rfl : k = 4 := by omega
      go_wp2_with fail
      go_ret
      exact ⟨by rw [← HL.out]; rfl, q, rfl⟩
end Go.Proofs.YtjhejnhjpjmnmaaDoor
