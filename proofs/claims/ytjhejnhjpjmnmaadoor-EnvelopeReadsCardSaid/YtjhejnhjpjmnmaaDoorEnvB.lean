/- envelope.putBig, putLittle. -/
import Derived.Test.YtjhejnhjpjmnmaaDoorEnvA
set_option linter.unusedVariables false
namespace Go.Proofs.YtjhejnhjpjmnmaaDoor
open Go.RowKit
namespace Ev
theorem big_snoc (x : Nat) : ∀ n k, k < n → (big x n).take (k + 1) = (big x n).take k ++ [UInt8.ofNat (x / 256 ^ (n - 1 - k))]
  | n + 1, 0, _ => by simp [big]
  | n + 1, k + 1, h => by
    have ih := big_snoc x n k (by omega)
    simp only [big, List.take_succ_cons]
    rw [ih, show n - 1 - k = n + 1 - 1 - (k + 1) from by omega]
    rfl
theorem byteV_shr (x m : Nat) : Sm.byteV (UInt8.ofNat (x / 256 ^ m)) = .int .u8 ((x : Int) / 2 ^ (8 * m) % 256) := by
  rw [Sm.byteV_ofNat]
  have e : (256 : Nat) ^ m = 2 ^ (8 * m) := (Nat.pow_mul 2 8 m).symm
  rw [e]
  congr 1
end Ev
set_option maxRecDepth 100000 in
set_option maxHeartbeats 1000000 in
theorem putBig_any (B : Nat) (v : Value) (xs : List UInt8) (x : Nat) (hx : x < 18446744073709551616) (hn : xs.length ≤ 1000000000) (w : World) (hown : Ev.Bt w B v xs) (hB : B ≤ w.heap.size) :
    Calls Tryd.prog 22 #[v, .int .u64 x, .int .i64 8] w fun e w' => ∃ v', e = .returned v' ∧ Ev.Bt w' B v' (xs ++ Ev.big x 8) ∧ Below B w w' := by
  have HO := Lib.hid hown
  have HX := Lib.hid hx
  clear hx hown
  go_enter Tryd.func22, Tryd.ntmps22
  go_wp2
  go_loopw [0, 7] (fun b i wr => ∃ k : Nat, k ≤ 8 ∧ i = .int .i64 (7 - (k : Int)) ∧ Ev.Bt wr B b (xs ++ (Ev.big x 8).take k) ∧ Below B w wr) (fun _ i _ => (intOf i + 1).toNat)
  case atStart => exact ⟨0, by omega, rfl, by rw [List.take_zero, List.append_nil]; exact HO.out, Below.refl _ _⟩
  case round =>
    obtain ⟨k, hk, rfl, hown, hb⟩ := hrel
    have hz := hb.size
    by_cases hlt : k < 8
    · have HS := Lib.hid (Ev.big_snoc x 8 k hlt)
      have hi : (0 : Int) ≤ 7 - (k : Int) := by omega
      have hi2 : 7 - (k : Int) ≤ 7 := by omega
      have hlen : (xs ++ (Ev.big x 8).take k).length ≤ 1000000010 := by rw [List.length_append, List.length_take]; omega
      have HB := Lib.hid (Ev.byteV_shr x (7 - k))
      go_wp2_with (at_builtin; refine wpList_append_one rfl _ _ _ rfl B 5 _ _ Tryd.underlying37 info_u8 rfl _ (xs ++ (Ev.big x 8).take k).length _ rfl hown.own _ rfl rfl (by simp only [maxLen]; omega) (by omega) (by omega) ?_; intro v' w1 hown1 hb1 _)
      go_roundw
      case rel => exact ⟨k + 1, by omega, by congr 1; omega, by rw [HS.out, ← List.append_assoc]; exact Ev.Bt.push hown1 rfl HB.out, hb.trans hb1⟩
      case measure => simp [intOf]; omega
    · obtain rfl : k = 8 := by omega
      rw [List.take_of_length_le (by rw [Ev.big_len]; omega)] at hown
      have HF := Lib.hid hown
      clear hown
      go_wp2_with fail
      go_ret
      exact ⟨_, rfl, HF.out, hb⟩
set_option maxRecDepth 100000 in
set_option maxHeartbeats 1000000 in
theorem putLittle_any (B : Nat) (v : Value) (xs : List UInt8) (x : Nat) (hx : x < 4294967296) (hn : xs.length ≤ 1000000000) (w : World) (hown : Ev.Bt w B v xs) (hB : B ≤ w.heap.size) :
    Calls Tryd.prog 23 #[v, .int .u64 x, .int .i64 4] w fun e w' => ∃ v', e = .returned v' ∧ Ev.Bt w' B v' (xs ++ Sm.le4 x) ∧ Below B w w' := by
  have HO := Lib.hid hown
  have HX := Lib.hid hx
  clear hx hown
  go_enter Tryd.func23, Tryd.ntmps23
  go_wp2
  go_loopw [0, 9] (fun b i wr => ∃ k : Nat, k ≤ 4 ∧ i = .int .i64 k ∧ Ev.Bt wr B b (xs ++ (Sm.le4 x).take k) ∧ Below B w wr) (fun _ i _ => (4 - intOf i).toNat)
  case atStart => exact ⟨0, by omega, rfl, by rw [List.take_zero, List.append_nil]; exact HO.out, Below.refl _ _⟩
  case round =>
    obtain ⟨k, hk, rfl, hown, hb⟩ := hrel
    have hz := hb.size
    by_cases hlt : k < 4
    · have HS := Lib.hid (Sm.le4_snoc (n := x) hlt)
      have HB := Lib.hid (Ev.byteV_shr x k)
      have hi : (k : Int) < 4 := by omega
      have hlen : (xs ++ (Sm.le4 x).take k).length ≤ 1000000010 := by rw [List.length_append, List.length_take]; omega
      go_wp2_with (at_builtin; refine wpList_append_one rfl _ _ _ rfl B 5 _ _ Tryd.underlying37 info_u8 rfl _ (xs ++ (Sm.le4 x).take k).length _ rfl hown.own _ rfl rfl (by simp only [maxLen]; omega) (by omega) (by omega) ?_; intro v' w1 hown1 hb1 _)
      go_roundw
      case rel => exact ⟨k + 1, by omega, by go_num, by rw [HS.out, ← List.append_assoc]; exact Ev.Bt.push hown1 rfl HB.out, hb.trans hb1⟩
      case measure => simp [intOf]; omega
    · obtain rfl : k = 4 := by omega
      have HF : Hid (Ev.Bt wr B _ (xs ++ Sm.le4 x)) := Lib.hid hown
      clear hown
      go_wp2_with fail
      go_ret
      exact ⟨_, rfl, HF.out, hb⟩
end Go.Proofs.YtjhejnhjpjmnmaaDoor
