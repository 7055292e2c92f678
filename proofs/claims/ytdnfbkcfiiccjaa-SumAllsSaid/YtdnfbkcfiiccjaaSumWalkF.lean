import Derived.Test.YtdnfbkcfiiccjaaSumWalkE
set_option linter.unusedVariables false
namespace Go.Proofs.Ytdnfbkcfiiccjaa
open Go.RowKit Go.BigFrame
attribute [local go_sem] bl_imp
namespace Sm
/-- The number of four bytes, its highest first. -/
def hv (s : ByteArray) (n : Nat) : Nat → Nat
  | 0 => 0
  | k + 1 => 256 * hv s n k + (s.data.toList.getD (n + 3 - k) 0).toNat
theorem hv_lt (s : ByteArray) (n k : Nat) (hk : k ≤ 4) : hv s n k < 4294967296 := by
  have h : ∀ k, hv s n k < 256 ^ k := by
    intro k
    induction k with
    | zero => simp [hv]
    | succ k ih =>
      have := (s.data.toList.getD (n + 3 - k) 0).toNat_lt
      rw [Nat.pow_succ]
      simp only [hv]
      omega
  have h1 := h k
  have h2 : 256 ^ k ≤ 256 ^ 4 := Nat.pow_le_pow_right (by omega) hk
  have h3 : (256 : Nat) ^ 4 = 4294967296 := by decide
  omega
theorem hv_all (s : ByteArray) (n : Nat) : hv s n 4 = val4 (s.data.toList.drop n) := by
  have e : ∀ i, (s.data.toList.drop n).getD i 0 = s.data.toList.getD (n + i) 0 := by
    intro i
    simp [List.getD_eq_getElem?_getD, List.getElem?_drop]
  unfold val4
  rw [e, e, e, e]
  simp only [hv]
  simp only [Nat.sub_zero, show n + 3 - 1 = n + 2 from by omega, show n + 3 - 2 = n + 1 from by omega, show n + 3 - 3 = n + 0 from by omega]
  omega
theorem hv_step {s : ByteArray} {n k j : Nat} (hj : j + k = n + 3) (h : j < s.size) : hv s n (k + 1) = 256 * hv s n k + s[j].toNat := by
  have : n + 3 - k = j := by omega
  simp only [hv]
  rw [this, getD_byte s j h]
end Sm
set_option maxHeartbeats 1000000 in
theorem refnext_off (s : ByteArray) (hs : s.size ≤ maxLen) (a : Int) (ha : a < 0 ∨ (s.size : Int) ≤ a ∨ (s.size : Int) - a < 8) (w : World) :
    Calls Try.prog 19 #[.string s, .int .i64 a] w fun e w' => e = .returned (.tuple #[.string ⟨#[]⟩, .int .i64 0, .bool false]) ∧ Below w.heap.size w w' := by
  unfold maxLen at hs
  by_cases h1 : a < 0
  · go_enter Try.func19, Try.ntmps19
    go_wp2
    go_ret3
    exact ⟨rfl, Below.refl _ _⟩
  · obtain ⟨n, rfl⟩ := Int.eq_ofNat_of_zero_le (show 0 ≤ a by omega)
    by_cases h2 : s.size ≤ n
    · have d2 : decide (s.size ≤ n) = true := by simpa using h2
      clear ha
      go_enter Try.func19, Try.ntmps19
      go_wp2
      go_ret3
      exact ⟨rfl, Below.refl _ _⟩
    · have h3 : (s.size : Int) - (n : Int) < 8 := by omega
      have d3 : decide ((s.size : Int) - (n : Int) < 8) = true := by simpa using h3
      clear ha
      go_enter Try.func19, Try.ntmps19
      go_wp2
      go_ret3
      exact ⟨rfl, Below.refl _ _⟩
set_option maxHeartbeats 2000000 in
theorem refnext_on (s : ByteArray) (hs : s.size ≤ maxLen) (n : Nat) (ha : n + 8 ≤ s.size) (w : World) :
    Calls Try.prog 19 #[.string s, .int .i64 n] w fun e w' => e = .returned (Sm.nextV n (Sm.nextR s.data.toList n)) ∧ Below w.heap.size w w' := by
  unfold maxLen at hs
  have g1 : n < s.size := by omega
  have g2 : 8 ≤ (s.size : Int) - (n : Int) := by omega
  have d1 : decide ((n : Int) < 0) = false := by simp
  have d2 : decide (s.size ≤ n) = false := by simp; omega
  have d3 : decide ((s.size : Int) - (n : Int) < 8) = false := by simp; omega
  go_enter Try.func19, Try.ntmps19
  go_wp2
  clear d1 d2 d3
  go_loop [7, 8] (fun m i => ∃ k : Nat, k ≤ 4 ∧ i = .int .i64 ((3 : Int) - (k : Int)) ∧ m = .int .i64 (Sm.hv s n k)) (fun _ i => (intOf i + 1).toNat)
  case atStart => exact ⟨0, by omega, rfl, rfl⟩
  case round =>
    obtain ⟨k, hk, rfl, rfl⟩ := hrel
    have hR := Sm.hv_lt s n k hk
    by_cases hlt : k < 4
    · obtain ⟨j, hj⟩ : ∃ j, j + k = n + 3 := ⟨n + 3 - k, by omega⟩
      have hjs : j < s.size := by omega
      have HS := Lib.hid (Sm.hv_step hj hjs)
      have hx : s[j].toNat < 256 := s[j].toNat_lt
      have ej : (n : Int) + ((3 : Int) - (k : Int)) = (j : Int) := by omega
      have d1 : decide ((0 : Int) ≤ 3 - (k : Int)) = true := by simp; omega
      go_wp2
      go_round
      case rel => exact ⟨k + 1, by omega, by congr 1; omega, by rw [HS.out]; rfl⟩
      case measure => simp [intOf]; omega
    · obtain rfl : k = 4 := by omega
      have HA := Lib.hid (Sm.hv_all s n)
      generalize Sm.hv s n 4 = k at *
      clear hlt
      by_cases hl : 65536 < k ∨ s.size < n + 8 + k
      · have HV := Lib.hid (Sm.nextR_long HA.out.symm (by simpa using hl))
        by_cases hl1 : 65536 < k
        · clear hl
          go_wp2
          go_ret3
          exact ⟨by rw [HV.out]; rfl, Below.refl _ _⟩
        · have hl2 : s.size < n + 8 + k := by omega
          have d4 : decide (65536 < (k : Int)) = false := by simp; omega
          have d5 : decide ((s.size : Int) - (n : Int) - 8 < (k : Int)) = true := by simp; omega
          clear hl
          go_wp2
          go_ret3
          exact ⟨by rw [HV.out]; rfl, Below.refl _ _⟩
      · have hl1 : k ≤ 65536 := by omega
        have hl2 : n + 8 + k ≤ s.size := by omega
        have d4 : decide (65536 < (k : Int)) = false := by simp; omega
        have d5 : decide ((s.size : Int) - (n : Int) - 8 < (k : Int)) = false := by simp; omega
        have HR := Lib.hid (Sm.nextR_sum HA.out.symm hl1 (by simpa using hl2))
        have HF := Lib.hid (Sm.frame_at s.data.toList n k HA.out.symm (by simpa using hl2))
        have HX := Lib.hid (show s.extract (n + 8) (n + 8 + k) = ⟨((s.data.toList.drop (n + 8)).take k).toArray⟩ by rw [Lib.extract_eq]; congr 3; omega)
        have HLK := Lib.hid (show ((s.data.toList.drop (n + 8)).take k).length = k by rw [List.length_take, List.length_drop]; simp; omega)
        have hbl : ((s.data.toList.drop (n + 8)).take k).length ≤ 65536 := by rw [HLK.out]; exact hl1
        have HC := Lib.hid (refframe_any _ hbl w)
        have HY := Lib.hid (show (s.extract n (n + 8 + k)).toList = (s.data.toList.drop n).take (8 + k) by rw [Lib.toList_data, Lib.extract_data]; congr 1; omega)
        clear hbl hl
        go_wp2_with fail
        rw [HX.out]
        refine HC.out.mono ?_
        rintro e w1 ⟨rfl, hb1⟩
        clear HC
        by_cases hsum : Sm.frame ((s.data.toList.drop (n + 8)).take k) = (s.data.toList.drop n).take (8 + k)
        · have hq : (Sm.frame ((s.data.toList.drop (n + 8)).take k) == (s.extract n (n + 8 + k)).toList) = true := by rw [HY.out, beq_iff_eq]; exact hsum
          have HV := Lib.hid (show Sm.nextV n (Sm.nextR s.data.toList n) = .tuple #[.string ⟨((s.data.toList.drop (n + 8)).take k).toArray⟩, .int .i64 ((n : Int) + 8 + k), .bool true] by rw [HR.out, if_pos (HF.out.1 hsum)]; simp only [Sm.nextV, HLK.out])
          clear hsum HF HR
          go_wp2
          go_ret3
          exact ⟨by rw [HV.out]; rfl, hb1⟩
        · have hq : (Sm.frame ((s.data.toList.drop (n + 8)).take k) == (s.extract n (n + 8 + k)).toList) = false := by rw [HY.out, beq_eq_false_iff_ne]; exact hsum
          have HV := Lib.hid (show Sm.nextV n (Sm.nextR s.data.toList n) = .tuple #[.string ⟨#[]⟩, .int .i64 0, .bool false] by rw [HR.out, if_neg (fun h => hsum (HF.out.2 h))]; rfl)
          clear hsum HF HR
          go_wp2
          go_ret3
          exact ⟨by rw [HV.out]; rfl, hb1⟩
theorem refnext_any (s : ByteArray) (hs : s.size ≤ maxLen) (a : Int) (w : World) :
    Calls Try.prog 19 #[.string s, .int .i64 a] w fun e w' => e = .returned (Sm.nextV a (Sm.nextR s.data.toList a)) ∧ Below w.heap.size w w' := by
  by_cases h0 : a < 0 ∨ (s.size : Int) - a < 8
  · rw [Sm.nextR_off (by simpa using h0)]
    exact refnext_off s hs a (by omega) w
  · obtain ⟨n, rfl⟩ := Int.eq_ofNat_of_zero_le (show 0 ≤ a by omega)
    exact refnext_on s hs n (by omega) w
end Go.Proofs.Ytdnfbkcfiiccjaa
