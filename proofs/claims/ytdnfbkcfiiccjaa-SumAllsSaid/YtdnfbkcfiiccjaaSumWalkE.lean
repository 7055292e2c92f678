import Derived.Test.YtdnfbkcfiiccjaaSumFrames
set_option linter.unusedVariables false
namespace Go.Proofs.Ytdnfbkcfiiccjaa
open Go.RowKit Go.BigFrame
attribute [local go_sem] bl_imp
namespace Sm
theorem size_len (s : ByteArray) : s.size = s.data.toList.length := by simp
end Sm
set_option maxHeartbeats 1000000 in
theorem next_off (s : ByteArray) (hs : s.size ≤ maxLen) (a : Int) (ha : a < 0 ∨ (s.size : Int) < a ∨ (s.size : Int) - a < 8) (w : World) :
    Calls Try.prog 18 #[.string s, .int .i64 a] w fun e w' => e = .returned (.tuple #[.string ⟨#[]⟩, .int .i64 0, .bool false]) ∧ Below w.heap.size w w' := by
  unfold maxLen at hs
  by_cases h1 : a < 0
  · go_enter Try.func18, Try.ntmps18
    go_wp2
    go_ret3
    exact ⟨rfl, Below.refl _ _⟩
  · obtain ⟨n, rfl⟩ := Int.eq_ofNat_of_zero_le (show 0 ≤ a by omega)
    by_cases h2 : s.size < n
    · have d2 : decide (s.size < n) = true := by simpa using h2
      clear ha
      go_enter Try.func18, Try.ntmps18
      go_wp2
      go_ret3
      exact ⟨rfl, Below.refl _ _⟩
    · have h3 : (s.size : Int) - (n : Int) < 8 := by omega
      have d3 : decide ((s.size : Int) - (n : Int) < 8) = true := by simpa using h3
      clear ha
      go_enter Try.func18, Try.ntmps18
      go_wp2
      go_ret3
      exact ⟨rfl, Below.refl _ _⟩
set_option maxHeartbeats 1000000 in
theorem next_long (s : ByteArray) (hs : s.size ≤ maxLen) (n k : Nat) (ha : n + 8 ≤ s.size) (hk : Sm.val4 (s.data.toList.drop n) = k) (hl : 65536 < k ∨ s.size < n + 8 + k) (w : World) :
    Calls Try.prog 18 #[.string s, .int .i64 n] w fun e w' => e = .returned (.tuple #[.string ⟨#[]⟩, .int .i64 0, .bool false]) ∧ Below w.heap.size w w' := by
  unfold maxLen at hs
  have hk2 := Sm.val4_lt (s.data.toList.drop n)
  rw [hk] at hk2
  have Hk := Lib.hid (show Sm.val4 (s.extract n s.size).data.toList = k by
    rw [Lib.extract_data, List.take_of_length_le (by simp)]; exact hk)
  clear hk
  have g1 : n ≤ s.size := by omega
  have g2 : 8 ≤ (s.size : Int) - (n : Int) := by omega
  have d1 : decide ((n : Int) < 0) = false := by simp
  have d2 : decide (s.size < n) = false := by simp; omega
  have d3 : decide ((s.size : Int) - (n : Int) < 8) = false := by simp; omega
  by_cases hl1 : 65536 < k
  · go_enter Try.func18, Try.ntmps18
    go_wp2_with fail
    refine (get_any _ ?_ _).mono ?_
    · rw [ByteArray.size_extract]; omega
    rintro e w1 ⟨rfl, n1, rfl⟩
    rw [Hk.out]
    go_wp2
    go_ret3
    exact ⟨rfl, below_drewN (Below.refl _ _) _⟩
  · have hl2 : s.size < n + 8 + k := by omega
    have d4 : decide (65536 < (k : Int)) = false := by simp; omega
    have d5 : decide ((s.size : Int) - (n : Int) - 8 < (k : Int)) = true := by simp; omega
    clear hl
    go_enter Try.func18, Try.ntmps18
    go_wp2_with fail
    refine (get_any _ ?_ _).mono ?_
    · rw [ByteArray.size_extract]; omega
    rintro e w1 ⟨rfl, n1, rfl⟩
    rw [Hk.out]
    go_wp2
    go_ret3
    exact ⟨rfl, below_drewN (Below.refl _ _) _⟩
namespace Sm
theorem neq_true {a b : Nat} (h : ¬ a = b) : ((a : Int) != (b : Int)) = true := by rw [bne_iff_ne]; omega
theorem neq_false {a b : Nat} (h : a = b) : ((a : Int) != (b : Int)) = false := by rw [h]; simp
end Sm
set_option maxHeartbeats 2000000 in
theorem next_sum (s : ByteArray) (hs : s.size ≤ maxLen) (n k : Nat) (ha : n + 8 + k ≤ s.size) (hk : Sm.val4 (s.data.toList.drop n) = k) (hl : k ≤ 65536) (w : World) :
    Calls Try.prog 18 #[.string s, .int .i64 n] w fun e w' => e = .returned (Sm.nextV n (Sm.nextR s.data.toList n)) ∧ Below w.heap.size w w' := by
  unfold maxLen at hs
  have HR := Lib.hid (Sm.nextR_sum hk hl (by simpa using ha))
  have Hk := Lib.hid (show Sm.val4 (s.extract n s.size).data.toList = k by
    rw [Lib.extract_data, List.take_of_length_le (by simp)]; exact hk)
  clear hk
  have HD := Lib.hid (show (s.data.toList.drop (n + 4)).take (s.size - (n + 4)) = s.data.toList.drop (n + 4) from List.take_of_length_le (by simp))
  have HX := Lib.hid (show s.extract (n + 8) (n + 8 + k) = ⟨((s.data.toList.drop (n + 8)).take k).toArray⟩ by rw [Lib.extract_eq]; congr 3; omega)
  have HLK := Lib.hid (show ((s.data.toList.drop (n + 8)).take k).length = k by rw [List.length_take, List.length_drop]; simp; omega)
  have ht : (s.extract n (n + 4)).size ≤ maxLen := by rw [ByteArray.size_extract]; unfold maxLen; omega
  have hu : (s.extract (n + 8) (n + 8 + k)).size ≤ maxLen := by rw [ByteArray.size_extract]; unfold maxLen; omega
  have hv : 4 ≤ (s.extract (n + 4) s.size).size := by rw [ByteArray.size_extract]; omega
  have Ht := Lib.hid ht
  have Hu := Lib.hid hu
  have Hv := Lib.hid hv
  clear ht hu hv
  have g1 : n ≤ s.size := by omega
  have g2 : 8 ≤ (s.size : Int) - (n : Int) := by omega
  have d1 : decide ((n : Int) < 0) = false := by simp
  have d2 : decide (s.size < n) = false := by simp; omega
  have d3 : decide ((s.size : Int) - (n : Int) < 8) = false := by simp; omega
  have d4 : decide (65536 < (k : Int)) = false := by simp; omega
  have d5 : decide ((s.size : Int) - (n : Int) - 8 < (k : Int)) = false := by simp; omega
  go_enter Try.func18, Try.ntmps18
  go_wp2_with fail
  refine (get_any _ ?_ _).mono ?_
  · rw [ByteArray.size_extract]; omega
  rintro e w1 ⟨rfl, n1, rfl⟩
  rw [Hk.out]
  go_wp2
  clear d1 d2 d3 d4 d5
  have b1 : IntKind.i64.wrap ((n : Int) + 4) = (n : Int) + 4 := IntWalk.i64_in _ (by omega)
  have b2 : (0 : Int) ≤ (n : Int) + 4 := by omega
  have b3 : ((n : Int) + 4).toNat = n + 4 := by omega
  have b4 : n + 4 ≤ s.size := by omega
  have b5 : (n : Int) + 4 ≤ s.size := by omega
  have b6 : n ≤ n + 4 := by omega
  refine wp_region_bl w (by kernel_rfl) (by kernel_rfl) ((Bl.refl w).drewN _) ?_
  repeat (go_big_quiet_step ((intro hb; first | (go_at_call 11; exact calls_bl hb (crc_any _ Ht.out _)) | (go_at_call 13; exact calls_bl hb (more_any _ (Sm.crc_lt _) _ Hu.out _)) | (go_at_call 27; exact calls_bl_draws hb (get_any _ Hv.out _)))))
  refine wpQuiet_nil ?_
  intro w2 hw2
  rw [HD.out]
  clear b1 b2 b3 b4 b5 b6
  by_cases hsum : Sm.more (Sm.crc ((s.data.toList.drop n).take 4)) ((s.data.toList.drop (n + 8)).take k) = Sm.val4 (s.data.toList.drop (n + 4))
  · have ht := Sm.neq_false hsum
    have HV := Lib.hid (show Sm.nextV n (Sm.nextR s.data.toList n) = .tuple #[.string (s.extract (n + 8) (n + 8 + k)), .int .i64 ((n : Int) + 8 + k), .bool true] by rw [HR.out, if_pos hsum, HX.out]; simp only [Sm.nextV, HLK.out])
    clear hsum
    go_wp2
    go_ret3
    exact ⟨by rw [HV.out]; rfl, hw2⟩
  · have ht := Sm.neq_true hsum
    have HV := Lib.hid (show Sm.nextV n (Sm.nextR s.data.toList n) = .tuple #[.string ⟨#[]⟩, .int .i64 0, .bool false] by rw [HR.out, if_neg hsum]; rfl)
    clear hsum
    go_wp2
    go_ret3
    exact ⟨by rw [HV.out]; rfl, hw2⟩
/-- 'Next': at every text and place. -/
theorem next_any (s : ByteArray) (hs : s.size ≤ maxLen) (a : Int) (w : World) :
    Calls Try.prog 18 #[.string s, .int .i64 a] w fun e w' => e = .returned (Sm.nextV a (Sm.nextR s.data.toList a)) ∧ Below w.heap.size w w' := by
  by_cases h0 : a < 0 ∨ (s.size : Int) - a < 8
  · rw [Sm.nextR_off (by simpa using h0)]
    exact next_off s hs a (by omega) w
  · obtain ⟨n, rfl⟩ := Int.eq_ofNat_of_zero_le (show 0 ≤ a by omega)
    by_cases hl : 65536 < Sm.val4 (s.data.toList.drop n) ∨ s.size < n + 8 + Sm.val4 (s.data.toList.drop n)
    · rw [Sm.nextR_long rfl (by simpa using hl)]
      exact next_long s hs n _ (by omega) rfl hl w
    · exact next_sum s hs n _ (by omega) rfl (by omega) w
end Go.Proofs.Ytdnfbkcfiiccjaa
