import Derived.Test.YtdnfbkcfiiccjaaSumWalkF
set_option linter.unusedVariables false
namespace Go.Proofs.Ytdnfbkcfiiccjaa
open Go.RowKit Go.BigFrame
attribute [local go_sem] bl_imp
namespace Sm
theorem crc_known : crc [49, 50, 51, 52, 53, 54, 55, 56, 57] = 3808858755 := by decide +kernel
theorem print_known : print [97] = 12638187200555641996 := by decide +kernel
theorem next_known : nextR (frame [97, 98] ++ [120]) 0 = some [97, 98] := by
  have := nextR_frame [] [97, 98] [120] (by decide)
  exact this
theorem next_known_v : nextV 0 (nextR (frame [97, 98] ++ [120]) 0) = .tuple #[.string ⟨#[97, 98]⟩, .int .i64 10, .bool true] := by
  rw [next_known]; rfl
end Sm
set_option maxHeartbeats 1000000 in
theorem awake_any (w : World) :
    Calls Try.prog 10 #[] w fun e w' => e = .returned (.bool true) ∧ Below w.heap.size w w' := by
  have hfl : (Sm.frame [97, 98]).length = 10 := Sm.frame_length _
  go_enter Try.func10, Try.ntmps10
  go_wp2_with fail
  refine (frame_any [97, 98] (by decide) _).mono ?_
  rintro e w1 ⟨rfl, hb1⟩
  go_wp2_with fail
  rw [show (⟨(Sm.frame [97, 98]).toArray⟩ ++ ⟨#[120]⟩ : ByteArray) = ⟨(Sm.frame [97, 98] ++ [120]).toArray⟩ from ByteArray.mk_append_mk _ _]
  refine (next_any _ (by simp [ByteArray.size_mk', maxLen, hfl]) _ _).mono ?_
  rintro e w2 ⟨rfl, hb2⟩
  rw [Sm.next_known_v]
  go_wp2_with fail
  refine (crc_any _ (by simp [ByteArray.size, maxLen]) _).mono ?_
  rintro e w3 ⟨rfl, hb3⟩
  rw [Sm.crc_known]
  go_wp2_with fail
  refine (long_any _ (by simp [ByteArray.size, maxLen]) _).mono ?_
  rintro e w4 ⟨rfl, rfl⟩
  rw [Sm.print_known]
  go_wp2
  go_ret
  exact ⟨rfl, bl_join hb1 (bl_join hb2 hb3)⟩
set_option maxHeartbeats 1000000 in
theorem sumSums_walk (a b : ByteArray) (ha : a.size ≤ maxLen) (hb : b.size ≤ maxLen) (w : World) :
    Calls Try.prog 3 #[.string a, .string b] w fun e w' => e = .returned (.bool true) ∧ Below w.heap.size w w' := by
  have Ha := Lib.hid ha
  have Hb := Lib.hid hb
  by_cases h1 : 20000 < a.size
  · clear ha hb
    go_enter Try.func3, Try.ntmps3
    go_wp2_with fail
    refine (awake_any _).mono ?_
    rintro e w1 ⟨rfl, hb1⟩
    go_wp2
    go_ret
    exact ⟨rfl, hb1⟩
  · by_cases h2 : 20000 < b.size
    · clear ha hb
      go_enter Try.func3, Try.ntmps3
      go_wp2_with fail
      refine (awake_any _).mono ?_
      rintro e w1 ⟨rfl, hb1⟩
      go_wp2
      all_goals go_ret
      all_goals exact ⟨rfl, hb1⟩
    · have hab : (a ++ b).size ≤ maxLen := by simp only [ByteArray.size_append, maxLen]; omega
      have Hab := Lib.hid hab
      clear ha hb hab
      go_enter Try.func3, Try.ntmps3
      go_wp2_with fail
      refine (awake_any _).mono ?_
      rintro e w1 ⟨rfl, hb1⟩
      go_wp2_with fail
      refine (crc_any _ Ha.out _).mono ?_
      rintro e w2 ⟨rfl, hb2⟩
      go_wp2_with fail
      refine (refcrc_any _ Ha.out _).mono ?_
      rintro e w3 ⟨rfl, rfl⟩
      go_wp2_with fail
      refine (refcrc_any _ Ha.out _).mono ?_
      rintro e w3 ⟨rfl, rfl⟩
      go_wp2_with fail
      refine (more_any _ (Sm.crc_lt _) _ Hb.out _).mono ?_
      rintro e w3 ⟨rfl, hb3⟩
      go_wp2_with fail
      refine (refcrc_any _ Hab.out _).mono ?_
      rintro e w4 ⟨rfl, rfl⟩
      rw [Sm.crc_more, show (a ++ b).data.toList = a.data.toList ++ b.data.toList by simp]
      go_wp2_with fail
      refine (long_any _ Ha.out _).mono ?_
      rintro e w4 ⟨rfl, rfl⟩
      go_wp2_with fail
      refine (reflong_any _ Ha.out _).mono ?_
      rintro e w4 ⟨rfl, rfl⟩
      go_wp2
      go_ret
      exact ⟨rfl, bl_join hb1 (bl_join hb2 hb3)⟩
end Go.Proofs.Ytdnfbkcfiiccjaa
