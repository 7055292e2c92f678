import Derived.Test.YtdnfbkcfiiccjaaSumWalkC
set_option linter.unusedVariables false
namespace Go.Proofs.Ytdnfbkcfiiccjaa
open Go.RowKit Go.BigFrame
namespace Sm
def frame (l : List UInt8) : List UInt8 := le4 l.length ++ le4 (crc (le4 l.length ++ l)) ++ l
theorem frame_length (l : List UInt8) : (frame l).length = l.length + 8 := by simp [frame, le4]
theorem le4_length (n : Nat) : (le4 n).length = 4 := rfl
theorem of_list (s : ByteArray) : ∃ l : List UInt8, s = ⟨l.toArray⟩ := ⟨s.data.toList, by cases s; rfl⟩
end Sm
theorem put_int (c : Int) (h0 : 0 ≤ c) (hc : c < 4294967296) (w : World) :
    Calls Try.prog 25 #[.int .u32 c] w fun e w' => e = .returned (.string ⟨(Sm.le4 c.toNat).toArray⟩) ∧ Below w.heap.size w w' := by
  obtain ⟨n, rfl⟩ := Int.eq_ofNat_of_zero_le h0
  rw [Int.toNat_natCast]
  exact put_any n (by omega) w
theorem four_int (c : Int) (h0 : 0 ≤ c) (hc : c < 4294967296) (w : World) :
    Calls Try.prog 26 #[.int .u32 c] w fun e w' => e = .returned (.string ⟨(Sm.le4 c.toNat).toArray⟩) ∧ Below w.heap.size w w' := by
  obtain ⟨n, rfl⟩ := Int.eq_ofNat_of_zero_le h0
  rw [Int.toNat_natCast]
  exact four_any n (by omega) w
set_option maxHeartbeats 400000 in
theorem frame_long (s : ByteArray) (hs : s.size ≤ maxLen) (hl : 65536 < s.size) (w : World) :
    Calls Try.prog 16 #[.string s] w fun e w' => e = .returned (.tuple #[.string ⟨#[]⟩, .int .i64 3]) ∧ w = w' := by
  unfold maxLen at hs
  go_enter Try.func16, Try.ntmps16
  go_wp2
  go_ret2
  exact ⟨rfl, rfl⟩
set_option maxHeartbeats 400000 in
theorem frame_any (l : List UInt8) (hl : l.length ≤ 65536) (w : World) :
    Calls Try.prog 16 #[.string ⟨l.toArray⟩] w fun e w' => e = .returned (.tuple #[.string ⟨(Sm.frame l).toArray⟩, .int .i64 0]) ∧ Below w.heap.size w w' := by
  have hm : (⟨l.toArray⟩ : ByteArray).size ≤ maxLen := by simp [ByteArray.size_mk', maxLen]; omega
  have Hm := Lib.hid hm
  clear hm
  have h4 : (⟨(Sm.le4 l.length).toArray⟩ : ByteArray).size ≤ maxLen := by simp [ByteArray.size_mk', maxLen, Sm.le4]
  have H4 := Lib.hid h4
  clear h4
  have hl4 := Sm.le4_length
  go_enter Try.func16, Try.ntmps16
  go_wp2_with fail
  refine (put_int _ (by omega) (by omega) _).mono ?_
  rintro e w1 ⟨rfl, hb1⟩
  go_wp2_with fail
  refine (crc_any _ H4.out _).mono ?_
  rintro e w2 ⟨rfl, hb2⟩
  go_wp2_with fail
  refine (more_any _ (Sm.crc_lt _) _ Hm.out _).mono ?_
  rintro e w3 ⟨rfl, hb3⟩
  go_wp2_with fail
  refine (put_any _ (Sm.more_lt _ _) _).mono ?_
  rintro e w4 ⟨rfl, hb4⟩
  go_wp2
  go_ret2
  exact ⟨ret_eq (by rw [ByteArray.mk_append_mk, ByteArray.mk_append_mk, Sm.crc_more]; rfl), bl_join hb1 (bl_join hb2 (bl_join hb3 hb4))⟩
set_option maxHeartbeats 400000 in
theorem refframe_long (s : ByteArray) (hs : s.size ≤ maxLen) (hl : 65536 < s.size) (w : World) :
    Calls Try.prog 17 #[.string s] w fun e w' => e = .returned (.tuple #[.string ⟨#[]⟩, .int .i64 3]) ∧ w = w' := by
  unfold maxLen at hs
  go_enter Try.func17, Try.ntmps17
  go_wp2
  go_ret2
  exact ⟨rfl, rfl⟩
set_option maxHeartbeats 400000 in
theorem refframe_any (l : List UInt8) (hl : l.length ≤ 65536) (w : World) :
    Calls Try.prog 17 #[.string ⟨l.toArray⟩] w fun e w' => e = .returned (.tuple #[.string ⟨(Sm.frame l).toArray⟩, .int .i64 0]) ∧ Below w.heap.size w w' := by
  have hm : (⟨(Sm.le4 l.length).toArray⟩ ++ ⟨l.toArray⟩ : ByteArray).size ≤ maxLen := by rw [ByteArray.mk_append_mk]; simp [ByteArray.size_mk', maxLen, Sm.le4_length]; omega
  have Hm := Lib.hid hm
  clear hm
  have hl4 := Sm.le4_length
  go_enter Try.func17, Try.ntmps17
  go_wp2_with fail
  refine (four_int _ (by omega) (by omega) _).mono ?_
  rintro e w1 ⟨rfl, hb1⟩
  go_wp2_with fail
  refine (refcrc_any _ Hm.out _).mono ?_
  rintro e w2 ⟨rfl, rfl⟩
  go_wp2_with fail
  refine (four_any _ (Sm.crc_lt _) _).mono ?_
  rintro e w4 ⟨rfl, hb4⟩
  go_wp2
  go_ret2
  exact ⟨ret_eq (by rw [ByteArray.mk_append_mk, ByteArray.mk_append_mk]; rfl), bl_join hb1 hb4⟩
end Go.Proofs.Ytdnfbkcfiiccjaa
