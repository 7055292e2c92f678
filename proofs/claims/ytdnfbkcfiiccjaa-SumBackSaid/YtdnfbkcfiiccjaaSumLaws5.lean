import Derived.Test.YtdnfbkcfiiccjaaSumWhole
import Derived.Test.YtdnfbkcfiiccjaaSumLaws4
set_option linter.unusedVariables false
namespace Go.Proofs.Ytdnfbkcfiiccjaa
open Go.RowKit Go.BigFrame
attribute [local go_sem] bl_imp
namespace Sm
def noughts (n : Nat) : List UInt8 := List.replicate n 0
theorem noughts_length (n : Nat) : (noughts n).length = n := List.length_replicate
def fab : List UInt8 := [2, 0, 0, 0, 173, 130, 101, 159, 97, 98]
def fe : List UInt8 := [0, 0, 0, 0, 199, 75, 103, 72]
theorem frame_ab : frame [97, 98] = fab := by decide +kernel
theorem frame_e : frame [] = fe := by decide +kernel
theorem next_ab1 : nextR fab 1 = none := by decide +kernel
theorem next_ab10 : nextR fab 10 = none := nextR_off (.inr (by decide))
theorem next_abm (l : List UInt8) : nextR l (-1) = none := nextR_off (.inl (by decide))
theorem next_over (X Y : List UInt8) : nextR (1 :: 0 :: 1 :: 0 :: (X ++ Y)) 0 = none := by
  have e : val4 ((1 :: 0 :: 1 :: 0 :: (X ++ Y) : List UInt8).drop 0) = 65537 := by
    simp [val4]
  exact nextR_long (n := 0) e (.inl (by omega))
theorem crc_nil : crc [] = 0 := by decide +kernel
theorem more_known : more (crc [49, 50, 51, 52]) [53, 54, 55, 56, 57] = 3808858755 := by decide +kernel
theorem print_nil : print [] = 14695981039346656037 := by decide +kernel
theorem run_known : Run (fab ++ fe ++ [120]) 0 [⟨[97, 98], by decide⟩, ⟨[], by decide⟩] 18 := by
  refine ⟨?_, ?_, rfl, ?_⟩
  · have := nextR_frame [] [97, 98] (fe ++ [120]) (by decide)
    rw [frame_ab] at this
    exact this
  · have := nextR_frame fab [] [120] (by decide)
    rw [frame_e] at this
    exact this
  · exact nextR_off (.inr (by decide))
end Sm
theorem known_make (w : World) (n : Nat) (N : Int) (hN : N = (n : Int)) (hn : n ≤ 140737488355328) : ∃ w2, Sem.run Try.prog (Instr.makeSlice 37 (.int .i64 N) (.int .i64 N)) w = .ok (.slice (some ⟨w.heap.size, 0, none⟩) n n) w2 ∧
    Sem.run Try.prog (convert 37 9 (.slice (some ⟨w.heap.size, 0, none⟩) n n)) w2 = .ok (.string ⟨(Sm.noughts n).toArray⟩) w2 ∧ Below w.heap.size w w2 := by
  subst hN
  obtain ⟨w2, h1, hby, hb, _⟩ := make_bytes w .i64 .i64 n hn
  have h2 := string_of_bytes hby n
  rw [List.length_replicate] at h2
  exact ⟨w2, h1, h2, hb⟩
set_option maxRecDepth 100000 in
set_option maxHeartbeats 4000000 in
theorem sumKnown_walk (w : World) :
    Calls Try.prog 7 #[] w fun e w' => e = .returned (.bool true) ∧ Below w.heap.size w w' := by
  go_enter Try.func7, Try.ntmps7
  go_wp2_with fail
  refine (frame_any [97, 98] (by decide) _).mono ?_
  rintro e w1 ⟨rfl, hb1⟩
  rw [Sm.frame_ab]
  go_wp2_with fail
  refine (frame_any [] (by decide) _).mono ?_
  rintro e w2 ⟨rfl, hb2⟩
  rw [Sm.frame_e]
  obtain ⟨w3, hmk3, hst3, hb3⟩ := known_make w2 65537 65537 rfl (by omega)
  have HL1 := Lib.hid (Sm.noughts_length 65537)
  generalize Sm.noughts 65537 = Z1 at *
  have hm1 : (⟨Z1.toArray⟩ : ByteArray).size ≤ maxLen := by simp [ByteArray.size_mk', maxLen, HL1.out]
  have hm1b : 65536 < (⟨Z1.toArray⟩ : ByteArray).size := by simp [ByteArray.size_mk', HL1.out]
  have Hm1 := Lib.hid hm1
  have Hm1b := Lib.hid hm1b
  clear hm1 hm1b
  go_wp2_with fail
  refine (frame_long _ Hm1.out Hm1b.out _).mono ?_
  rintro e w4 ⟨rfl, rfl⟩
  clear hmk3 hst3
  obtain ⟨w4, hmk4, hst4, hb4⟩ := known_make w3 65536 65536 rfl (by omega)
  have HL2 := Lib.hid (Sm.noughts_length 65536)
  generalize Sm.noughts 65536 = Z2 at *
  have hz2 : Z2.length ≤ 65536 := by rw [HL2.out]; omega
  have Hz2 := Lib.hid hz2
  have HF2 := Lib.hid (frame_any Z2 hz2 w4)
  have HN2 := Lib.hid (show Sm.nextR (Sm.frame Z2) 0 = some Z2 by
    have := Sm.nextR_frame [] Z2 [] hz2
    rw [List.append_nil] at this
    exact this)
  have HFL := Lib.hid (show (Sm.frame Z2).length = 65544 by rw [Sm.frame_length, HL2.out])
  clear hz2
  go_wp2_with fail
  refine HF2.out.mono ?_
  rintro e w5 ⟨rfl, hb5⟩
  clear HF2 hmk4 hst4
  generalize Sm.frame Z2 = F2 at *
  have hF2 : F2.length = 65544 := HFL.out
  have hfab : Sm.fab.length = 10 := rfl
  have q1 : (((⟨Sm.fab.toArray⟩ : ByteArray).extract 0 4).toList == [2, 0, 0, 0]) = true := by decide +kernel
  have q2 : (((⟨Sm.fab.toArray⟩ : ByteArray).extract 8 10).toList == [97, 98]) = true := by decide +kernel
  have hm5 : (⟨Sm.fab.toArray⟩ : ByteArray).size ≤ maxLen := by simp [ByteArray.size_mk', maxLen, hfab]
  have Hm5 := Lib.hid hm5
  clear hm5
  go_wp2_with fail
  clear q1 q2
  refine (next_any _ Hm5.out _ _).mono ?_
  rintro e w6 ⟨rfl, hb6⟩
  rw [show Sm.nextR (⟨Sm.fab.toArray⟩ : ByteArray).data.toList 1 = none from Sm.next_ab1]
  simp only [Sm.nextV]
  go_wp2_with fail
  refine (next_any _ Hm5.out _ _).mono ?_
  rintro e w7 ⟨rfl, hb7⟩
  rw [show Sm.nextR (⟨Sm.fab.toArray⟩ : ByteArray).data.toList 10 = none from Sm.next_ab10]
  simp only [Sm.nextV]
  go_wp2_with fail
  refine (next_any _ Hm5.out _ _).mono ?_
  rintro e w8 ⟨rfl, hb8⟩
  rw [show Sm.nextR (⟨Sm.fab.toArray⟩ : ByteArray).data.toList (-1) = none from Sm.next_abm _]
  simp only [Sm.nextV]
  have hm6 : (⟨F2.toArray⟩ : ByteArray).size ≤ maxLen := by simp [ByteArray.size_mk', maxLen, hF2]
  have Hm6 := Lib.hid hm6
  clear hm6
  go_wp2_with fail
  refine (next_any _ Hm6.out _ _).mono ?_
  rintro e w9 ⟨rfl, hb9⟩
  rw [show Sm.nextR (⟨F2.toArray⟩ : ByteArray).data.toList 0 = some Z2 from HN2.out]
  simp only [Sm.nextV]
  obtain ⟨w10, hmk10, hst10, hb10⟩ := known_make w9 65537 65537 rfl (by omega)
  have HL3 := Lib.hid (Sm.noughts_length 65537)
  have hz2 : Z2.length = 65536 := HL2.out
  generalize Sm.noughts 65537 = Z3 at *
  have hm7 : (⟨#[1, 0, 1, 0]⟩ ++ ⟨Z3.toArray⟩ : ByteArray).size ≤ maxLen := by
    simp only [ByteArray.size_append, ByteArray.size_mk', List.size_toArray, HL3.out]
    simp [maxLen]
  have Hm7 := Lib.hid hm7
  have hz3 : Z3.length = 65537 := HL3.out
  clear hm7
  go_wp2_with fail
  refine (crc_any _ Hm7.out _).mono ?_
  rintro e w11 ⟨rfl, hb11⟩
  have hcl := Sm.crc_lt (⟨#[1, 0, 1, 0]⟩ ++ ⟨Z3.toArray⟩ : ByteArray).data.toList
  generalize Sm.crc (⟨#[1, 0, 1, 0]⟩ ++ ⟨Z3.toArray⟩ : ByteArray).data.toList = C at *
  have hrun := run_put C hcl
  have hl4 := Sm.le4_length C
  clear hmk10 hst10
  have hm8 : (⟨#[1, 0, 1, 0]⟩ ++ ⟨(Sm.le4 C).toArray⟩ ++ ⟨Z3.toArray⟩ : ByteArray).size ≤ maxLen := by
    simp only [ByteArray.size_append, ByteArray.size_mk', List.size_toArray, HL3.out, hl4]
    simp [maxLen]
  have Hm8 := Lib.hid hm8
  clear hm8
  go_wp2_with fail
  refine (next_any _ Hm8.out _ _).mono ?_
  rintro e w12 ⟨rfl, hb12⟩
  rw [show (⟨#[1, 0, 1, 0]⟩ ++ ⟨(Sm.le4 C).toArray⟩ ++ ⟨Z3.toArray⟩ : ByteArray).data.toList = 1 :: 0 :: 1 :: 0 :: (Sm.le4 C ++ Z3) by simp, Sm.next_over]
  simp only [Sm.nextV]
  clear hrun
  go_wp2_with fail
  refine (awake_any _).mono ?_
  rintro e w13 ⟨rfl, hb13⟩
  go_wp2_with fail
  refine (crc_any _ (by simp [ByteArray.size, maxLen]) _).mono ?_
  rintro e w14 ⟨rfl, hb14⟩
  rw [show (⟨#[]⟩ : ByteArray).data.toList = [] from rfl, Sm.crc_nil]
  go_wp2_with fail
  refine (crc_any _ (by simp [ByteArray.size, maxLen]) _).mono ?_
  rintro e w15 ⟨rfl, hb15⟩
  go_wp2_with fail
  refine (more_any _ (Sm.crc_lt _) _ (by simp [ByteArray.size, maxLen]) _).mono ?_
  rintro e w16 ⟨rfl, hb16⟩
  rw [show Sm.more (Sm.crc (⟨#[49, 50, 51, 52]⟩ : ByteArray).data.toList) (⟨#[53, 54, 55, 56, 57]⟩ : ByteArray).data.toList = 3808858755 from Sm.more_known]
  go_wp2_with fail
  refine (long_any _ (by simp [ByteArray.size, maxLen]) _).mono ?_
  rintro e w17 ⟨rfl, rfl⟩
  rw [show (⟨#[]⟩ : ByteArray).data.toList = [] from rfl, Sm.print_nil]
  have hfe : Sm.fe.length = 8 := rfl
  go_wp2_with fail
  rw [show (⟨Sm.fab.toArray⟩ ++ ⟨Sm.fe.toArray⟩ ++ ⟨#[120]⟩ : ByteArray) = ⟨(Sm.fab ++ Sm.fe ++ [120]).toArray⟩ by rw [ByteArray.mk_append_mk]; exact ByteArray.mk_append_mk _ _]
  refine (whole_any _ (by simp [ByteArray.size_mk', hfab, hfe]) _ _ Sm.run_known _).mono ?_
  rintro e w18 ⟨rfl, hb18⟩
  go_wp2
  go_ret
  exact ⟨rfl, bl_join hb1 (bl_join hb2 (bl_join hb3 (bl_join hb4 (bl_join hb5 (bl_join hb6 (bl_join hb7 (bl_join hb8 (bl_join hb9 (bl_join hb10 (bl_join hb11 (bl_join ((Below.refl _ _).alloc (Nat.le_refl _) _) (bl_join hb12 (bl_join hb13 (bl_join hb14 (bl_join hb15 (bl_join hb16 hb18))))))))))))))))⟩
end Go.Proofs.Ytdnfbkcfiiccjaa
