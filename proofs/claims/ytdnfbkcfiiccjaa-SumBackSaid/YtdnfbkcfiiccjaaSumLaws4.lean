import Derived.Test.YtdnfbkcfiiccjaaSumLaws3
set_option linter.unusedVariables false
namespace Go.Proofs.Ytdnfbkcfiiccjaa
open Go.RowKit Go.BigFrame
attribute [local go_sem] bl_imp
namespace Sm
theorem nextR_zero (n : Nat) : nextR (List.replicate n 0) 0 = none := by
  cases h : nextR (List.replicate n 0) 0 with
  | none => rfl
  | some b =>
    exfalso
    obtain ⟨m, hm0, hb1, hb2, hb3, hb4⟩ := nextR_some h
    obtain rfl : m = 0 := by omega
    rw [List.length_replicate] at hb2
    rw [List.drop_zero] at hb3
    have hv : val4 (List.replicate n (0 : UInt8)) = 0 := by
      unfold val4
      have g : ∀ i, ((List.replicate n (0 : UInt8)).getD i 0) = 0 := by
        intro i
        rw [List.getD_eq_getElem?_getD, List.getElem?_replicate]
        split <;> rfl
      rw [g, g, g, g]; rfl
    have hbl : b.length = 0 := by
      have h1 := val4_frame b [] hb1
      rw [List.append_nil, ← hb3] at h1
      rw [← h1]
      have g : ∀ i, (((List.replicate n (0 : UInt8)).take (8 + b.length)).getD i 0) = 0 := by
        intro i
        rw [List.take_replicate, List.getD_eq_getElem?_getD, List.getElem?_replicate]
        split <;> rfl
      unfold val4
      rw [g, g, g, g]; rfl
    obtain rfl : b = [] := List.eq_nil_of_length_eq_zero hbl
    have hz : (List.replicate n (0 : UInt8)).take (8 + ([] : List UInt8).length) = List.replicate 8 0 := by
      rw [List.take_replicate]; congr 1; simp; omega
    rw [hz] at hb3
    exact absurd hb3 (by decide +kernel)
theorem spoilt_sums (l : List UInt8) (j : Nat) (hj : j < l.length) (x : UInt8) (hx : x ≠ l[j]) : crc (l.set j x) ≠ crc l ∧ print (l.set j x) ≠ print l := by
  have e : l = l.take j ++ l[j] :: l.drop (j + 1) := by simp
  have e2 : l.set j x = l.take j ++ x :: l.drop (j + 1) := by rw [List.set_eq_take_append_cons_drop, if_pos hj]
  constructor
  · intro h
    rw [e2] at h
    have h2 : crc (l.take j ++ x :: l.drop (j + 1)) = crc (l.take j ++ l[j] :: l.drop (j + 1)) := by rw [← e]; exact h
    exact hx (more_inj_byte (c := 0) (by omega) _ _ _ _ h2)
  · intro h
    rw [e2] at h
    have h2 : print (l.take j ++ x :: l.drop (j + 1)) = print (l.take j ++ l[j] :: l.drop (j + 1)) := by rw [← e]; exact h
    exact hx (print_inj_byte _ _ _ _ h2)
end Sm
set_option maxHeartbeats 1000000 in
theorem sumNone_walk (s : ByteArray) (cut a c n : Int) (hs : s.size ≤ maxLen) (hcut : (Lit.int .i64 cut).wf = true) (ha : (Lit.int .i64 a).wf = true) (hc : (Lit.int .u8 c).wf = true) (hn : (Lit.int .u16 n).wf = true) (w : World) :
    Calls Try.prog 6 #[.string s, .int .i64 cut, .int .i64 a, .int .u8 c, .int .u16 n] w fun e w' => e = .returned (.bool true) ∧ Below w.heap.size w w' := by
  have hc2 : 0 ≤ c ∧ c ≤ 255 := by simpa [Lit.wf, IntKind.min, IntKind.max, IntKind.signed, IntKind.bits] using hc
  have hn2 : 0 ≤ n ∧ n ≤ 65535 := by simpa [Lit.wf, IntKind.min, IntKind.max, IntKind.signed, IntKind.bits] using hn
  clear hc hs hn hcut ha
  by_cases h1 : 20000 < s.size
  · go_enter Try.func6, Try.ntmps6
    go_wp2_with fail
    refine (awake_any _).mono ?_
    rintro e w1 ⟨rfl, hb1⟩
    go_wp2
    all_goals go_ret
    all_goals exact ⟨rfl, hb1⟩
  · obtain ⟨m, rfl⟩ := Int.eq_ofNat_of_zero_le hn2.1
    go_enter Try.func6, Try.ntmps6
    go_wp2_with fail
    refine (awake_any _).mono ?_
    rintro e w1 ⟨rfl, hb1⟩
    obtain ⟨w2, hmk, hby, hb2, hlt2⟩ := make_bytes w1 .u16 .u16 m (by omega)
    have hst := string_of_bytes hby m
    rw [List.length_replicate] at hst
    have hm : (⟨(List.replicate m (0 : UInt8)).toArray⟩ : ByteArray).size ≤ maxLen := by simp [ByteArray.size_mk', maxLen]; omega
    have Hm := Lib.hid hm
    have Hst := Lib.hid hst
    clear hm hby hst
    generalize hZ : List.replicate m (0 : UInt8) = Z at *
    have HZ := Lib.hid (show Sm.nextR Z 0 = none by rw [← hZ]; exact Sm.nextR_zero m)
    clear hZ
    have hst := Hst.out
    go_wp2_with fail
    refine (next_any _ Hm.out _ _).mono ?_
    rintro e w3 ⟨rfl, hb3⟩
    rw [HZ.out]
    simp only [Sm.nextV]
    clear hmk hst Hst
    have hb23 := bl_join hb2 hb3
    by_cases hz : s.size = 0
    · have hs0 : s = ⟨([] : List UInt8).toArray⟩ := by
        obtain ⟨l, rfl⟩ := Sm.of_list s
        have : l = [] := List.eq_nil_of_length_eq_zero (by simpa [ByteArray.size_mk'] using hz)
        rw [this]
      subst hs0
      have he : (⟨#[]⟩ : ByteArray).size ≤ maxLen := by simp [ByteArray.size, maxLen]
      have He := Lib.hid he
      have hcm : Sm.more (Sm.crc []) [] = Sm.crc [] := Sm.more_nil (Sm.crc_lt _)
      clear he hz h1
      go_wp2_with fail
      refine wp_region_bl w (by kernel_rfl) (by kernel_rfl) (Bl.trans hb1 hb23) ?_
      repeat (go_big_quiet_step ((intro hb; first | (go_at_call 11; exact calls_bl hb (crc_any _ He.out _)) | (go_at_call 13; exact calls_bl hb (more_any _ (Sm.crc_lt _) _ He.out _)))))
      refine wpQuiet_nil ?_
      intro w6 hw6
      go_wp2
      all_goals go_ret
      all_goals exact ⟨rfl, hw6⟩
    · have hL : 0 < s.size := by omega
      obtain ⟨hc1, hc3⟩ := Sm.tmod_bounds cut hL
      obtain ⟨ha1, ha3⟩ := Sm.tmod_bounds a hL
      obtain ⟨t, ht⟩ : ∃ t, cut.tmod (s.size : Int) = t := ⟨_, rfl⟩
      rw [ht] at hc1 hc3
      obtain ⟨t2, ht2⟩ : ∃ t2, a.tmod (s.size : Int) = t2 := ⟨_, rfl⟩
      rw [ht2] at ha1 ha3
      obtain ⟨k, hk⟩ : ∃ k : Nat, (t + (s.size : Int)) % (s.size : Int) = (k : Int) := ⟨((t + (s.size : Int)) % (s.size : Int)).toNat, by have := Int.emod_nonneg (t + (s.size : Int)) (b := (s.size : Int)) (by omega); omega⟩
      have hkl : k < s.size := by have := Int.emod_lt_of_pos (t + (s.size : Int)) (b := (s.size : Int)) (by omega); omega
      obtain ⟨j, hj⟩ : ∃ j : Nat, (t2 + (s.size : Int)) % (s.size : Int) = (j : Int) := ⟨((t2 + (s.size : Int)) % (s.size : Int)).toNat, by have := Int.emod_nonneg (t2 + (s.size : Int)) (b := (s.size : Int)) (by omega); omega⟩
      have hjl : j < s.size := by have := Int.emod_lt_of_pos (t2 + (s.size : Int)) (b := (s.size : Int)) (by omega); omega
      have hm1 : (s.extract 0 k).size ≤ maxLen := by rw [ByteArray.size_extract]; unfold maxLen; omega
      have hm2 : (s.extract k s.size).size ≤ maxLen := by rw [ByteArray.size_extract]; unfold maxLen; omega
      have hm3 : s.size ≤ maxLen := by unfold maxLen; omega
      have he : (⟨#[]⟩ : ByteArray).size ≤ maxLen := by simp [ByteArray.size, maxLen]
      have Hm1 := Lib.hid hm1
      have Hm2 := Lib.hid hm2
      have Hm3 := Lib.hid hm3
      have He := Lib.hid he
      have hcm : Sm.more (Sm.crc (List.take k s.data.toList)) (List.take (s.size - k) (List.drop k s.data.toList)) = Sm.crc s.data.toList := by
        rw [List.take_of_length_le (l := List.drop k s.data.toList) (by simp), Sm.crc_more, List.take_append_drop]
      have hcm2 : Sm.more (Sm.crc s.data.toList) [] = Sm.crc s.data.toList := Sm.more_nil (Sm.crc_lt _)
      clear hm1 hm2 hm3 he
      go_wp2_with fail
      have Hk := Lib.hid hk
      have Hj := Lib.hid hj
      clear ht hk hj hc1 hc3
      have kle : k ≤ s.size := by omega
      have kle2 : (k : Int) ≤ (s.size : Int) := by omega
      rw [Hk.out]
      refine wp_region_bl w (by kernel_rfl) (by kernel_rfl) (Bl.trans hb1 hb23) ?_
      repeat (go_big_quiet_step (fail))
      go_big_quiet_want
      go_big_quiet_op
      refine ⟨_, fun _ hb => calls_bl hb (crc_any _ Hm1.out _), ?_⟩
      go_big_quiet_on
      repeat (go_big_quiet_step (fail))
      go_big_quiet_want
      go_big_quiet_op
      refine ⟨_, fun _ hb => calls_bl hb (more_any _ (Sm.crc_lt _) _ Hm2.out _), ?_⟩
      go_big_quiet_on
      repeat (go_big_quiet_step (fail))
      go_big_quiet_want
      go_big_quiet_op
      refine ⟨_, fun _ hb => calls_bl hb (crc_any _ Hm3.out _), ?_⟩
      go_big_quiet_on
      repeat (go_big_quiet_step (fail))
      go_big_quiet_want
      go_big_quiet_op
      refine ⟨_, fun _ hb => calls_bl hb (crc_any _ Hm3.out _), ?_⟩
      go_big_quiet_on
      repeat (go_big_quiet_step (fail))
      go_big_quiet_want
      go_big_quiet_op
      refine ⟨_, fun _ hb => calls_bl hb (more_any _ (Sm.crc_lt _) _ He.out _), ?_⟩
      go_big_quiet_on
      repeat (go_big_quiet_step (fail))
      go_big_quiet_want
      go_big_quiet_op
      refine ⟨_, fun _ hb => calls_bl hb (crc_any _ Hm3.out _), ?_⟩
      go_big_quiet_on
      repeat (go_big_quiet_step (fail))
      refine wpQuiet_nil ?_
      intro w6 hw6
      clear hcm hcm2
      by_cases h0 : c = 0
      · subst h0
        go_wp2
        all_goals go_ret
        all_goals exact ⟨rfl, hw6⟩
      · obtain ⟨cn, rfl⟩ := Int.eq_ofNat_of_zero_le hc2.1
        have hcn : cn < 256 := by omega
        have hcn0 : cn ≠ 0 := by omega
        have hc0 : ((cn : Int) == 0) = false := by rw [beq_eq_false_iff_ne]; exact h0
        have hd0 : ((s.size : Int) == 0) = false := by rw [beq_eq_false_iff_ne]; omega
        clear h0
        obtain ⟨cap, w7, hrun, hby, hb7, hlt7, hcap⟩ := bytes_of_string w6 s
        have Hcap := Lib.hid hcap
        have hjt : (t2 + (s.size : Int)).tmod (s.size : Int) = (j : Int) := by rw [Int.tmod_eq_emod_of_nonneg (by omega)]; exact Hj.out
        have hjs : j < s.data.toList.length := by simpa using hjl
        have hcell := hby.cell j hjs
        have hfree := hby.free j hjs
        obtain ⟨Y, hY⟩ : ∃ Y, s.data.toList[j] = Y := ⟨_, rfl⟩
        rw [hY] at hcell
        have hxor := xor_byte Y.toNat cn Y.toNat_lt hcn
        have hne := xor_byte_ne Y cn hcn hcn0
        have hbs := hby.set j (UInt8.ofNat (Y.toNat ^^^ cn)) hjs
        have hrun2 := string_of_bytes hbs cap
        have hlen : (s.data.toList.set j (UInt8.ofNat (Y.toNat ^^^ cn))).length = s.size := by simp
        rw [hlen] at hrun2
        have HD := Lib.hid (Sm.spoilt_sums s.data.toList j hjs (UInt8.ofNat (Y.toNat ^^^ cn)) (by rw [hY]; exact fun h => hne h))
        have Hbs := Lib.hid hbs
        clear hne hcap hby hbs hjs hY Hj
        generalize hX : UInt8.ofNat (Y.toNat ^^^ cn) = X at *
        clear hX
        obtain ⟨l2, hl2⟩ : ∃ l2, s.data.toList.set j X = l2 := ⟨_, rfl⟩
        rw [hl2] at hrun2 HD hlen Hbs
        clear hl2
        have hm2 : (⟨l2.toArray⟩ : ByteArray).size ≤ maxLen := by simp only [ByteArray.size_mk', List.size_toArray, maxLen]; omega
        have Hm2 := Lib.hid hm2
        have Hlen := Lib.hid hlen
        clear hm2 hlen
        have Hx := Lib.hid hrun2
        go_wp2_with fail
        refine (crc_any _ Hm2.out _).mono ?_
        rintro e w8 ⟨rfl, hb8⟩
        go_wp2_with fail
        refine (crc_any _ Hm3.out _).mono ?_
        rintro e w9 ⟨rfl, hb9⟩
        have hq1 := Sm.neq_true HD.out.1
        have hg : w6.heap.size < (w7.setCell ⟨w6.heap.size, j, none⟩ (.int .u8 (X.toNat : Int))).heap.size := by simpa [World.setCell] using hlt7
        have hbs9 := (Hbs.out.below hb8 hg).below hb9 (Nat.lt_of_lt_of_le hg hb8.size)
        have hrun9 := string_of_bytes hbs9 cap
        have hlen : l2.length = s.size := Hlen.out
        rw [hlen] at hrun9
        clear hbs9 hlen hrun2
        go_wp2_with fail
        refine (long_any _ Hm2.out _).mono ?_
        rintro e w10 ⟨rfl, rfl⟩
        go_wp2_with fail
        refine (long_any _ Hm3.out _).mono ?_
        rintro e w10 ⟨rfl, rfl⟩
        have hq2 := Sm.neq_true HD.out.2
        go_wp2
        go_ret
        have hb11 : Below w6.heap.size w6 _ := hb7.setCell (p := ⟨w6.heap.size, j, none⟩) (Nat.le_refl _) (.int .u8 (X.toNat : Int))
        exact ⟨rfl, bl_join hw6 (bl_join hb11 (bl_join hb8 hb9))⟩
end Go.Proofs.Ytdnfbkcfiiccjaa
