import Derived.Test.YtoomlpalkinipaaDoorTokNextD
set_option linter.unusedVariables false
namespace Go.Proofs.YtoomlpalkinipaaDoor
open Go.RowKit
set_option maxRecDepth 100000 in
set_option maxHeartbeats 4000000 in
theorem next_arrow (s : ByteArray) (hs : s.size ≤ 65536) (b k K : Nat) (hk : k ≤ s.size) (hK : Tk.gapEnd false s k = K) (hKs : K < s.size) (hL : Tk.isLetter s[K].toNat = false) (hD : Tk.isDigit s[K].toNat = false) (hS : Tk.isSign s[K].toNat = false) (hA : s[K].toNat = 45 ∧ K + 1 < s.size ∧ Tk.byte s (K + 1) = 62) (w : World) (h : Tk.Rd w b s k) :
    Calls Tryd.prog 25 #[.pointer (some ⟨b, 0, none⟩)] w (Tk.Next s k b w ⟨3, Tk.arrow, 0, K⟩ true 0 (K + 2)) := by
  have hx : s[K].toNat < 256 := s[K].toNat_lt
  have HK := Lib.hid hK
  have HL := Lib.hid hL
  clear hK hL
  have hlt := h.lt
  have hKi : (K : Int) < (s.size : Int) := by omega
  have tK : ((K : Int) == (s.size : Int)) = false := by simp; omega
  have HD := Lib.hid hD
  clear hD
  have h0 := Lib.hid (calls_val (Tryd.strings_IndexByte Tk.signs s[K].toNat) (v' := .int .i64 (Lib.indexByte [123, 125, 40, 41, 59, 58, 44, 46] s[K].toNat.toUInt8)) rfl)
  have h1 := Tk.sign_ix s[K].toNat hx
  have hp := (Tk.prefix_arrow hKs).trans (decide_eq_true hA)
  have HC := Lib.hid (calls_val (Tryd.strings_HasPrefix (s.extract K s.size) ⟨#[45, 62]⟩) (v' := .bool true) (by rw [Tk.extract_list, hp]))
  clear hp
  have h2 : Lib.indexByte [123, 125, 40, 41, 59, 58, 44, 46] s[K].toNat.toUInt8 < 0 := by
    have := mt h1.2 (by rw [hS]; simp)
    omega
  clear h1 hS
  have hK2 : K + 2 ≤ s.size := by omega
  clear hA
  go_enter Tryd.func25, Tryd.ntmps25
  go_wp2_with fail
  refine (skip_any s (by unfold maxLen; omega) b k hk _ (h.below (((Below.refl _ _).alloc (Nat.le_refl _) _)))).mono ?_
  rintro e w1 ⟨rfl, hg1, hR⟩
  rw [HK.out] at hR
  have hB := (Tk.Blk.new w _ _ _ _).grown hg1 (by intro e; cases e; omega)
  have hz1 : w.heap.size + 1 ≤ w1.heap.size := by have := hg1.size; simp at this; omega
  have c0 := hR.c0
  have c1 := hR.c1
  go_wp2_with fail
  go_quiet (fail)
  clear c0 c1
  replace hg1 := grown_trans (World.grownBy_alloc _ _ _) (grown_trans hg1 (grown_drewN _ nq _))
  replace hB := hB.grown (grown_drewN _ nq none) (by simp)
  replace hR := hR.drewN nq
  have hz1' : w.heap.size + 1 ≤ (w1.drewN nq).heap.size := hz1
  clear hz1
  generalize w1.drewN nq = w2 at hg1 hB hR hz1' ⊢
  have hbl := hR.lt
  have c0 := hR.c0
  have c1 := hR.c1
  go_wp2_with fail
  go_quiet (fail)
  go_wp2_with fail
  refine (letter_any _ hx _).mono ?_
  rintro e w3 ⟨rfl, rfl⟩
  rw [HL.out]
  have hg3 : w.grownBy ((w2.alloc (.cells #[.int .u8 0, .string ⟨#[]⟩, .int .i64 0, .int .i64 K] 37)).drewN nq) (some b) := grown_trans (grown_trans hg1 (World.grownBy_alloc _ _ _)) (grown_drewN _ _ _)
  have hB3 := (hB.grown (World.grownBy_alloc w2 (.cells #[.int .u8 0, .string ⟨#[]⟩, .int .i64 0, .int .i64 K] 37) none) (by simp)).grown (grown_drewN _ nq none) (by simp)
  have hT3 := (Tk.Blk.new w2 (.int .u8 0) (.string ⟨#[]⟩) (.int .i64 0) (.int .i64 K)).grown (grown_drewN _ nq none) (by simp)
  have hR3 := (hR.alloc (.cells #[.int .u8 0, .string ⟨#[]⟩, .int .i64 0, .int .i64 K] 37)).drewN nq
  clear c0 c1 hg1 hB hR
  generalize ((w2.alloc (.cells #[.int .u8 0, .string ⟨#[]⟩, .int .i64 0, .int .i64 K] 37)).drewN nq) = w3 at hg3 hB3 hT3 hR3 ⊢
  have hz2 : w.heap.size < w2.heap.size := by omega
  have hz3 := hT3.lt
  go_wp2_with fail
  refine (digit_any _ hx _).mono ?_
  rintro e w4 ⟨rfl, rfl⟩
  rw [HD.out]
  go_wp2_with fail
  refine (h0.out _).mono ?_
  rintro e w4 ⟨rfl, hw4⟩
  subst hw4
  generalize Lib.indexByte [123, 125, 40, 41, 59, 58, 44, 46] s[K].toNat.toUInt8 = ix at h2 ⊢
  obtain ⟨⟨g0, g1, g2, g3⟩, g4, g5, g6, g7⟩ := hB3.facts
  obtain ⟨⟨t0, t1, t2, t3⟩, t4, t5, t6, t7⟩ := hT3.facts
  have c0 := hR3.c0
  have c1 := hR3.c1
  have f1 := hR3.f1
  have h2n : ¬ 0 ≤ ix := by omega
  go_wp2_with fail
  go_quiet ((go_at_call 54; go_must (first | exact calls_q HC.out | exact Calls.quiet_of_same (HC.out _))))
  go_wp2_with fail
  (try simp only [Exit.inBlock, Exit.then])
  refine bodyPost_ret (v := .tuple #[(⟨3, Tk.arrow, 0, K⟩ : Tk.Tok).val, .bool true, .int .i64 0]) ?_ rfl ⟨rfl, ?_, K + 2, ?_, fun _ => rfl⟩
  · rw [results_cell_tmp2 rfl]
    go_simp
    try rfl
  · refine grown_set_new ?_ (by omega) 3 _
    refine grown_set_new ?_ (by omega) 2 _
    refine grown_set_new ?_ (by omega) 1 _
    refine grown_set_new ?_ (by omega) 0 _
    refine grown_trans ?_ (grown_set _ _ _ _)
    refine grown_set_new ?_ (by omega) 1 _
    refine grown_set_new ?_ (by omega) 0 _
    refine grown_trans ?_ (grown_drewN _ _ _)
    exact hg3
  · rw [show ((K : Int) + 2) = ((K + 2 : Nat) : Int) from by simp]
    refine Tk.Rd.other ?_ (by omega) 3 _
    refine Tk.Rd.other ?_ (by omega) 2 _
    refine Tk.Rd.other ?_ (by omega) 1 _
    refine Tk.Rd.other ?_ (by omega) 0 _
    refine Tk.Rd.set (k := K) ?_ (K + 2)
    refine Tk.Rd.other ?_ (by omega) 1 _
    refine Tk.Rd.other ?_ (by omega) 0 _
    refine Tk.Rd.drewN ?_ _
    exact hR3
set_option maxRecDepth 100000 in
set_option maxHeartbeats 4000000 in
theorem next_other (s : ByteArray) (hs : s.size ≤ 65536) (b k K : Nat) (hk : k ≤ s.size) (hK : Tk.gapEnd false s k = K) (hKs : K < s.size) (hL : Tk.isLetter s[K].toNat = false) (hD : Tk.isDigit s[K].toNat = false) (hS : Tk.isSign s[K].toNat = false) (hA : ¬ (s[K].toNat = 45 ∧ K + 1 < s.size ∧ Tk.byte s (K + 1) = 62)) (w : World) (h : Tk.Rd w b s k) :
    Calls Tryd.prog 25 #[.pointer (some ⟨b, 0, none⟩)] w (Tk.Next s k b w ⟨0, Tk.empty, 0, K⟩ false 110 K) := by
  have hx : s[K].toNat < 256 := s[K].toNat_lt
  have HK := Lib.hid hK
  have HL := Lib.hid hL
  clear hK hL
  have hlt := h.lt
  have hKi : (K : Int) < (s.size : Int) := by omega
  have tK : ((K : Int) == (s.size : Int)) = false := by simp; omega
  have HD := Lib.hid hD
  clear hD
  have h0 := Lib.hid (calls_val (Tryd.strings_IndexByte Tk.signs s[K].toNat) (v' := .int .i64 (Lib.indexByte [123, 125, 40, 41, 59, 58, 44, 46] s[K].toNat.toUInt8)) rfl)
  have h1 := Tk.sign_ix s[K].toNat hx
  have hp := (Tk.prefix_arrow hKs).trans (decide_eq_false hA)
  have HC := Lib.hid (calls_val (Tryd.strings_HasPrefix (s.extract K s.size) ⟨#[45, 62]⟩) (v' := .bool false) (by rw [Tk.extract_list, hp]))
  clear hp
  have h2 : Lib.indexByte [123, 125, 40, 41, 59, 58, 44, 46] s[K].toNat.toUInt8 < 0 := by
    have := mt h1.2 (by rw [hS]; simp)
    omega
  clear h1 hS
  clear hA
  go_enter Tryd.func25, Tryd.ntmps25
  go_wp2_with fail
  refine (skip_any s (by unfold maxLen; omega) b k hk _ (h.below (((Below.refl _ _).alloc (Nat.le_refl _) _)))).mono ?_
  rintro e w1 ⟨rfl, hg1, hR⟩
  rw [HK.out] at hR
  have hB := (Tk.Blk.new w _ _ _ _).grown hg1 (by intro e; cases e; omega)
  have hz1 : w.heap.size + 1 ≤ w1.heap.size := by have := hg1.size; simp at this; omega
  have c0 := hR.c0
  have c1 := hR.c1
  go_wp2_with fail
  go_quiet (fail)
  clear c0 c1
  replace hg1 := grown_trans (World.grownBy_alloc _ _ _) (grown_trans hg1 (grown_drewN _ nq _))
  replace hB := hB.grown (grown_drewN _ nq none) (by simp)
  replace hR := hR.drewN nq
  have hz1' : w.heap.size + 1 ≤ (w1.drewN nq).heap.size := hz1
  clear hz1
  generalize w1.drewN nq = w2 at hg1 hB hR hz1' ⊢
  have hbl := hR.lt
  have c0 := hR.c0
  have c1 := hR.c1
  go_wp2_with fail
  go_quiet (fail)
  go_wp2_with fail
  refine (letter_any _ hx _).mono ?_
  rintro e w3 ⟨rfl, rfl⟩
  rw [HL.out]
  have hg3 : w.grownBy ((w2.alloc (.cells #[.int .u8 0, .string ⟨#[]⟩, .int .i64 0, .int .i64 K] 37)).drewN nq) (some b) := grown_trans (grown_trans hg1 (World.grownBy_alloc _ _ _)) (grown_drewN _ _ _)
  have hB3 := (hB.grown (World.grownBy_alloc w2 (.cells #[.int .u8 0, .string ⟨#[]⟩, .int .i64 0, .int .i64 K] 37) none) (by simp)).grown (grown_drewN _ nq none) (by simp)
  have hT3 := (Tk.Blk.new w2 (.int .u8 0) (.string ⟨#[]⟩) (.int .i64 0) (.int .i64 K)).grown (grown_drewN _ nq none) (by simp)
  have hR3 := (hR.alloc (.cells #[.int .u8 0, .string ⟨#[]⟩, .int .i64 0, .int .i64 K] 37)).drewN nq
  clear c0 c1 hg1 hB hR
  generalize ((w2.alloc (.cells #[.int .u8 0, .string ⟨#[]⟩, .int .i64 0, .int .i64 K] 37)).drewN nq) = w3 at hg3 hB3 hT3 hR3 ⊢
  have hz2 : w.heap.size < w2.heap.size := by omega
  have hz3 := hT3.lt
  go_wp2_with fail
  refine (digit_any _ hx _).mono ?_
  rintro e w4 ⟨rfl, rfl⟩
  rw [HD.out]
  go_wp2_with fail
  refine (h0.out _).mono ?_
  rintro e w4 ⟨rfl, hw4⟩
  subst hw4
  generalize Lib.indexByte [123, 125, 40, 41, 59, 58, 44, 46] s[K].toNat.toUInt8 = ix at h2 ⊢
  obtain ⟨⟨g0, g1, g2, g3⟩, g4, g5, g6, g7⟩ := hB3.facts
  obtain ⟨⟨t0, t1, t2, t3⟩, t4, t5, t6, t7⟩ := hT3.facts
  have c0 := hR3.c0
  have c1 := hR3.c1
  have f1 := hR3.f1
  have h2n : ¬ 0 ≤ ix := by omega
  go_wp2_with fail
  go_quiet ((go_at_call 54; go_must (first | exact calls_q HC.out | exact Calls.quiet_of_same (HC.out _))))
  go_wp2_with fail
  (try simp only [Exit.inBlock, Exit.then])
  refine bodyPost_ret (v := .tuple #[(⟨0, Tk.empty, 0, K⟩ : Tk.Tok).val, .bool false, .int .i64 110]) ?_ rfl ⟨rfl, ?_, K, ?_, fun _ => rfl⟩
  · rw [results_cell_tmp2 rfl]
    go_simp
    try rfl
  · refine grown_set_new ?_ (by omega) 3 _
    refine grown_set_new ?_ (by omega) 2 _
    refine grown_set_new ?_ (by omega) 1 _
    refine grown_set_new ?_ (by omega) 0 _
    refine grown_trans ?_ (grown_drewN _ _ _)
    exact hg3
  · refine Tk.Rd.other ?_ (by omega) 3 _
    refine Tk.Rd.other ?_ (by omega) 2 _
    refine Tk.Rd.other ?_ (by omega) 1 _
    refine Tk.Rd.other ?_ (by omega) 0 _
    refine Tk.Rd.drewN ?_ _
    exact hR3
end Go.Proofs.YtoomlpalkinipaaDoor
