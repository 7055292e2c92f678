import Derived.Test.YtoomlpalkinipaaDoorTokNextA
set_option linter.unusedVariables false
namespace Go.Proofs.YtoomlpalkinipaaDoor
open Go.RowKit
set_option maxRecDepth 100000 in
set_option maxHeartbeats 4000000 in
theorem next_long (s : ByteArray) (hs : s.size ≤ 65536) (b k K : Nat) (hk : k ≤ s.size) (hK : Tk.gapEnd false s k = K) (hKs : K < s.size) (hL : Tk.isLetter s[K].toNat = false) (hD : Tk.isDigit s[K].toNat = true) (E : Nat) (hE : Tk.runEnd Tk.isDigit s (K + 1) = E) (h9 : 9 < E - K) (w : World) (h : Tk.Rd w b s k) :
    Calls Tryd.prog 25 #[.pointer (some ⟨b, 0, none⟩)] w (Tk.Next s k b w ⟨2, s.extract K E, 0, K⟩ false 3 E) := by
  have hx : s[K].toNat < 256 := s[K].toNat_lt
  have HK := Lib.hid hK
  have HL := Lib.hid hL
  clear hK hL
  have hlt := h.lt
  have hKi : (K : Int) < (s.size : Int) := by omega
  have tK : ((K : Int) == (s.size : Int)) = false := by simp; omega
  have HD := Lib.hid hD
  have HE := Lib.hid hE
  have HN : Hid (Tk.runEnd Tk.isDigit s K = E) := Lib.hid ((Tk.runEnd_on hKs hD).trans hE)
  have hge : K + 1 ≤ E := hE ▸ Tk.runEnd_ge Tk.isDigit s (K + 1)
  have hle : E ≤ s.size := hE ▸ Tk.runEnd_le (p := Tk.isDigit) (s := s) (k := K + 1) (by omega)
  have HG : Hid (∀ m, K ≤ m → m < E → ∀ h : m < s.size, Tk.isDigit s[m].toNat = true) := by
    apply Lib.hid
    intro m h1 h2 h3
    by_cases hmk : m = K
    · subst hmk; exact hD
    · exact Tk.runEnd_get (k := K + 1) (by omega) (by rw [hE]; exact h2) h3
  clear hD hE
  have hki : (K : Int) ≤ (E : Int) := by omega
  have h9i : (9 : Int) < (E : Int) - (K : Int) := by omega
  go_enter Tryd.func25, Tryd.ntmps25
  go_wp2_with fail
  refine (skip_any s (by unfold maxLen; omega) b k hk _ (h.below (((Below.refl _ _).alloc (Nat.le_refl _) _)))).mono ?_
  rintro e w1 ⟨rfl, hg1, hR⟩
  rw [HK.out] at hR
  have hB := (Tk.Blk.new w _ _ _ _).grown hg1 (by intro e; cases e; omega)
  have hz1 : w.heap.size + 1 ≤ w1.heap.size := by have := hg1.size; simp at this; omega
  have c0 := hR.c0
  have c1 := hR.c1
  go_wp2_with fail
  go_quiet (fail)
  clear c0 c1
  replace hg1 := grown_trans (World.grownBy_alloc _ _ _) (grown_trans hg1 (grown_drewN _ nq _))
  replace hB := hB.grown (grown_drewN _ nq none) (by simp)
  replace hR := hR.drewN nq
  have hz1' : w.heap.size + 1 ≤ (w1.drewN nq).heap.size := hz1
  clear hz1
  generalize w1.drewN nq = w2 at hg1 hB hR hz1' ⊢
  have hbl := hR.lt
  have c0 := hR.c0
  have c1 := hR.c1
  go_wp2_with fail
  go_quiet (fail)
  go_wp2_with fail
  refine (letter_any _ hx _).mono ?_
  rintro e w3 ⟨rfl, rfl⟩
  rw [HL.out]
  have hg3 : w.grownBy ((w2.alloc (.cells #[.int .u8 0, .string ⟨#[]⟩, .int .i64 0, .int .i64 K] 37)).drewN nq) (some b) := grown_trans (grown_trans hg1 (World.grownBy_alloc _ _ _)) (grown_drewN _ _ _)
  have hB3 := (hB.grown (World.grownBy_alloc w2 (.cells #[.int .u8 0, .string ⟨#[]⟩, .int .i64 0, .int .i64 K] 37) none) (by simp)).grown (grown_drewN _ nq none) (by simp)
  have hT3 := (Tk.Blk.new w2 (.int .u8 0) (.string ⟨#[]⟩) (.int .i64 0) (.int .i64 K)).grown (grown_drewN _ nq none) (by simp)
  have hR3 := (hR.alloc (.cells #[.int .u8 0, .string ⟨#[]⟩, .int .i64 0, .int .i64 K] 37)).drewN nq
  clear c0 c1 hg1 hB hR
  generalize ((w2.alloc (.cells #[.int .u8 0, .string ⟨#[]⟩, .int .i64 0, .int .i64 K] 37)).drewN nq) = w3 at hg3 hB3 hT3 hR3 ⊢
  have hz2 : w.heap.size < w2.heap.size := by omega
  have hz3 := hT3.lt
  go_wp2_with fail
  refine (digit_any _ hx _).mono ?_
  rintro e w4 ⟨rfl, rfl⟩
  rw [HD.out]
  go_wp2_with fail
  refine (run_digit s (by unfold maxLen; omega) b K (by omega) _ hR3).mono ?_
  rintro e w4 ⟨rfl, hg4, hR4⟩
  rw [HN.out] at hR4 ⊢
  have hB4 := hB3.grown hg4 (by intro e; cases e; omega)
  have hT4 := hT3.grown hg4 (by intro e; cases e; omega)
  obtain ⟨⟨g0, g1, g2, g3⟩, g4, g5, g6, g7⟩ := hB4.facts
  obtain ⟨⟨t0, t1, t2, t3⟩, t4, t5, t6, t7⟩ := hT4.facts
  have hz4 := hT4.lt
  go_wp2_with fail
  (try simp only [Exit.inBlock, Exit.then])
  refine bodyPost_ret (v := .tuple #[(⟨2, s.extract K E, 0, K⟩ : Tk.Tok).val, .bool false, .int .i64 3]) ?_ rfl ⟨rfl, ?_, E, ?_, fun _ => rfl⟩
  · rw [results_cell_tmp2 rfl]
    go_simp
    try rfl
  · refine grown_set_new ?_ (by omega) 3 _
    refine grown_set_new ?_ (by omega) 2 _
    refine grown_set_new ?_ (by omega) 1 _
    refine grown_set_new ?_ (by omega) 0 _
    refine grown_set_new ?_ (by omega) 1 _
    refine grown_set_new ?_ (by omega) 0 _
    exact grown_trans hg3 hg4
  · refine Tk.Rd.other ?_ (by omega) 3 _
    refine Tk.Rd.other ?_ (by omega) 2 _
    refine Tk.Rd.other ?_ (by omega) 1 _
    refine Tk.Rd.other ?_ (by omega) 0 _
    refine Tk.Rd.other ?_ (by omega) 1 _
    refine Tk.Rd.other ?_ (by omega) 0 _
    exact hR4
set_option maxRecDepth 100000 in
set_option maxHeartbeats 4000000 in
theorem next_nought (s : ByteArray) (hs : s.size ≤ 65536) (b k K : Nat) (hk : k ≤ s.size) (hK : Tk.gapEnd false s k = K) (hKs : K < s.size) (hL : Tk.isLetter s[K].toNat = false) (hD : Tk.isDigit s[K].toNat = true) (E : Nat) (hE : Tk.runEnd Tk.isDigit s (K + 1) = E) (h9 : ¬ 9 < E - K) (h48 : s[K].toNat = 48) (h1 : 1 < E - K) (w : World) (h : Tk.Rd w b s k) :
    Calls Tryd.prog 25 #[.pointer (some ⟨b, 0, none⟩)] w (Tk.Next s k b w ⟨2, s.extract K E, 0, K⟩ false 110 E) := by
  have hx : s[K].toNat < 256 := s[K].toNat_lt
  have HK := Lib.hid hK
  have HL := Lib.hid hL
  clear hK hL
  have hlt := h.lt
  have hKi : (K : Int) < (s.size : Int) := by omega
  have tK : ((K : Int) == (s.size : Int)) = false := by simp; omega
  have HD := Lib.hid hD
  have HE := Lib.hid hE
  have HN : Hid (Tk.runEnd Tk.isDigit s K = E) := Lib.hid ((Tk.runEnd_on hKs hD).trans hE)
  have hge : K + 1 ≤ E := hE ▸ Tk.runEnd_ge Tk.isDigit s (K + 1)
  have hle : E ≤ s.size := hE ▸ Tk.runEnd_le (p := Tk.isDigit) (s := s) (k := K + 1) (by omega)
  have HG : Hid (∀ m, K ≤ m → m < E → ∀ h : m < s.size, Tk.isDigit s[m].toNat = true) := by
    apply Lib.hid
    intro m h1 h2 h3
    by_cases hmk : m = K
    · subst hmk; exact hD
    · exact Tk.runEnd_get (k := K + 1) (by omega) (by rw [hE]; exact h2) h3
  clear hD hE
  have hki : (K : Int) ≤ (E : Int) := by omega
  have h9i : ¬ (9 : Int) < (E : Int) - (K : Int) := by omega
  have h1i : (1 : Int) < (E : Int) - (K : Int) := by omega
  have t48 : ((s[K].toNat : Int) == 48) = true := by simp; omega
  clear h48
  go_enter Tryd.func25, Tryd.ntmps25
  go_wp2_with fail
  refine (skip_any s (by unfold maxLen; omega) b k hk _ (h.below (((Below.refl _ _).alloc (Nat.le_refl _) _)))).mono ?_
  rintro e w1 ⟨rfl, hg1, hR⟩
  rw [HK.out] at hR
  have hB := (Tk.Blk.new w _ _ _ _).grown hg1 (by intro e; cases e; omega)
  have hz1 : w.heap.size + 1 ≤ w1.heap.size := by have := hg1.size; simp at this; omega
  have c0 := hR.c0
  have c1 := hR.c1
  go_wp2_with fail
  go_quiet (fail)
  clear c0 c1
  replace hg1 := grown_trans (World.grownBy_alloc _ _ _) (grown_trans hg1 (grown_drewN _ nq _))
  replace hB := hB.grown (grown_drewN _ nq none) (by simp)
  replace hR := hR.drewN nq
  have hz1' : w.heap.size + 1 ≤ (w1.drewN nq).heap.size := hz1
  clear hz1
  generalize w1.drewN nq = w2 at hg1 hB hR hz1' ⊢
  have hbl := hR.lt
  have c0 := hR.c0
  have c1 := hR.c1
  go_wp2_with fail
  go_quiet (fail)
  go_wp2_with fail
  refine (letter_any _ hx _).mono ?_
  rintro e w3 ⟨rfl, rfl⟩
  rw [HL.out]
  have hg3 : w.grownBy ((w2.alloc (.cells #[.int .u8 0, .string ⟨#[]⟩, .int .i64 0, .int .i64 K] 37)).drewN nq) (some b) := grown_trans (grown_trans hg1 (World.grownBy_alloc _ _ _)) (grown_drewN _ _ _)
  have hB3 := (hB.grown (World.grownBy_alloc w2 (.cells #[.int .u8 0, .string ⟨#[]⟩, .int .i64 0, .int .i64 K] 37) none) (by simp)).grown (grown_drewN _ nq none) (by simp)
  have hT3 := (Tk.Blk.new w2 (.int .u8 0) (.string ⟨#[]⟩) (.int .i64 0) (.int .i64 K)).grown (grown_drewN _ nq none) (by simp)
  have hR3 := (hR.alloc (.cells #[.int .u8 0, .string ⟨#[]⟩, .int .i64 0, .int .i64 K] 37)).drewN nq
  clear c0 c1 hg1 hB hR
  generalize ((w2.alloc (.cells #[.int .u8 0, .string ⟨#[]⟩, .int .i64 0, .int .i64 K] 37)).drewN nq) = w3 at hg3 hB3 hT3 hR3 ⊢
  have hz2 : w.heap.size < w2.heap.size := by omega
  have hz3 := hT3.lt
  go_wp2_with fail
  refine (digit_any _ hx _).mono ?_
  rintro e w4 ⟨rfl, rfl⟩
  rw [HD.out]
  go_wp2_with fail
  refine (run_digit s (by unfold maxLen; omega) b K (by omega) _ hR3).mono ?_
  rintro e w4 ⟨rfl, hg4, hR4⟩
  rw [HN.out] at hR4 ⊢
  have hB4 := hB3.grown hg4 (by intro e; cases e; omega)
  have hT4 := hT3.grown hg4 (by intro e; cases e; omega)
  obtain ⟨⟨g0, g1, g2, g3⟩, g4, g5, g6, g7⟩ := hB4.facts
  obtain ⟨⟨t0, t1, t2, t3⟩, t4, t5, t6, t7⟩ := hT4.facts
  have hz4 := hT4.lt
  go_wp2_with fail
  (try simp only [Exit.inBlock, Exit.then])
  refine bodyPost_ret (v := .tuple #[(⟨2, s.extract K E, 0, K⟩ : Tk.Tok).val, .bool false, .int .i64 110]) ?_ rfl ⟨rfl, ?_, E, ?_, fun _ => rfl⟩
  · rw [results_cell_tmp2 rfl]
    go_simp
    try rfl
  · refine grown_set_new ?_ (by omega) 3 _
    refine grown_set_new ?_ (by omega) 2 _
    refine grown_set_new ?_ (by omega) 1 _
    refine grown_set_new ?_ (by omega) 0 _
    refine grown_set_new ?_ (by omega) 1 _
    refine grown_set_new ?_ (by omega) 0 _
    exact grown_trans hg3 hg4
  · refine Tk.Rd.other ?_ (by omega) 3 _
    refine Tk.Rd.other ?_ (by omega) 2 _
    refine Tk.Rd.other ?_ (by omega) 1 _
    refine Tk.Rd.other ?_ (by omega) 0 _
    refine Tk.Rd.other ?_ (by omega) 1 _
    refine Tk.Rd.other ?_ (by omega) 0 _
    exact hR4
end Go.Proofs.YtoomlpalkinipaaDoor
