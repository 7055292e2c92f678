import Derived.Test.YtoomlpalkinipaaDoorTokNextC
set_option linter.unusedVariables false
namespace Go.Proofs.YtoomlpalkinipaaDoor
open Go.RowKit
namespace Tk
def signs : ByteArray := ⟨#[123, 125, 40, 41, 59, 58, 44, 46]⟩
theorem sign_ix : ∀ x, x < 256 → (isSign x = true ↔ 0 ≤ Lib.indexByte [123, 125, 40, 41, 59, 58, 44, 46] x.toUInt8) := by decide +kernel
theorem prefix_arrow {s : ByteArray} {k : Nat} (h : k < s.size) : Lib.hasPrefix (from_ s k) [45, 62] = decide (s[k].toNat = 45 ∧ k + 1 < s.size ∧ byte s (k + 1) = 62) := by
  rw [Bool.eq_iff_iff, prefix2 45 62 h, decide_eq_true_iff]
  constructor
  · rintro ⟨h1, h2, h3⟩; exact ⟨by rw [h1]; rfl, h2, by rw [byte_eq h2, h3]; rfl⟩
  · rintro ⟨h1, h2, h3⟩; exact ⟨UInt8.toNat_inj.1 h1, h2, UInt8.toNat_inj.1 (by rw [byte_eq h2] at h3; exact h3)⟩
end Tk
set_option maxRecDepth 100000 in
set_option maxHeartbeats 4000000 in
theorem next_sign (s : ByteArray) (hs : s.size ≤ 65536) (b k K : Nat) (hk : k ≤ s.size) (hK : Tk.gapEnd false s k = K) (hKs : K < s.size) (hL : Tk.isLetter s[K].toNat = false) (hD : Tk.isDigit s[K].toNat = false) (hS : Tk.isSign s[K].toNat = true) (w : World) (h : Tk.Rd w b s k) :
    Calls Tryd.prog 25 #[.pointer (some ⟨b, 0, none⟩)] w (Tk.Next s k b w ⟨3, s.extract K (K + 1), 0, K⟩ true 0 (K + 1)) := by
  have hx : s[K].toNat < 256 := s[K].toNat_lt
  have HK := Lib.hid hK
  have HL := Lib.hid hL
  clear hK hL
  have hlt := h.lt
  have hKi : (K : Int) < (s.size : Int) := by omega
  have tK : ((K : Int) == (s.size : Int)) = false := by simp; omega
  have HD := Lib.hid hD
  clear hD
  have h0 := Lib.hid (calls_val (Tryd.strings_IndexByte Tk.signs s[K].toNat) (v' := .int .i64 (Lib.indexByte [123, 125, 40, 41, 59, 58, 44, 46] s[K].toNat.toUInt8)) rfl)
  have h1 := Tk.sign_ix s[K].toNat hx
  have h2 := h1.1 hS
  clear h1 hS
  go_enter Tryd.func25, Tryd.ntmps25
  go_wp2_with fail
  refine (skip_any s (by unfold maxLen; omega) b k hk _ (h.below (((Below.refl _ _).alloc (Nat.le_refl _) _)))).mono ?_
  rintro e w1 ⟨rfl, hg1, hR⟩
  rw [HK.out] at hR
  have hB := (Tk.Blk.new w _ _ _ _).grown hg1 (by intro e; cases e; omega)
  have hz1 : w.heap.size + 1 ≤ w1.heap.size := by have := hg1.size; simp at this; omega
  have c0 := hR.c0
  have c1 := hR.c1
  go_wp2_with fail
  go_quiet (fail)
  clear c0 c1
  replace hg1 := grown_trans (World.grownBy_alloc _ _ _) (grown_trans hg1 (grown_drewN _ nq _))
  replace hB := hB.grown (grown_drewN _ nq none) (by simp)
  replace hR := hR.drewN nq
  have hz1' : w.heap.size + 1 ≤ (w1.drewN nq).heap.size := hz1
  clear hz1
  generalize w1.drewN nq = w2 at hg1 hB hR hz1' ⊢
  have hbl := hR.lt
  have c0 := hR.c0
  have c1 := hR.c1
  go_wp2_with fail
  go_quiet (fail)
  go_wp2_with fail
  refine (letter_any _ hx _).mono ?_
  rintro e w3 ⟨rfl, rfl⟩
  rw [HL.out]
  have hg3 : w.grownBy ((w2.alloc (.cells #[.int .u8 0, .string ⟨#[]⟩, .int .i64 0, .int .i64 K] 37)).drewN nq) (some b) := grown_trans (grown_trans hg1 (World.grownBy_alloc _ _ _)) (grown_drewN _ _ _)
  have hB3 := (hB.grown (World.grownBy_alloc w2 (.cells #[.int .u8 0, .string ⟨#[]⟩, .int .i64 0, .int .i64 K] 37) none) (by simp)).grown (grown_drewN _ nq none) (by simp)
  have hT3 := (Tk.Blk.new w2 (.int .u8 0) (.string ⟨#[]⟩) (.int .i64 0) (.int .i64 K)).grown (grown_drewN _ nq none) (by simp)
  have hR3 := (hR.alloc (.cells #[.int .u8 0, .string ⟨#[]⟩, .int .i64 0, .int .i64 K] 37)).drewN nq
  clear c0 c1 hg1 hB hR
  generalize ((w2.alloc (.cells #[.int .u8 0, .string ⟨#[]⟩, .int .i64 0, .int .i64 K] 37)).drewN nq) = w3 at hg3 hB3 hT3 hR3 ⊢
  have hz2 : w.heap.size < w2.heap.size := by omega
  have hz3 := hT3.lt
  go_wp2_with fail
  refine (digit_any _ hx _).mono ?_
  rintro e w4 ⟨rfl, rfl⟩
  rw [HD.out]
  go_wp2_with fail
  refine (h0.out _).mono ?_
  rintro e w4 ⟨rfl, hw4⟩
  subst hw4
  generalize Lib.indexByte [123, 125, 40, 41, 59, 58, 44, 46] s[K].toNat.toUInt8 = ix at h2 ⊢
  obtain ⟨⟨g0, g1, g2, g3⟩, g4, g5, g6, g7⟩ := hB3.facts
  obtain ⟨⟨t0, t1, t2, t3⟩, t4, t5, t6, t7⟩ := hT3.facts
  have c0 := hR3.c0
  have c1 := hR3.c1
  have f1 := hR3.f1
  have hbl3 : b ≠ w2.heap.size := by omega
  have hK1 : (K : Int) + 1 ≤ (s.size : Int) := by omega
  go_wp2_with fail
  go_region
  all_goals
    go_wp2_with fail
    (try simp only [Exit.inBlock, Exit.then])
    refine bodyPost_ret (v := .tuple #[(⟨3, s.extract K (K + 1), 0, K⟩ : Tk.Tok).val, .bool true, .int .i64 0]) ?_ rfl ⟨rfl, ?_, K + 1, ?_, fun _ => rfl⟩
    · rw [results_cell_tmp2 rfl]
      go_simp
      try rfl
    · refine grown_trans ?_ (grown_drew _ _)
      refine grown_set_new ?_ (by omega) 3 _
      refine grown_set_new ?_ (by omega) 2 _
      refine grown_set_new ?_ (by omega) 1 _
      refine grown_set_new ?_ (by omega) 0 _
      refine grown_trans ?_ (grown_set _ _ _ _)
      refine grown_set_new ?_ (by omega) 1 _
      refine grown_set_new ?_ (by omega) 0 _
      exact hg3
    · have e1 : ((K : Int) + 1) = ((K + 1 : Nat) : Int) := by simp
      rw [e1]
      refine Tk.Rd.drew ?_
      refine Tk.Rd.other ?_ (by omega) 3 _
      refine Tk.Rd.other ?_ (by omega) 2 _
      refine Tk.Rd.other ?_ (by omega) 1 _
      refine Tk.Rd.other ?_ (by omega) 0 _
      refine Tk.Rd.set (k := K) ?_ (K + 1)
      refine Tk.Rd.other ?_ (by omega) 1 _
      refine Tk.Rd.other ?_ (by omega) 0 _
      exact hR3
end Go.Proofs.YtoomlpalkinipaaDoor
