/- (*token.reader).next: the text's end; a word. -/
import Derived.Test.YtoomlpalkinipaaDoorTokRun
import Derived.Laws.ResultCell
set_option linter.unusedVariables false
namespace Go.Proofs.YtoomlpalkinipaaDoor
open Go.RowKit
theorem grown_set_new {w w' : World} {r : Option Nat} (h : w.grownBy w' r) {g : Nat} (hg : w.heap.size ≤ g) (j : Nat) (v : Value) : w.grownBy (w'.setCell ⟨g, j, none⟩ v) r :=
  ⟨h.os, h.tape, h.output, by simpa using h.size, fun k hk hne => (Below.heap_setCell _ _ _ _ (by intro e; have : g = k := e.symm; omega)).trans (h.block k hk hne)⟩
theorem results_cell_tmp2 {fn : Func} {p u v : Tmp} {ty : TypeId} (h : fn.results = #[.cell p ty, .tmp u, .tmp v]) (tmps : Array Value) (P : Program) (w : World) :
    (results fn tmps).run P w =
      ((asAddr (tmps.getD p undef)).run P w).andThen fun a w₁ => ((loadVar ty a).run P w₁).andThen fun x w₂ => .ok (.tuple #[x, tmps.getD u undef, tmps.getD v undef]) w₂ := by
  simp only [results, h]
  simp [Sem.run_bind, Result.andThen]
namespace Tk
/-- A token's block. -/
def Blk (w : World) (g : Nat) (c0 c1 c2 c3 : Value) : Prop := w.heap[g]? = some (.cells #[c0, c1, c2, c3] 37 (0, 0))
theorem Blk.facts {w : World} {g : Nat} {c0 c1 c2 c3 : Value} (h : Blk w g c0 c1 c2 c3) :
    (w.cell? ⟨g, 0, none⟩ = some c0 ∧ w.cell? ⟨g, 1, none⟩ = some c1 ∧ w.cell? ⟨g, 2, none⟩ = some c2 ∧ w.cell? ⟨g, 3, none⟩ = some c3) ∧ (w.frozen? ⟨g, 0, none⟩ = false ∧ w.frozen? ⟨g, 1, none⟩ = false ∧ w.frozen? ⟨g, 2, none⟩ = false ∧ w.frozen? ⟨g, 3, none⟩ = false) :=
  ⟨⟨cell_of_row w g 0 _ _ _ h, cell_of_row w g 1 _ _ _ h, cell_of_row w g 2 _ _ _ h, cell_of_row w g 3 _ _ _ h⟩, frozen_of_row w g 0 _ _ h, frozen_of_row w g 1 _ _ h, frozen_of_row w g 2 _ _ h, frozen_of_row w g 3 _ _ h⟩
theorem Blk.lt {w : World} {g : Nat} {c0 c1 c2 c3 : Value} (h : Blk w g c0 c1 c2 c3) : g < w.heap.size := lt_of_block h
theorem Blk.grown {w w' : World} {g : Nat} {c0 c1 c2 c3 : Value} (h : Blk w g c0 c1 c2 c3) {r : Option Nat} (hg : w.grownBy w' r) (hne : some g ≠ r) : Blk w' g c0 c1 c2 c3 := by
  unfold Blk; rw [hg.block g h.lt hne]; exact h
theorem Blk.new (w : World) (c0 c1 c2 c3 : Value) : Blk (w.alloc (.cells #[c0, c1, c2, c3] 37)) w.heap.size c0 c1 c2 c3 := heap_alloc_new w _
theorem Rd.other {w : World} {b : Nat} {s : ByteArray} {k : Nat} (h : Rd w b s k) {g : Nat} (hne : g ≠ b) (j : Nat) (v : Value) : Rd (w.setCell ⟨g, j, none⟩ v) b s k := by
  unfold Rd; rw [Below.heap_setCell _ _ _ _ (by intro e; exact hne e.symm)]; exact h
theorem Rd.alloc {w : World} {b : Nat} {s : ByteArray} {k : Nat} (h : Rd w b s k) (o : Obj) : Rd (w.alloc o) b s k :=
  h.below ((Below.refl _ _).alloc (Nat.le_refl _) _)
/-- What next does. -/
def Next (s : ByteArray) (k b : Nat) (w : World) (t : Tok) (ok : Bool) (er : Nat) (k2 : Nat) (e : Ending) (w' : World) : Prop :=
  e = .returned (.tuple #[t.val, .bool ok, .int .i64 er]) ∧ w.grownBy w' (some b) ∧ ∃ k', Rd w' b s k' ∧ (er = 0 → k' = k2)
end Tk
set_option maxRecDepth 100000 in
set_option maxHeartbeats 4000000 in
theorem next_end (s : ByteArray) (hs : s.size ≤ 65536) (b k : Nat) (hk : k ≤ s.size) (hK : Tk.gapEnd false s k = s.size) (w : World) (h : Tk.Rd w b s k) :
    Calls Tryd.prog 25 #[.pointer (some ⟨b, 0, none⟩)] w (Tk.Next s k b w ⟨0, Tk.empty, 0, 0⟩ false 0 s.size) := by
  have HK := Lib.hid hK
  clear hK
  have hlt := h.lt
  go_enter Tryd.func25, Tryd.ntmps25
  go_wp2_with fail
  refine (skip_any s (by unfold maxLen; omega) b k hk _ (h.below (((Below.refl _ _).alloc (Nat.le_refl _) _)))).mono ?_
  rintro e w1 ⟨rfl, hg1, hR⟩
  rw [HK.out] at hR
  obtain ⟨⟨g0, g1, g2, g3⟩, g4, g5, g6, g7⟩ := ((Tk.Blk.new w _ _ _ _).grown hg1 (by intro e; cases e; omega)).facts
  have c0 := hR.c0
  have c1 := hR.c1
  go_wp2_with fail
  go_quiet (fail)
  go_wp2_with fail
  (try simp only [Exit.inBlock, Exit.then])
  refine bodyPost_ret (v := .tuple #[(⟨0, Tk.empty, 0, 0⟩ : Tk.Tok).val, .bool false, .int .i64 0]) ?_ rfl ⟨rfl, ?_, _, ?_, fun _ => rfl⟩
  · rw [results_cell_tmp2 rfl]
    go_simp
    try rfl
  · repeat (first | with_reducible exact grown_refl _ _ | refine grown_set_new ?_ (by omega) _ _ | refine grown_trans ?_ (grown_drewN _ _ _) | refine grown_trans ?_ hg1 | refine grown_trans ?_ (World.grownBy_alloc _ _ _))
  · repeat (first | exact hR | refine Tk.Rd.other ?_ (by omega) _ _ | refine Tk.Rd.drewN ?_ _)
set_option maxRecDepth 100000 in
set_option maxHeartbeats 4000000 in
theorem next_word (s : ByteArray) (hs : s.size ≤ 65536) (b k K : Nat) (hk : k ≤ s.size) (hK : Tk.gapEnd false s k = K) (hKs : K < s.size) (hL : Tk.isLetter s[K].toNat = true) (ok : Bool) (er : Nat) (hov : ok = decide (Tk.runEnd Tk.isInner s (K + 1) - K ≤ 32) ∧ er = Tk.over 32 (Tk.runEnd Tk.isInner s (K + 1) - K)) (w : World) (h : Tk.Rd w b s k) :
    Calls Tryd.prog 25 #[.pointer (some ⟨b, 0, none⟩)] w (Tk.Next s k b w ⟨1, s.extract K (Tk.runEnd Tk.isInner s (K + 1)), 0, K⟩ ok er (Tk.runEnd Tk.isInner s (K + 1))) := by
  have hx : s[K].toNat < 256 := s[K].toNat_lt
  have HK := Lib.hid hK
  have HL := Lib.hid hL
  have HOV := Lib.hid hov
  have HN : Hid (Tk.runEnd Tk.isInner s K = Tk.runEnd Tk.isInner s (K + 1)) := Lib.hid (Tk.runEnd_on hKs (by unfold Tk.isInner; rw [hL]; rfl))
  have hge := Tk.runEnd_ge Tk.isInner s (K + 1)
  have hle := Tk.runEnd_le (p := Tk.isInner) (s := s) (k := K + 1) (by omega)
  clear hK hL hov
  have hlt := h.lt
  have hKi : (K : Int) < (s.size : Int) := by omega
  have tK : ((K : Int) == (s.size : Int)) = false := by simp; omega
  go_enter Tryd.func25, Tryd.ntmps25
  go_wp2_with fail
  refine (skip_any s (by unfold maxLen; omega) b k hk _ (h.below (((Below.refl _ _).alloc (Nat.le_refl _) _)))).mono ?_
  rintro e w1 ⟨rfl, hg1, hR⟩
  rw [HK.out] at hR
  have hB := (Tk.Blk.new w _ _ _ _).grown hg1 (by intro e; cases e; omega)
  have hz1 : w.heap.size + 1 ≤ w1.heap.size := by have := hg1.size; simp at this; omega
  have c0 := hR.c0
  have c1 := hR.c1
  go_wp2_with fail
  go_quiet (fail)
  clear c0 c1
  replace hg1 := grown_trans (World.grownBy_alloc _ _ _) (grown_trans hg1 (grown_drewN _ nq _))
  replace hB := hB.grown (grown_drewN _ nq none) (by simp)
  replace hR := hR.drewN nq
  have hz1' : w.heap.size + 1 ≤ (w1.drewN nq).heap.size := hz1
  clear hz1
  generalize w1.drewN nq = w2 at hg1 hB hR hz1' ⊢
  have hbl := hR.lt
  have c0 := hR.c0
  have c1 := hR.c1
  go_wp2_with fail
  go_quiet (fail)
  go_wp2_with fail
  refine (letter_any _ hx _).mono ?_
  rintro e w2 ⟨rfl, rfl⟩
  rw [HL.out]
  have hg3 : w.grownBy ((w2.alloc (.cells #[.int .u8 0, .string ⟨#[]⟩, .int .i64 0, .int .i64 K] 37)).drewN nq) (some b) := grown_trans (grown_trans hg1 (World.grownBy_alloc _ _ _)) (grown_drewN _ _ _)
  have hB3 := (hB.grown (World.grownBy_alloc w2 (.cells #[.int .u8 0, .string ⟨#[]⟩, .int .i64 0, .int .i64 K] 37) none) (by simp)).grown (grown_drewN _ nq none) (by simp)
  have hT3 := (Tk.Blk.new w2 (.int .u8 0) (.string ⟨#[]⟩) (.int .i64 0) (.int .i64 K)).grown (grown_drewN _ nq none) (by simp)
  have hR3 := (hR.alloc (.cells #[.int .u8 0, .string ⟨#[]⟩, .int .i64 0, .int .i64 K] 37)).drewN nq
  clear c0 c1 hg1 hB hR
  generalize ((w2.alloc (.cells #[.int .u8 0, .string ⟨#[]⟩, .int .i64 0, .int .i64 K] 37)).drewN nq) = w3 at hg3 hB3 hT3 hR3 ⊢
  go_wp2_with fail
  refine (run_inner s (by unfold maxLen; omega) b K (by omega) _ hR3).mono ?_
  rintro e w4 ⟨rfl, hg4, hR4⟩
  rw [HN.out] at hR4 ⊢
  have hB4 := hB3.grown hg4 (by intro e; cases e; omega)
  have hT4 := hT3.grown hg4 (by intro e; cases e; omega)
  obtain ⟨⟨g0, g1, g2, g3⟩, g4, g5, g6, g7⟩ := hB4.facts
  obtain ⟨⟨t0, t1, t2, t3⟩, t4, t5, t6, t7⟩ := hT4.facts
  have hz2 : w.heap.size < w2.heap.size := by omega
  generalize Tk.runEnd Tk.isInner s (K + 1) = E at *
  have hki : (K : Int) ≤ (E : Int) := by omega
  by_cases h32 : 32 < E - K
  · have h32i : (32 : Int) < (E : Int) - (K : Int) := by omega
    go_wp2_with fail
    (try simp only [Exit.inBlock, Exit.then])
    refine bodyPost_ret (v := .tuple #[(⟨1, s.extract K E, 0, K⟩ : Tk.Tok).val, .bool false, .int .i64 3]) ?_ rfl ⟨?_, by exact grown_set_new (grown_set_new (grown_set_new (grown_set_new (grown_set_new (grown_set_new (grown_trans hg3 hg4) (by omega) 0 _) (by omega) 1 _) (by omega) 0 _) (by omega) 1 _) (by omega) 2 _) (by omega) 3 _, E, by exact (((((hR4.other (by omega) 0 _).other (by omega) 1 _).other (by omega) 0 _).other (by omega) 1 _).other (by omega) 2 _).other (by omega) 3 _, fun _ => rfl⟩
    · rw [results_cell_tmp2 rfl]
      go_simp
      try rfl
    · rw [HOV.out.1, HOV.out.2]
      unfold Tk.over
      rw [if_pos h32, decide_eq_false (by omega)]
      rfl
  · have h32i : ¬ (32 : Int) < (E : Int) - (K : Int) := by omega
    go_wp2_with fail
    (try simp only [Exit.inBlock, Exit.then])
    refine bodyPost_ret (v := .tuple #[(⟨1, s.extract K E, 0, K⟩ : Tk.Tok).val, .bool true, .int .i64 0]) ?_ rfl ⟨?_, by exact grown_set_new (grown_set_new (grown_set_new (grown_set_new (grown_set_new (grown_set_new (grown_trans hg3 hg4) (by omega) 0 _) (by omega) 1 _) (by omega) 0 _) (by omega) 1 _) (by omega) 2 _) (by omega) 3 _, E, by exact (((((hR4.other (by omega) 0 _).other (by omega) 1 _).other (by omega) 0 _).other (by omega) 1 _).other (by omega) 2 _).other (by omega) 3 _, fun _ => rfl⟩
    · rw [results_cell_tmp2 rfl]
      go_simp
      try rfl
    · rw [HOV.out.1, HOV.out.2]
      unfold Tk.over
      rw [if_neg h32, decide_eq_true (by omega)]
      rfl
end Go.Proofs.YtoomlpalkinipaaDoor
