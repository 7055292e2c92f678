import Derived.Test.YtoomlpalkinipaaDoorTokNextA
set_option linter.unusedVariables false
namespace Go.Proofs.YtoomlpalkinipaaDoor
open Go.RowKit
namespace Tk
theorem bytesRow_get (t : ByteArray) (cap i : Nat) (h : i < t.size) : (bytesRow t cap)[i]? = some (.int .u8 (byte t i)) := by
  unfold bytesRow
  rw [Array.getElem?_append_left (by simpa using h)]
  rw [Array.getElem?_map]
  have : t.data[i]? = some t.data[i] := Array.getElem?_eq_getElem (by simpa using h)
  rw [this, byte_eq h]
  rfl
theorem byte_extract {s : ByteArray} {K E i : Nat} (hE : E ≤ s.size) (h : K + i < E) : byte (s.extract K E) i = byte s (K + i) := by
  unfold byte
  rw [Lib.extract_data]
  rw [List.getD_eq_getElem?_getD, List.getD_eq_getElem?_getD, List.getElem?_take_of_lt (by omega), List.getElem?_drop]
theorem Blk.set2 {w : World} {g : Nat} {c0 c1 c2 c3 : Value} (h : Blk w g c0 c1 c2 c3) (v : Value) : Blk (w.setCell ⟨g, 2, none⟩ v) g c0 c1 v c3 := by
  have hlt := lt_of_block h
  unfold Blk at h
  have h' : w.heap[g] = .cells #[c0, c1, c2, c3] 37 (0, 0) := by simpa [Array.getElem?_eq_getElem hlt] using h
  show (w.heap.modify g _)[g]? = _
  rw [Array.getElem?_eq_getElem (by simpa using hlt), Array.getElem_modify_self, h']
  rfl
theorem Blk.set0 {w : World} {g : Nat} {c0 c1 c2 c3 : Value} (h : Blk w g c0 c1 c2 c3) (v : Value) : Blk (w.setCell ⟨g, 0, none⟩ v) g v c1 c2 c3 := by
  have hlt := lt_of_block h
  unfold Blk at h
  have h' : w.heap[g] = .cells #[c0, c1, c2, c3] 37 (0, 0) := by simpa [Array.getElem?_eq_getElem hlt] using h
  show (w.heap.modify g _)[g]? = _
  rw [Array.getElem?_eq_getElem (by simpa using hlt), Array.getElem_modify_self, h']
  rfl
theorem Blk.set1 {w : World} {g : Nat} {c0 c1 c2 c3 : Value} (h : Blk w g c0 c1 c2 c3) (v : Value) : Blk (w.setCell ⟨g, 1, none⟩ v) g c0 v c2 c3 := by
  have hlt := lt_of_block h
  unfold Blk at h
  have h' : w.heap[g] = .cells #[c0, c1, c2, c3] 37 (0, 0) := by simpa [Array.getElem?_eq_getElem hlt] using h
  show (w.heap.modify g _)[g]? = _
  rw [Array.getElem?_eq_getElem (by simpa using hlt), Array.getElem_modify_self, h']
  rfl
theorem Blk.other {w : World} {g : Nat} {c0 c1 c2 c3 : Value} (h : Blk w g c0 c1 c2 c3) {g' : Nat} (hne : g' ≠ g) (j : Nat) (v : Value) : Blk (w.setCell ⟨g', j, none⟩ v) g c0 c1 c2 c3 := by
  unfold Blk; rw [Below.heap_setCell _ _ _ _ (by intro e; exact hne e.symm)]; exact h
theorem Blk.old {w : World} {g : Nat} {c0 c1 c2 c3 : Value} (h : Blk w g c0 c1 c2 c3) (o : Obj) : Blk (w.alloc o) g c0 c1 c2 c3 := h.grown (World.grownBy_alloc w o none) (by simp)
theorem Blk.drew {w : World} {g : Nat} {c0 c1 c2 c3 : Value} (h : Blk w g c0 c1 c2 c3) : Blk w.drew g c0 c1 c2 c3 := h
theorem Rd.drew {w : World} {b : Nat} {s : ByteArray} {k : Nat} (h : Rd w b s k) : Rd w.drew b s k := h
/-- Bytes that lie in a block. -/
def Lies (w : World) (g : Nat) (t : ByteArray) : Prop := ∀ i, i < t.size → w.cell? ⟨g, i, none⟩ = some (.int .u8 (byte t i))
theorem Lies.new (w : World) (t : ByteArray) (cap : Nat) (e : TypeId) (fr : Nat × Nat) (g : Nat) (hg : g = w.heap.size) : Lies (w.alloc (.cells (bytesRow t cap) e fr)) g t := by
  subst hg
  intro i hi
  rw [cell_of_row _ w.heap.size i _ _ _ (heap_alloc_new w _)]
  exact bytesRow_get t cap i hi
theorem Lies.other {w : World} {g : Nat} {t : ByteArray} (h : Lies w g t) {g' : Nat} (hne : g' ≠ g) (j : Nat) (v : Value) : Lies (w.setCell ⟨g', j, none⟩ v) g t := by
  intro i hi
  have e : (w.setCell ⟨g', j, none⟩ v).heap[g]? = w.heap[g]? := Below.heap_setCell _ _ _ _ (by intro e; exact hne e.symm)
  rw [World.cell?_of_block (w := w) (a := ⟨g, i, none⟩) e]
  exact h i hi
end Tk
theorem grown_drew (w : World) (r : Option Nat) : w.grownBy w.drew r := ⟨rfl, rfl, rfl, Nat.le_refl _, fun _ _ _ => rfl⟩
set_option linter.unusedSimpArgs false
set_option maxRecDepth 100000 in
set_option maxHeartbeats 4000000 in
theorem next_number (s : ByteArray) (hs : s.size ≤ 65536) (b k K : Nat) (hk : k ≤ s.size) (hK : Tk.gapEnd false s k = K) (hKs : K < s.size) (hL : Tk.isLetter s[K].toNat = false) (hD : Tk.isDigit s[K].toNat = true) (E : Nat) (hE : Tk.runEnd Tk.isDigit s (K + 1) = E) (h9 : ¬ 9 < E - K) (hn : ¬ (s[K].toNat = 48 ∧ 1 < E - K)) (w : World) (h : Tk.Rd w b s k) :
    Calls Tryd.prog 25 #[.pointer (some ⟨b, 0, none⟩)] w (Tk.Next s k b w ⟨2, s.extract K E, Tk.num s K E, K⟩ true 0 E) := by
  have hx : s[K].toNat < 256 := s[K].toNat_lt
  have HK := Lib.hid hK
  have HL := Lib.hid hL
  clear hK hL
  have hlt := h.lt
  have hKi : (K : Int) < (s.size : Int) := by omega
  have tK : ((K : Int) == (s.size : Int)) = false := by simp; omega
  have HD := Lib.hid hD
  have HE := Lib.hid hE
  have HN : Hid (Tk.runEnd Tk.isDigit s K = E) := Lib.hid ((Tk.runEnd_on hKs hD).trans hE)
  have hge : K + 1 ≤ E := hE ▸ Tk.runEnd_ge Tk.isDigit s (K + 1)
  have hle : E ≤ s.size := hE ▸ Tk.runEnd_le (p := Tk.isDigit) (s := s) (k := K + 1) (by omega)
  have HG : Hid (∀ m, K ≤ m → m < E → ∀ h : m < s.size, Tk.isDigit s[m].toNat = true) := by
    apply Lib.hid
    intro m h1 h2 h3
    by_cases hmk : m = K
    · subst hmk; exact hD
    · exact Tk.runEnd_get (k := K + 1) (by omega) (by rw [hE]; exact h2) h3
  clear hD hE
  have hki : (K : Int) ≤ (E : Int) := by omega
  have h9i : ¬ (9 : Int) < (E : Int) - (K : Int) := by omega
  have hcv := fun w => run_bytes_of_string (P := Tryd.prog) w 9 107 5 (s.extract K E) Tryd.underlying9 Tryd.underlying107 Tryd.underlying5
  have hsz : (s.extract K E).size = E - K := by simp; omega
  have HSZ := Lib.hid hsz
  clear hsz
  have h4 : (((s[K].toNat : Int) == 48) = true ∧ ¬ (1 : Int) < (E : Int) - (K : Int)) ∨ ((s[K].toNat : Int) == 48) = false := by
    by_cases h48 : s[K].toNat = 48
    · exact .inl ⟨by simp; omega, by omega⟩
    · exact .inr (by simp; omega)
  clear hn
  rcases h4 with ⟨t48, h1i⟩ | t48
  all_goals
    go_enter Tryd.func25, Tryd.ntmps25
    go_wp2_with fail
    refine (skip_any s (by unfold maxLen; omega) b k hk _ (h.below (((Below.refl _ _).alloc (Nat.le_refl _) _)))).mono ?_
    rintro e w1 ⟨rfl, hg1, hR⟩
    rw [HK.out] at hR
    have hB := (Tk.Blk.new w _ _ _ _).grown hg1 (by intro e; cases e; omega)
    have hz1 : w.heap.size + 1 ≤ w1.heap.size := by have := hg1.size; simp at this; omega
    have c0 := hR.c0
    have c1 := hR.c1
    go_wp2_with fail
    go_quiet (fail)
    clear c0 c1
    replace hg1 := grown_trans (World.grownBy_alloc _ _ _) (grown_trans hg1 (grown_drewN _ nq _))
    replace hB := hB.grown (grown_drewN _ nq none) (by simp)
    replace hR := hR.drewN nq
    have hz1' : w.heap.size + 1 ≤ (w1.drewN nq).heap.size := hz1
    clear hz1
    generalize w1.drewN nq = w2 at hg1 hB hR hz1' ⊢
    have hbl := hR.lt
    have c0 := hR.c0
    have c1 := hR.c1
    go_wp2_with fail
    go_quiet (fail)
    go_wp2_with fail
    refine (letter_any _ hx _).mono ?_
    rintro e w3 ⟨rfl, rfl⟩
    rw [HL.out]
    have hg3 : w.grownBy ((w2.alloc (.cells #[.int .u8 0, .string ⟨#[]⟩, .int .i64 0, .int .i64 K] 37)).drewN nq) (some b) := grown_trans (grown_trans hg1 (World.grownBy_alloc _ _ _)) (grown_drewN _ _ _)
    have hB3 := (hB.grown (World.grownBy_alloc w2 (.cells #[.int .u8 0, .string ⟨#[]⟩, .int .i64 0, .int .i64 K] 37) none) (by simp)).grown (grown_drewN _ nq none) (by simp)
    have hT3 := (Tk.Blk.new w2 (.int .u8 0) (.string ⟨#[]⟩) (.int .i64 0) (.int .i64 K)).grown (grown_drewN _ nq none) (by simp)
    have hR3 := (hR.alloc (.cells #[.int .u8 0, .string ⟨#[]⟩, .int .i64 0, .int .i64 K] 37)).drewN nq
    clear c0 c1 hg1 hB hR
    generalize ((w2.alloc (.cells #[.int .u8 0, .string ⟨#[]⟩, .int .i64 0, .int .i64 K] 37)).drewN nq) = w3 at hg3 hB3 hT3 hR3 ⊢
    have hz2 : w.heap.size < w2.heap.size := by omega
    have hz3 := hT3.lt
    go_wp2_with fail
    refine (digit_any _ hx _).mono ?_
    rintro e w4 ⟨rfl, rfl⟩
    rw [HD.out]
    go_wp2_with fail
    refine (run_digit s (by unfold maxLen; omega) b K (by omega) _ hR3).mono ?_
    rintro e w4 ⟨rfl, hg4, hR4⟩
    rw [HN.out] at hR4 ⊢
    have hB4 := hB3.grown hg4 (by intro e; cases e; omega)
    have hT4 := hT3.grown hg4 (by intro e; cases e; omega)
    obtain ⟨⟨g0, g1, g2, g3⟩, g4, g5, g6, g7⟩ := hB4.facts
    obtain ⟨⟨t0, t1, t2, t3⟩, t4, t5, t6, t7⟩ := hT4.facts
    have hz4 := hT4.lt
    go_wp2_with fail
    clear g0 g1 g2 g3 g4 g5 g6 g7 t0 t1 t2 t3 t4 t5 t6 t7 hcv
    go_loopg [76] (E - K) (fun n i wr => ∃ j : Nat, n = E - K - j ∧ j ≤ E - K ∧ i = .int .i64 j ∧ Tk.Blk wr w.heap.size (.int .u8 0) (.string ⟨#[]⟩) (.int .i64 0) (.int .i64 0) ∧ Tk.Blk wr w2.heap.size (.int .u8 2) (.string (s.extract K E)) (.int .i64 (Tk.num s K (K + j))) (.int .i64 K) ∧ Tk.Rd wr b s E ∧ Tk.Lies wr w4.heap.size (s.extract K E) ∧ w.grownBy wr (some b) ∧ Hid (Tk.num s K (K + j) < 10 ^ j))
    case atStart =>
      refine ⟨0, by omega, by omega, rfl, ?_, ?_, ?_, ?_, ?_, ?_⟩
      · exact (((hB4.other (by omega) 0 _).other (by omega) 1 _).drew).old _
      · have hn0 : Tk.num s K (K + 0) = 0 := Tk.num_start s K
        rw [hn0]
        exact (((hT4.set0 _).set1 _).drew).old _
      · exact (((hR4.other (by omega) 0 _).other (by omega) 1 _).drew).alloc _
      · exact Tk.Lies.new _ _ _ _ _ _ (by simp)
      · exact grown_trans (grown_trans (grown_set_new (grown_set_new (grown_trans hg3 hg4) (by omega) _ _) (by omega) _ _) (grown_drew _ _)) (World.grownBy_alloc _ _ _)
      · exact Lib.hid (by rw [Nat.add_zero, Tk.num_start]; decide)
    case round =>
      obtain ⟨j, rfl, hj, rfl, hB5, hT5, hR5, hLi, hg5, HNJ⟩ := hrel
      have hz5 := hT5.lt
      by_cases hlj : j < E - K
      · obtain ⟨⟨g0, g1, g2, g3⟩, g4, g5, g6, g7⟩ := hB5.facts
        obtain ⟨⟨t0, t1, t2, t3⟩, t4, t5, t6, t7⟩ := hT5.facts
        have hdig := HG.out (K + j) (by omega) (by omega) (by omega)
        have hcell := hLi j (by rw [HSZ.out]; exact hlj)
        have HS := Lib.hid (Tk.num_succ (s := s) (k := K) (m := K + j) (by omega) (by omega))
        have HL2 := Lib.hid (Tk.num_lt_succ (s := s) (k := K) (m := K + j) (by omega) (by omega) hdig (by rw [show K + j - K = j from by omega]; exact HNJ.out))
        have hsm := Tk.num_small HNJ.out (by omega)
        rw [Tk.byte_extract hle (by omega), Tk.byte_eq (by omega)] at hcell
        have hdd : 48 ≤ s[K + j].toNat ∧ s[K + j].toNat ≤ 57 := by unfold Tk.isDigit at hdig; simpa using hdig
        obtain ⟨d1, d2⟩ := hdd
        clear hdig
        generalize s[K + j].toNat = d at hcell HS d1 d2
        generalize hN : Tk.num s K (K + j) = N at *
        have HN2 := Lib.hid hN
        clear hN
        have hji : (j : Int) < ((E - K : Nat) : Int) := by omega
        go_wp2_with fail
        go_roundg (E - K - (j + 1))
        case rel =>
          refine ⟨j + 1, rfl, by omega, by go_num, hB5.other (by omega) _ _, ?_, hR5.other (by omega) _ _, hLi.other (by omega) _ _, grown_set_new hg5 (by omega) _ _, ?_⟩
          · have e : Tk.num s K (K + (j + 1)) = 10 * N + (d - 48) := HS.out
            rw [e, show ((10 * N + (d - 48) : Nat) : Int) = 10 * (N : Int) + ((d : Int) - 48) from by omega]
            exact hT5.set2 _
          · have h := HL2.out
            rw [show K + j + 1 - K = j + 1 from by omega] at h
            exact Lib.hid h
        case measure => omega
      · obtain rfl : j = E - K := by omega
        rw [show K + (E - K) = E from by omega] at hT5
        obtain ⟨⟨g0, g1, g2, g3⟩, g4, g5, g6, g7⟩ := hB5.facts
        obtain ⟨⟨t0, t1, t2, t3⟩, t4, t5, t6, t7⟩ := hT5.facts
        go_wp2_with fail
        (try simp only [Exit.inBlock, Exit.then])
        refine bodyPost_ret (v := .tuple #[(⟨2, s.extract K E, Tk.num s K E, K⟩ : Tk.Tok).val, .bool true, .int .i64 0]) ?_ rfl ⟨rfl, ?_, E, ?_, fun _ => rfl⟩
        · rw [results_cell_tmp2 rfl]
          go_simp
          try rfl
        · exact grown_set_new (grown_set_new (grown_set_new (grown_set_new hg5 (by omega) 0 _) (by omega) 1 _) (by omega) 2 _) (by omega) 3 _
        · exact (((hR5.other (by omega) 0 _).other (by omega) 1 _).other (by omega) 2 _).other (by omega) 3 _
end Go.Proofs.YtoomlpalkinipaaDoor
