import Derived.Test.YtdnfbkcfiiccjaaSumCat
import Derived.Test.YtdnfbkcfiiccjaaStrRow
import Derived.Test.YtdnfbkcfiiccjaaRange
import Derived.Test.YtdnfbkcfiiccjaaSumLaws5
set_option linter.unusedVariables false
namespace Go.Proofs.Ytdnfbkcfiiccjaa
open Go.RowKit Go.BigFrame Go.Shelf
attribute [local go_sem] Oper.semAt_some
theorem func_not_nil (a : Addr) (W : World) : Sem.run Try.prog (binOp .eql 47 (.func (.func 28) #[] #[.pointer (some a)]) Value.nilFunc) W = .ok (.bool false) W := by kernel_rfl
set_option maxRecDepth 100000 in
set_option maxHeartbeats 4000000 in
theorem sumBack_walk (A : Option Addr) (n c : Nat) (ls : List (List UInt8)) (r : ByteArray) (w : World) (hrow : StrRow w A n c ls) (hr : r.size ≤ maxLen) :
    Calls Try.prog 9 #[.slice A n c, .string r] w fun e w' => e = .returned (.bool true) ∧ Below w.heap.size w w' := by
  have hn := hrow.len
  have hcap := hrow.cap
  have hmax : c ≤ 9223372036854775807 := by have := hrow.max; unfold maxLen at this; omega
  have Hn := Lib.hid hn
  clear hn
  refine (callsIn_wide (n := 6)).1 ?_
  refine callsIn_of_wp_marks Try.func9 rfl trivial ?_ rfl
  simp only [Try.ntmps9, List.size_toArray, List.length_cons, List.length_nil, Nat.reduceAdd, Nat.reduceSub, Array.replicate_succ, Array.replicate_zero, List.push_toArray, List.append_toArray, List.nil_append, List.cons_append]
  gi_wp2_with fail
  refine ⟨trivial, (callsIn_wide.2 (awake_any _)).mono ?_⟩
  rintro e w1 ⟨rfl, hb1⟩
  have hb0 : Below w.heap.size w w1 := bl_join (((Below.refl _ w).alloc (Nat.le_refl _) (.cells #[.slice A n c] 43)).alloc (by simp) (.cells #[.bool false] 4)) hb1
  have cB : w1.cell? ⟨w.heap.size, 0, none⟩ = some (.slice A n c) := by
    rw [hb1.cell (p := ⟨w.heap.size, 0, none⟩) (by simp; omega)]; simp [go_sem]
  have cR : w1.cell? ⟨w.heap.size + 1, 0, none⟩ = some (.bool false) := by
    rw [hb1.cell (p := ⟨w.heap.size + 1, 0, none⟩) (by simp)]; simp [go_sem]
  have fR : w1.frozen? ⟨w.heap.size + 1, 0, none⟩ = false := by
    rw [hb1.frozen (p := ⟨w.heap.size + 1, 0, none⟩) (by simp)]; simp [go_sem]
  have hrow1 := hrow.below hb0
  have Hrow1 := Lib.hid hrow1
  clear hb1 hrow hrow1
  gi_wp2
  gi_loop [5, 6] (fun s i => ∃ k : Nat, k ≤ n ∧ k ≤ 41 ∧ i = .int .i64 k ∧ s = .int .i64 (Sm.mins (ls.take k))) (fun _ i => 41 - (intOf i).toNat)
  case atStart => exact ⟨0, by omega, by omega, rfl, rfl⟩
  case round =>
    obtain ⟨k, hkn, hk41, rfl, rfl⟩ := hrel
    have hmn : Sm.mins (ls.take k) ≤ 20001 * k := by have h1 := Sm.mins_le (ls.take k); have h2 := List.length_take_le k ls; have := Nat.mul_le_mul_left 20001 h2; omega
    by_cases hlt : k < n ∧ k ≤ 40
    · obtain ⟨hl1, hl2⟩ := hlt
      obtain ⟨ad, rfl, hab, hcells⟩ := Hrow1.out.row (by omega)
      have hkl : k < ls.length := by rw [Hn.out]; exact hl1
      have hcell := hcells k hkl
      have HS := Lib.hid (show Sm.mins (ls.take (k + 1)) = Sm.mins (ls.take k) + min ls[k].length 20001 by rw [List.take_succ_eq_append_getElem hkl, Sm.mins_snoc])
      have hel : ls[k].length ≤ 9223372036854775807 := by have := Hrow1.out.each ls[k] (List.getElem_mem _); unfold maxLen at this; omega
      clear hcells
      gi_wp2
      go_round
      case rel =>
        refine ⟨k + 1, by omega, by omega, by go_num, ?_⟩
        rw [HS.out]
        congr 1
        split <;> omega
      case measure => simp [intOf]; omega
    · by_cases hn40 : 40 < n
      · have d1 : decide ((k : Int) < (n : Int) ∧ (k : Int) ≤ 40) = false := by simp; omega
        have hk : k = 41 := by omega
        subst hk
        clear hlt hmn d1
        gi_wp2
        all_goals
          have cR2 := World.cell?_setCell_same' w1 ⟨w.heap.size + 1, 0, none⟩ (.bool true) (by rw [cR]; rfl)
          refine ⟨.bool true, ?_, rfl, hb0.setCell (p := ⟨w.heap.size + 1, 0, none⟩) (by simp) _⟩
          simp [results, Try.f9, go_sem, cR2]
      · have hk : k = n := by omega
        subst hk
        clear hlt
        have htk : ls.take k = ls := List.take_of_length_le (by rw [Hn.out]; omega)
        rw [htk] at *
        clear htk
        clear hmn
        by_cases hbig : 20000 < Sm.mins ls ∨ 20000 < r.size
        · have hms : Sm.mins ls ≤ 820041 := by have h1 := Sm.mins_le ls; rw [Hn.out] at h1; omega
          by_cases h1 : 20000 < Sm.mins ls
          · clear hbig
            gi_wp2
            have cR2 := World.cell?_setCell_same' w1 ⟨w.heap.size + 1, 0, none⟩ (.bool true) (by rw [cR]; rfl)
            refine ⟨.bool true, ?_, rfl, hb0.setCell (p := ⟨w.heap.size + 1, 0, none⟩) (by simp) _⟩
            simp [results, Try.f9, go_sem, cR2]
          · have h2 : 20000 < r.size := by omega
            clear hbig
            gi_wp2
            have cR2 := World.cell?_setCell_same' w1 ⟨w.heap.size + 1, 0, none⟩ (.bool true) (by rw [cR]; rfl)
            refine ⟨.bool true, ?_, rfl, hb0.setCell (p := ⟨w.heap.size + 1, 0, none⟩) (by simp) _⟩
            simp [results, Try.f9, go_sem, cR2]
        · have h1 : Sm.mins ls ≤ 20000 := by omega
          have h2 : r.size ≤ 20000 := by omega
          obtain ⟨hsum, heach⟩ := Sm.mins_all h1
          have Hea := Lib.hid heach
          obtain ⟨rl, rfl⟩ := Sm.of_list r
          have hrl : rl.length ≤ 20000 := by simpa [ByteArray.size_mk'] using h2
          clear hbig heach h2
          gi_wp2
          clear h1
          gi_loopw [7, 8] (fun s i wr => ∃ j : Nat, j ≤ k ∧ i = .int .i64 j ∧ s = .string ⟨(Sm.cat (ls.take j)).toArray⟩ ∧ wr.cell? ⟨w.heap.size, 0, none⟩ = some (.slice A k c) ∧ wr.cell? ⟨w.heap.size + 1, 0, none⟩ = some (.bool false) ∧
            wr.frozen? ⟨w.heap.size + 1, 0, none⟩ = false ∧ w.heap.size + 1 < wr.heap.size ∧ Hid (StrRow wr A k c ls) ∧ Below w.heap.size w wr) (fun _ i _ => k - (intOf i).toNat)
          case atStart => exact ⟨0, by omega, rfl, rfl, cB, cR, fR, block_lt_of_cell cR, Hrow1, hb0⟩
          case round =>
            obtain ⟨j, hjk, rfl, rfl, cB2, cR2, fR2, hsz2, Hrow2, hb2⟩ := hrel
            clear cB cR fR Hrow1 hb0
            have hcl : (Sm.cat (ls.take j)).length ≤ 20320 := by
              rw [Sm.cat_length, List.length_take]
              have : ((ls.take j).map List.length).sum ≤ (ls.map List.length).sum := by
                conv => rhs; rw [← List.take_append_drop j ls, List.map_append, List.sum_append]
                omega
              omega
            by_cases hlt : j < k
            · obtain ⟨ad, rfl, hab, hcells⟩ := Hrow2.out.row (by omega)
              have hkl : j < ls.length := by rw [Hn.out]; exact hlt
              have hcell := hcells j hkl
              have hel : ls[j].length ≤ 20000 := Hea.out ls[j] (List.getElem_mem _)
              have HS := Lib.hid (show Sm.cat (ls.take (j + 1)) = Sm.cat (ls.take j) ++ Sm.frame ls[j] by rw [List.take_succ_eq_append_getElem hkl, Sm.cat_snoc])
              have HNx := Lib.hid (Sm.nextR_frame (Sm.cat (ls.take j)) ls[j] rl (by omega))
              have hfl := Sm.frame_length ls[j]
              clear hcells
              gi_wp2_with fail
              refine ⟨trivial, (callsIn_wide.2 (frame_any ls[j] (by omega) _)).mono ?_⟩
              rintro e w3 ⟨rfl, hb3⟩
              have cB3 := (hb3.cell (p := ⟨w.heap.size, 0, none⟩) (by show w.heap.size < _; omega)).trans cB2
              have cR3 := (hb3.cell (p := ⟨w.heap.size + 1, 0, none⟩) (by show w.heap.size + 1 < _; omega)).trans cR2
              have fR3 := (hb3.frozen (p := ⟨w.heap.size + 1, 0, none⟩) (by show w.heap.size + 1 < _; omega)).trans fR2
              have hcell3 := (hb3.cell (p := ad.add j) (by rw [block_of_add]; exact hab)).trans hcell
              have Hrow3 := Lib.hid (Hrow2.out.below hb3)
              have hb23 := hb2.trans (hb3.mono (by omega))
              have hsz3 : w.heap.size + 1 < w3.heap.size := Nat.lt_of_lt_of_le hsz2 hb3.size
              clear cB2 cR2 fR2 Hrow2 hcell
              generalize Sm.cat (ls.take j) = C at *
              generalize Sm.frame ls[j] = F at *
              have hm : (⟨C.toArray⟩ ++ ⟨F.toArray⟩ ++ ⟨rl.toArray⟩ : ByteArray).size ≤ maxLen := by simp only [ByteArray.size_append, ByteArray.size_mk', List.size_toArray, maxLen]; omega
              have Hm := Lib.hid hm
              clear hm
              gi_wp2_with fail
              refine ⟨trivial, (callsIn_wide.2 (next_any _ Hm.out _ _)).mono ?_⟩
              rintro e w4 ⟨rfl, hb4⟩
              rw [show (⟨C.toArray⟩ ++ ⟨F.toArray⟩ ++ ⟨rl.toArray⟩ : ByteArray).data.toList = C ++ (F ++ rl) by simp, HNx.out]
              simp only [Sm.nextV]
              have cB4 := (hb4.cell (p := ⟨w.heap.size, 0, none⟩) (by show w.heap.size < _; omega)).trans cB3
              have cR4 := (hb4.cell (p := ⟨w.heap.size + 1, 0, none⟩) (by show w.heap.size + 1 < _; omega)).trans cR3
              have fR4 := (hb4.frozen (p := ⟨w.heap.size + 1, 0, none⟩) (by show w.heap.size + 1 < _; omega)).trans fR3
              have hcell4 := (hb4.cell (p := ad.add j) (by rw [block_of_add]; exact Nat.lt_of_lt_of_le hab hb3.size)).trans hcell3
              have Hrow4 := Lib.hid (Hrow3.out.below hb4)
              have hb24 := hb23.trans (hb4.mono (by omega))
              have hsz4 : w.heap.size + 1 < w4.heap.size := Nat.lt_of_lt_of_le hsz3 hb4.size
              clear cB3 cR3 fR3 Hrow3 hcell3
              gi_wp2
              go_roundw
              case rel => exact ⟨j + 1, by omega, by go_num, by rw [HS.out, ByteArray.mk_append_mk], cB4, cR4, fR4, hsz4, Hrow4, hb24⟩
              case measure => simp [intOf]; omega
            · obtain rfl : j = k := by omega
              clear hlt
              have htk : ls.take j = ls := List.take_of_length_le (by rw [Hn.out]; omega)
              rw [htk] at hcl ⊢
              clear htk
              have hm : (⟨(Sm.cat ls).toArray⟩ : ByteArray).size ≤ 1048576 := by simp only [ByteArray.size_mk', List.size_toArray]; omega
              obtain ⟨xs, hxs⟩ : ∃ xs : List Sm.Body, xs.map Subtype.val = ls := ⟨ls.attach.map fun l => ⟨l.1, by have := Hea.out l.1 l.2; omega⟩, by simp⟩
              have hxl : xs.length = j := by rw [← Hn.out, ← hxs, List.length_map]
              have hrun0 : Sm.Run (⟨(Sm.cat ls).toArray⟩ : ByteArray).data.toList 0 xs (Sm.cat ls).length := by
                have := Sm.run_cat xs [] [] 0 Sm.run_nil
                rw [hxs] at this
                simpa using this
              have Hrun0 := Lib.hid hrun0
              have Hxs := Lib.hid hxs
              have Hxl := Lib.hid hxl
              clear hrun0 hxs hxl
              gi_wp2_with fail
              refine ⟨trivial, (callsIn_wide.2 (all_any _ _)).mono ?_⟩
              rintro e w' ⟨rfl, rfl⟩
              have hfn := func_not_nil
              gi_wp2
              clear hfn
              have hW1b : (wr.alloc (.cells #[.int .i64 0] 3)).heap.size = wr.heap.size + 1 := by simp
              obtain ⟨W1, hW1⟩ : ∃ W1, (wr.alloc (.cells #[.int .i64 0] 3)).alloc (.cells #[.string ⟨(Sm.cat ls).toArray⟩] 9) = W1 := ⟨_, rfl⟩
              rw [hW1]
              have c0 : W1.cell? ⟨wr.heap.size, 0, none⟩ = some (.int .i64 0) ∧ W1.frozen? ⟨wr.heap.size, 0, none⟩ = false := by
                have := cell_new_l wr (.int .i64 0) 3
                rw [← hW1]; exact ⟨cell_alloc_l _ this.1, frozen_alloc_l _ this.1 this.2⟩
              have c1 : W1.cell? ⟨wr.heap.size + 1, 0, none⟩ = some (.string ⟨(Sm.cat ls).toArray⟩) := by
                have := cell_new_l (wr.alloc (.cells #[.int .i64 0] 3)) (.string ⟨(Sm.cat ls).toArray⟩) 9
                rw [World.size_alloc] at this
                rw [← hW1]; exact this.1
              have hbW : Below wr.heap.size wr W1 := by rw [← hW1]; exact ((Below.refl _ _).alloc (Nat.le_refl _) _).alloc (by simp) _
              have hsW : W1.heap.size = wr.heap.size + 2 := by rw [← hW1]; simp
              have cB3 := (hbW.cell (p := ⟨w.heap.size, 0, none⟩) (by show w.heap.size < _; omega)).trans cB2
              have cR3 := (hbW.cell (p := ⟨w.heap.size + 1, 0, none⟩) (by show w.heap.size + 1 < _; omega)).trans cR2
              have fR3 := (hbW.frozen (p := ⟨w.heap.size + 1, 0, none⟩) (by show w.heap.size + 1 < _; omega)).trans fR2
              have hrow3 := Hrow2.out.below hbW
              have hb3 := hb2.trans (hbW.mono (by omega))
              clear cB2 cR2 fR2 hW1 hW1b
              refine range_ownG rfl (by omega) (gf := 28) (lb := #[.pointer (some ⟨wr.heap.size + 1, 0, none⟩)]) rfl trivial (enters_of Try.func28 (by kernel_rfl) rfl)
                (all1_stops _ (by omega) _ hm _ xs Hrun0.out (wr.heap.size + 1) w.heap.size _ (by omega) (by omega) c1 1048576 (by rw [Hxl.out]; omega)) keepBox_t (keepBox_b (by omega) (by omega)) (Below.refl _ _) (fun _ => rfl)
                (fun pre W => ((pre.length ≤ j ∧ pre.map Subtype.val = ls.take pre.length) ∧ (W.cell? ⟨wr.heap.size, 0, none⟩ = some (.int .i64 pre.length) ∧ W.frozen? ⟨wr.heap.size, 0, none⟩ = false) ∧ W.cell? ⟨w.heap.size, 0, none⟩ = some (.slice A j c) ∧
                  (W.cell? ⟨w.heap.size + 1, 0, none⟩ = some (.bool false) ∧ W.frozen? ⟨w.heap.size + 1, 0, none⟩ = false) ∧ (∀ ad i, A = some ad → (hi : i < ls.length) → W.cell? (ad.add i) = some (.string ⟨ls[i].toArray⟩))) ∧ Below w.heap.size w W)
                (fun cd pre W => ¬ (pre.map Subtype.val <+: ls))
                (OwnFrom.and (Own.from (fun s A B row hs hg hr => ⟨hs.1, ⟨cell_kept hs.2.1.1 hg hr, (frozen_kept hs.2.1.1 hg hr).trans hs.2.1.2⟩, cell_kept hs.2.2.1 hg hr, ⟨cell_kept hs.2.2.2.1.1 hg hr, (frozen_kept hs.2.2.2.1.1 hg hr).trans hs.2.2.2.1.2⟩, fun ad i e hi => cell_kept (hs.2.2.2.2 ad i e hi) hg hr⟩) _) (ownFrom_below (Nat.le_refl _) (by omega)))
                (fun cd s A B row hs hg hr => hs)
                ⟨⟨⟨by simp, by simp⟩, c0, cB3, ⟨cR3, fR3⟩, ?rows⟩, hb3⟩ ?ex ?done ?stop
              case rows =>
                intro ad i e hi
                obtain ⟨ad', e', _, hc⟩ := hrow3.row (by rw [← Hn.out]; omega)
                rw [e'] at e
                injection e with e
                rw [← e]
                exact hc i hi
              case ex =>
                apply Exists.intro
                refine ⟨?assign, ?body⟩
                case assign =>
                  intro l x W K hK
                  gi_wp2
                  exact hK
                case body =>
                  rintro l pre x W ⟨⟨⟨hp1, hp2⟩, ⟨hi, hif⟩, hB, ⟨hR, hRf⟩, hrows⟩, hbel⟩ hpl
                  have HP2 := Lib.hid hp2
                  have Hrows := Lib.hid hrows
                  clear hp2 hrows
                  by_cases hlt : pre.length < j
                  · have hkl : pre.length < ls.length := by rw [Hn.out]; exact hlt
                    obtain ⟨ad, rfl, hab, _⟩ := Hrow2.out.row (by omega)
                    have hcell := Hrows.out ad pre.length rfl hkl
                    by_cases hxe : x.1 = ls[pre.length]
                    · have hq : (x.1 == ls[pre.length]) = true := by rw [beq_iff_eq]; exact hxe
                      have Hxe := Lib.hid hxe
                      clear hxe
                      gi_wp2
                      refine ⟨(KeepsOthers.setCell _ _ _).from _, ⟨(Below.refl w.heap.size W).setCell (p := ⟨wr.heap.size, 0, none⟩) (by show w.heap.size ≤ wr.heap.size; omega) _, fun h => ?_⟩, ⟨⟨?_, ?_⟩, ⟨?_, by rw [World.frozen?_setCell]; exact hif⟩, ?_, ⟨?_, by rw [World.frozen?_setCell]; exact hRf⟩, fun ad2 i e hi2 => ?_⟩, hbel.setCell (p := ⟨wr.heap.size, 0, none⟩) (by show w.heap.size ≤ wr.heap.size; omega) _⟩
                      · rw [World.cell?_setCell_other _ _ _ _ (by intro e; injection e with e1; omega)]; exact h
                      · rw [List.length_append]; simp; omega
                      · rw [List.map_append, HP2.out, List.length_append, List.map_singleton, Hxe.out]
                        exact (List.take_succ_eq_append_getElem hkl).symm
                      · rw [World.cell?_setCell_same' _ _ _ (by rw [hi]; rfl), List.length_append]; rfl
                      · rw [World.cell?_setCell_other _ _ _ _ (by intro e; injection e with e1; omega)]; exact hB
                      · rw [World.cell?_setCell_other _ _ _ _ (by intro e; injection e with e1; omega)]; exact hR
                      · rw [World.cell?_setCell_other _ _ _ _ (by
                          intro e2
                          injection e with e
                          have h3 := congrArg Addr.block e2
                          rw [block_of_add, ← e] at h3
                          simp at h3
                          omega)]
                        exact Hrows.out ad2 i e hi2
                    · have hq : (x.1 == ls[pre.length]) = false := by rw [beq_eq_false_iff_ne]; exact hxe
                      have Hxe := Lib.hid hxe
                      clear hxe
                      gi_wp2
                      refine ⟨(KeepsOthers.setCell _ _ _).from _, fun hpre => ?_⟩
                      obtain ⟨t, ht⟩ := hpre
                      rw [List.map_append, List.map_singleton, List.append_assoc] at ht
                      have hg : ls[pre.length]? = some x.1 := by
                        rw [← ht, List.getElem?_append_right (by simp)]
                        simp
                      rw [List.getElem?_eq_getElem hkl] at hg
                      injection hg with hg
                      exact Hxe.out hg.symm
                  · have hge : j ≤ pre.length := by omega
                    clear hlt
                    gi_wp2
                    refine ⟨(KeepsOthers.setCell _ _ _).from _, fun hpre => ?_⟩
                    have := hpre.length_le
                    rw [List.length_map, List.length_append, Hn.out] at this
                    simp at this
                    omega
              case stop =>
                rintro D c2 pre W hD hpre hbad hK
                exact absurd (by rw [← Hxs.out]; exact hpre.1.map _) hbad
              case done =>
                rintro D ys W hD rfl ⟨⟨_, ⟨hi, hif⟩, hB, ⟨hR, hRf⟩, hrows⟩, hbel⟩ hK
                clear hrows
                rw [Hxl.out] at hi
                have hDl : D < W.heap.size := (Array.getElem?_eq_some_iff.1 hK).1
                have HL := Lib.hid hcl
                gi_wp2_with fail
                refine ⟨trivial, (callsIn_wide.2 (whole_any _ hm _ ys Hrun0.out _)).mono ?_⟩
                rintro e W2 ⟨rfl, hb4⟩
                have hR2 := (hb4.cell (p := ⟨w.heap.size + 1, 0, none⟩) (by show w.heap.size + 1 < _; have := hbel.size; have := block_lt_of_cell hR; simpa using this)).trans hR
                have hRf2 := (hb4.frozen (p := ⟨w.heap.size + 1, 0, none⟩) (by show w.heap.size + 1 < _; have := block_lt_of_cell hR; simpa using this)).trans hRf
                have hK2 := (hb4.block D hDl).trans hK
                have hbel2 := hbel.trans (hb4.mono hbel.size)
                have hDl2 : D < W2.heap.size := Nat.lt_of_lt_of_le hDl hb4.size
                obtain ⟨W3, hmk3, hst3, hb5⟩ := known_make W2 30 30 rfl (by omega)
                have hz : Sm.noughts 30 = List.replicate 30 0 := rfl
                have hrun2 : Sm.Run (Sm.cat ls ++ ([0] ++ Sm.noughts 30)) 0 ys (Sm.cat ls).length := by
                  have h1 := Sm.run_cat ys (List.replicate 31 0) [] 0 (Sm.run_zero 31)
                  rw [Hxs.out, List.append_nil] at h1
                  exact h1
                have Hrun2 := Lib.hid hrun2
                have hzl : (Sm.noughts 30).length = 30 := Sm.noughts_length 30
                clear hz hrun2 hi hif hB hR hRf hK hDl
                generalize Sm.noughts 30 = Z at *
                have hm2 : (⟨(Sm.cat ls ++ ([0] ++ Z)).toArray⟩ : ByteArray).size ≤ 1048576 := by simp only [ByteArray.size_mk', List.size_toArray, List.length_append, hzl]; simp; omega
                have Hm2 := Lib.hid hm2
                clear hm2
                gi_wp2_with fail
                rw [show (⟨(Sm.cat ls).toArray⟩ ++ ⟨#[0]⟩ ++ ⟨Z.toArray⟩ : ByteArray) = ⟨(Sm.cat ls ++ ([0] ++ Z)).toArray⟩ by
                  rw [show (⟨#[0]⟩ : ByteArray) = ⟨([0] : List UInt8).toArray⟩ from rfl, ByteArray.mk_append_mk, ByteArray.mk_append_mk, List.append_assoc]]
                refine ⟨trivial, (callsIn_wide.2 (whole_any _ Hm2.out _ ys Hrun2.out _)).mono ?_⟩
                rintro e W4 ⟨rfl, hb6⟩
                have hb56 := bl_join hb5 hb6
                have hb46 : Below W2.heap.size W2 W4 := hb56
                have hlR : w.heap.size + 1 < W2.heap.size := by have := block_lt_of_cell hR2; simpa using this
                have hR4 := (hb46.cell (p := ⟨w.heap.size + 1, 0, none⟩) hlR).trans hR2
                have hRf4 := (hb46.frozen (p := ⟨w.heap.size + 1, 0, none⟩) hlR).trans hRf2
                have hK4 := (hb46.block D hDl2).trans hK2
                have hbel4 := hbel2.trans (hb46.mono hbel2.size)
                have hDl4 : D < W4.heap.size := Nat.lt_of_lt_of_le hDl2 hb46.size
                clear hmk3 hst3 hR2 hRf2 hK2
                have hm3 : (⟨rl.toArray⟩ : ByteArray).size ≤ maxLen := hr
                have Hm3 := Lib.hid hm3
                clear hm3 hr
                gi_wp2_with fail
                refine ⟨trivial, (callsIn_wide.2 (next_any _ Hm3.out _ _)).mono ?_⟩
                rintro e W5 ⟨rfl, hb7⟩
                obtain ⟨bs, m2, hbr⟩ := Sm.run_ex rl rl.length 0 (by omega) (by omega)
                have hrunB : Sm.Run (Sm.cat ls ++ rl) 0 (ys ++ bs) ((Sm.cat ls).length + m2) := by
                  have h1 := Sm.run_cat ys rl bs m2 hbr
                  rw [Hxs.out] at h1
                  exact h1
                have hml : m2 ≤ rl.length := (Sm.run_le (by omega) hbr).1
                have HrunB := Lib.hid hrunB
                have hm5 : (⟨(Sm.cat ls ++ rl).toArray⟩ : ByteArray).size ≤ 1048576 := by simp only [ByteArray.size_mk', List.size_toArray, List.length_append]; omega
                have Hm5 := Lib.hid hm5
                have hbsz : w.heap.size ≤ D := by have := hb3.size; omega
                have hbg := Sm.run_begins hbr
                clear hrunB hm5 hbr
                rcases hbg with ⟨hnone, rfl⟩ | ⟨⟨b, hsome⟩, h8⟩
                · rw [show Sm.nextR (⟨rl.toArray⟩ : ByteArray).data.toList 0 = none from hnone]
                  simp only [Sm.nextV]
                  gi_wp2_with fail
                  rw [show (⟨(Sm.cat ls).toArray⟩ ++ ⟨rl.toArray⟩ : ByteArray) = ⟨(Sm.cat ls ++ rl).toArray⟩ from ByteArray.mk_append_mk _ _]
                  refine ⟨trivial, (callsIn_wide.2 (whole_any _ Hm5.out _ _ HrunB.out _)).mono ?_⟩
                  rintro e W6 ⟨rfl, hb8⟩
                  have hb48 := bl_join hb7 hb8
                  have hlR4 : w.heap.size + 1 < W4.heap.size := by have := block_lt_of_cell hR4; simpa using this
                  have hR6 := (hb48.cell (p := ⟨w.heap.size + 1, 0, none⟩) hlR4).trans hR4
                  have hRf6 := (hb48.frozen (p := ⟨w.heap.size + 1, 0, none⟩) hlR4).trans hRf4
                  have hK6 := (hb48.block D hDl4).trans hK4
                  have hbel6 := hbel4.trans (hb48.mono hbel4.size)
                  clear hR4 hRf4 hK4
                  gi_wp2
                  have hK' := (KeepsOthers.setCell W6 ⟨w.heap.size + 1, 0, none⟩ (.bool true)).same D _ hK6 rfl
                  have hc5 := cell_kept (World.cell?_setCell_same' W6 ⟨w.heap.size + 1, 0, none⟩ (.bool true) (by rw [hR6]; rfl)) (grownBy_putObj' _ D (.deferred none)) (fun r e => by cases e; exact ⟨_, hK', rfl⟩)
                  refine ⟨by simp, .inl ⟨_, _, rfl, run_takeDeferred hK', ?_⟩⟩
                  refine ⟨.bool true, ?_, rfl, (hbel6.setCell (p := ⟨w.heap.size + 1, 0, none⟩) (by simp) _).trans (belowK_b (w := w) (Nat.le_refl _) _ D _ _ (by omega) hK' rfl rfl)⟩
                  simp [results, Try.f9, go_sem, hc5]
                · rw [show Sm.nextR (⟨rl.toArray⟩ : ByteArray).data.toList 0 = some b from hsome]
                  simp only [Sm.nextV]
                  gi_wp2_with fail
                  rw [show (⟨(Sm.cat ls).toArray⟩ ++ ⟨rl.toArray⟩ : ByteArray) = ⟨(Sm.cat ls ++ rl).toArray⟩ from ByteArray.mk_append_mk _ _]
                  refine ⟨trivial, (callsIn_wide.2 (whole_any _ Hm5.out _ _ HrunB.out _)).mono ?_⟩
                  rintro e W6 ⟨rfl, hb8⟩
                  have hb48 := bl_join hb7 hb8
                  have hlR4 : w.heap.size + 1 < W4.heap.size := by have := block_lt_of_cell hR4; simpa using this
                  have hR6 := (hb48.cell (p := ⟨w.heap.size + 1, 0, none⟩) hlR4).trans hR4
                  have hRf6 := (hb48.frozen (p := ⟨w.heap.size + 1, 0, none⟩) hlR4).trans hRf4
                  have hK6 := (hb48.block D hDl4).trans hK4
                  have hbel6 := hbel4.trans (hb48.mono hbel4.size)
                  clear hR4 hRf4 hK4
                  have hpos : 0 < m2 := by omega
                  have d1 : decide (((Sm.cat ls).length : Int) < ((Sm.cat ls).length : Int) + (m2 : Int)) = true := by simp; omega
                  have hu : ∀ b : Bool, ¬ (undef = Value.bool b) := fun b h => by cases b <;> simp [undef] at h
                  gi_wp2
                  have hK' := (KeepsOthers.setCell W6 ⟨w.heap.size + 1, 0, none⟩ (.bool true)).same D _ hK6 rfl
                  have hc5 := cell_kept (World.cell?_setCell_same' W6 ⟨w.heap.size + 1, 0, none⟩ (.bool true) (by rw [hR6]; rfl)) (grownBy_putObj' _ D (.deferred none)) (fun r e => by cases e; exact ⟨_, hK', rfl⟩)
                  refine ⟨by simp, .inl ⟨_, _, rfl, run_takeDeferred hK', ?_⟩⟩
                  refine ⟨.bool true, ?_, rfl, (hbel6.setCell (p := ⟨w.heap.size + 1, 0, none⟩) (by simp) _).trans (belowK_b (w := w) (Nat.le_refl _) _ D _ _ (by omega) hK' rfl rfl)⟩
                  simp [results, Try.f9, go_sem, hc5]
end Go.Proofs.Ytdnfbkcfiiccjaa
