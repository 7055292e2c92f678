import Derived.Test.YtdnfbkcfiiccjaaSumAlls
import Derived.Test.YtdnfbkcfiiccjaaRange
import Derived.Sort.QuietTacIn
set_option linter.unusedVariables false
namespace Go.Proofs.Ytdnfbkcfiiccjaa
open Go.RowKit Go.BigFrame Go.Shelf
attribute [local go_sem] Oper.semAt_some
namespace Sm
/-- The list that the round gathers: a box and a row. -/
def Gath (Bl : Nat) (W0 : World) (pre : List Body) (W : World) : Prop := (∃ v, Boxed W Bl 43 v ∧ W.ownsRow Bl 9 1 v pre.length (pre.map strV) ∧ True) ∧ Below Bl W0 W
theorem gath_own (Bl : Nat) (W0 : World) (hlt : Bl ≤ W0.heap.size) : OwnFrom W0.heap.size (Gath Bl W0) :=
  OwnFrom.and (Own.from (holdsRow_own Bl Bl 43 9 1 (fun pre : List Body => pre.length) (fun pre => pre.map strV) (fun _ _ => True)) _) (ownFrom_below hlt hlt)
end Sm
theorem block_of_add' (a : Addr) (n : Nat) : (a.add n).block = a.block := by unfold Addr.add; split <;> rfl
theorem readS_of_own {w : World} {base n : Nat} {v : Value} {xs : List Sm.Body} (h : w.ownsRow base 9 1 v n (xs.map Sm.strV)) (hn : n = xs.length) :
    ∃ A cap, v = .slice A n cap ∧ n ≤ cap ∧ ReadS w A (xs.map Subtype.val) ∧ (∀ ad, A = some ad → ad.block < w.heap.size) := by
  rcases h.2 with ⟨rfl, rfl⟩ | ⟨g, cap, cur, rfl, hbg, hg, hc1, hc2, hc3, hc4⟩
  · exact ⟨none, 0, rfl, Nat.le_refl _, (by intro h0; simp at h0; omega), by simp⟩
  · refine ⟨_, cap, rfl, hc1, ?_, ?_⟩
    · intro _
      refine ⟨_, rfl, fun j hj => ?_⟩
      have hj' : j < xs.length := by simpa using hj
      rw [h.cells (g := g) rfl j _ (by rw [List.getElem?_map, List.getElem?_eq_getElem hj']; rfl)]
      simp [Sm.strV]
    · intro ad e
      injection e with e
      rw [← e]
      exact (Array.getElem?_eq_some_iff.1 hg).1
theorem ReadS.keep {w w' : World} {A : Option Addr} {ls : List (List UInt8)} (h : ReadS w A ls) (B : Nat) (hA : ∀ ad, A = some ad → ad.block < B) (hb : Below B w w') : ReadS w' A ls := by
  intro h0
  obtain ⟨ad, hA', hc⟩ := h h0
  exact ⟨ad, hA', fun j hj => (hb.cell (p := ad.add j) (by rw [block_of_add']; exact hA ad hA')).trans (hc j hj)⟩
/-- What stands at the head of the outer loop's k-th round. -/
def AllsI (s : ByteArray) (a : Int) (w : World) (A : Option Addr) (xs : List Sm.Body) (cap m B2 : Nat) (act : Act) (wr : World) : Prop :=
  ∃ (k Ba : Nat) (Ds : List Nat) (u9 u10 u23 u24 u25 u26 u27 u28 u29 u30 u31 u32 u33 u34 u35 u36 u37 u38 u39 u40 u41 u42 u43 u44 u45 u46 u47 u48 u49 u50 u51 u52 u53 u54 u55 u56 u57 u58 u59 u60 u61 u62 u63 : Value), act = { tmps := #[.string s, .int .i64 a, undef, .pointer (some ⟨w.heap.size, 0, none⟩), .bool false, .slice A xs.length cap, .int .i64 m, .func (.func 28) #[] #[.pointer (some ⟨B2, 0, none⟩)], .pointer (some ⟨Ba, 0, none⟩), u9, u10, .bool true, .bool false, .string s, .int .i64 s.size, .bool (decide (70000 < (s.size : Int))), .tuple #[.slice A xs.length cap, .int .i64 m], .string s, .tuple #[.slice A xs.length cap, .int .i64 m], .slice A xs.length cap, .int .i64 m, .string s, .func (.func 28) #[] #[.pointer (some ⟨B2, 0, none⟩)], u23, u24, u25, u26, u27, u28, u29, u30, u31, u32, u33, u34, u35, u36, u37, u38, u39, u40, u41, u42, u43, u44, u45, u46, u47, u48, u49, u50, u51, u52, u53, u54, u55, u56, u57, u58, u59, u60, u61, u62, u63, undef, undef, undef, undef], defers := Ds.map fun D => { target := .collected D, args := #[] } } ∧ k ≤ 2 ∧ Ds.length = k ∧ w.heap.size < Ba ∧
    wr.cell? ⟨Ba, 0, none⟩ = some (.int .i64 k) ∧ wr.frozen? ⟨Ba, 0, none⟩ = false ∧ wr.cell? ⟨w.heap.size, 0, none⟩ = some (.int .i64 a) ∧ wr.cell? ⟨B2, 0, none⟩ = some (.string s) ∧
    Hid (ReadS wr A (xs.map Subtype.val)) ∧ Below w.heap.size w wr ∧ Hid (∀ D ∈ Ds, w.heap.size ≤ D ∧ wr.heap[D]? = some (.deferred (some []))) ∧ Hid (Ds.Pairwise (· > ·)) ∧ Hid (∀ ad, A = some ad → ad.block < wr.heap.size)
set_option maxRecDepth 100000 in
set_option maxHeartbeats 4000000 in
theorem sumAlls_walk (s : ByteArray) (a : Int) (hs : s.size ≤ maxLen) (ha : (Lit.int .i64 a).wf = true) (w : World) :
    Calls Try.prog 8 #[.string s, .int .i64 a] w fun e w' => e = .returned (.bool true) ∧ Below w.heap.size w w' := by
  clear ha
  have Hs := Lib.hid hs
  clear hs
  refine (callsIn_wide (n := 6)).1 ?_
  refine callsIn_of_wp_marks Try.func8 rfl trivial ?_ rfl
  simp only [Try.ntmps8, List.size_toArray, List.length_cons, List.length_nil, Nat.reduceAdd, Nat.reduceSub, Array.replicate_succ, Array.replicate_zero, List.push_toArray, List.append_toArray, List.nil_append, List.cons_append]
  by_cases hlong : 70000 < s.size
  · gi_wp2_with fail
    refine ⟨trivial, (callsIn_wide.2 (awake_any _)).mono ?_⟩
    rintro e w1 ⟨rfl, hb1⟩
    gi_wp2
    refine ⟨_, results_tmp rfl _ _ _, rfl, bl_join ((Below.refl _ w).alloc (Nat.le_refl _) (.cells #[.int .i64 a] 3)) hb1⟩
  · have hs70 : s.size ≤ 1048576 := by omega
    obtain ⟨xs, m, hx⟩ := Sm.run_ex s.data.toList s.size 0 (by simp) (by omega)
    have hxl : 8 * xs.length ≤ 70000 := by
      have h1 := Sm.run_le (by omega) hx
      have h2 : s.data.toList.length = s.size := by simp
      omega
    have Hx := Lib.hid hx
    clear hx
    gi_wp2_with fail
    refine ⟨trivial, (callsIn_wide.2 (awake_any _)).mono ?_⟩
    rintro e w1 ⟨rfl, hb1⟩
    have cL1 : w1.cell? ⟨w.heap.size, 0, none⟩ = some (.int .i64 a) := by
      rw [hb1.cell (p := ⟨w.heap.size, 0, none⟩) (by simp)]; simp [go_sem]
    have hb01 := bl_join ((Below.refl _ w).alloc (Nat.le_refl _) (.cells #[.int .i64 a] 3)) hb1
    have hsz1 : w.heap.size < w1.heap.size := by have := hb1.size; simp at this; omega
    clear hb1
    gi_wp2_with fail
    refine ⟨trivial, (callsIn_wide.2 (refall_any s hs70 m xs Hx.out _)).mono ?_⟩
    rintro e w2 ⟨vw, rfl, how, hb2⟩
    have cL2 := (hb2.cell (p := ⟨w.heap.size, 0, none⟩) hsz1).trans cL1
    have hb02 := hb01.trans (hb2.mono hb01.size)
    have hsz2 : w.heap.size < w2.heap.size := Nat.lt_of_lt_of_le hsz1 hb2.size
    obtain ⟨A, cap, rfl, hcapn, hRd, hAb⟩ : ∃ A cap, vw = .slice A xs.length cap ∧ xs.length ≤ cap ∧ ReadS w2 A (xs.map Subtype.val) ∧ (∀ ad, A = some ad → ad.block < w2.heap.size) := by
      obtain ⟨A, cap, h1, h2, h3, h4⟩ := readS_of_own how rfl
      exact ⟨A, cap, h1, h2, h3, h4⟩
    have HRd := Lib.hid hRd
    have HAb := Lib.hid hAb
    clear hRd hAb
    clear cL1 hb2 how
    gi_wp2_with fail
    refine ⟨trivial, (callsIn_wide.2 (all_any _ _)).mono ?_⟩
    rintro e w' ⟨rfl, rfl⟩
    gi_wp2
    obtain ⟨i0, hi, hz0, hz1, hz2⟩ := info_parts info_str
    obtain ⟨W1, hW1⟩ : ∃ W1, (w2.alloc (.cells #[.string s] 9)).alloc (.cells #[.int .i64 0] 3) = W1 := ⟨_, rfl⟩
    rw [hW1]
    have cS1 : W1.cell? ⟨w2.heap.size, 0, none⟩ = some (.string s) := by rw [← hW1]; simp [go_sem]
    have cA1 : W1.cell? ⟨w2.heap.size + 1, 0, none⟩ = some (.int .i64 0) := by rw [← hW1]; simp [go_sem]
    have fA1' : W1.frozen? ⟨w2.heap.size + 1, 0, none⟩ = false := by rw [← hW1]; simp [go_sem]
    have hbW1 : Below w2.heap.size w2 W1 := by rw [← hW1]; exact ((Below.refl _ _).alloc (Nat.le_refl _) _).alloc (by simp) _
    have hsW1 : W1.heap.size = w2.heap.size + 2 := by rw [← hW1]; simp
    have cL3 := (hbW1.cell (p := ⟨w.heap.size, 0, none⟩) hsz2).trans cL2
    have hb03 := hb02.trans (hbW1.mono hb02.size)
    have HRd1 := Lib.hid (HRd.out.keep w2.heap.size HAb.out hbW1)
    have hsW1a : w2.heap.size + 2 ≤ W1.heap.size := by omega
    have hsW1b : W1.heap.size ≤ w2.heap.size + 2 := by omega
    clear HRd cL2 hW1 hsW1
    have fA1 : W1.frozen? ⟨w2.heap.size + 1, 0, none⟩ = false := by
      have : W1 = W1 := rfl
      exact fA1'
    have hAb1 : ∀ ad, A = some ad → ad.block < W1.heap.size := fun ad e => by have := HAb.out ad e; omega
    have HAb1 := Lib.hid hAb1
    clear hAb1 HAb
    refine wpIn_loop (AllsI s a w A xs cap m w2.heap.size) (fun act _ => 2 - act.defers.length) ?_ ?_
    · exact ⟨0, _, [], _, _, _, _, _, _, _, _, _, _, _, _, _, _, _, _, _, _, _, _, _, _, _, _, _, _, _, _, _, _, _, _, _, _, _, _, _, _, _, _, _, _, _, rfl, by omega, rfl, by omega, cA1, fA1, cL3, cS1, HRd1, hb03, by intro D hD; simp at hD, List.Pairwise.nil, HAb1⟩
    · intro act wr hI
      unfold AllsI at hI
      obtain ⟨k, Ba, Ds, u9, u10, u23, u24, u25, u26, u27, u28, u29, u30, u31, u32, u33, u34, u35, u36, u37, u38, u39, u40, u41, u42, u43, u44, u45, u46, u47, u48, u49, u50, u51, u52, u53, u54, u55, u56, u57, u58, u59, u60, u61, u62, u63, rfl, hk, hDl, hBa, cA, fA, cL, cS, HRd, hb, HD, HP, HAb⟩ := hI
      have HDl := Lib.hid hDl
      have hBal := block_lt_of_cell cA
      have hB2l := block_lt_of_cell cS
      simp only [] at hBal hB2l
      by_cases hk2 : k < 2
      · have d1 : decide ((k : Int) < 2) = true := by simp; omega
        gi_wp2_with fail
        obtain ⟨V0, hV0⟩ : ∃ V0, wr.alloc (.cells #[.slice none 0 0] 43) = V0 := ⟨_, rfl⟩
        rw [hV0]
        have bV : Boxed V0 wr.heap.size 43 (.slice none 0 0) := by rw [← hV0]; exact Boxed.new _ _ _
        have hbV : Below wr.heap.size wr V0 := by rw [← hV0]; exact (Below.refl _ _).alloc (Nat.le_refl _) _
        have hsV : V0.heap.size = wr.heap.size + 1 := by rw [← hV0]; simp
        have cSV := (hbV.cell (p := ⟨w2.heap.size, 0, none⟩) hB2l).trans cS
        have cAV := (hbV.cell (p := ⟨Ba, 0, none⟩) hBal).trans cA
        have fAV := (hbV.frozen (p := ⟨Ba, 0, none⟩) hBal).trans fA
        have hwl : w.heap.size < wr.heap.size := block_lt_of_cell cL
        have cLV := (hbV.cell (p := ⟨w.heap.size, 0, none⟩) hwl).trans cL
        have hsVa : wr.heap.size + 1 ≤ V0.heap.size := by omega
        clear hV0 hsV cS cA fA cL
        refine range_ownG rfl (by omega) (gf := 28) (lb := #[.pointer (some ⟨w2.heap.size, 0, none⟩)]) rfl trivial (enters_of Try.func28 (by kernel_rfl) rfl)
          (all1_stops _ (by omega) s hs70 m xs Hx.out w2.heap.size wr.heap.size V0 (by omega) (by omega) cSV 131072 (by omega)) keepBox_t (keepBox_b (by omega) (by omega)) (Below.refl _ _) (fun _ => rfl)
          (fun pre W => (k = 0 → ∀ i : Nat, 0 < i → i ≤ pre.length → (i : Int) ≠ a) ∧ Sm.Gath wr.heap.size V0 pre W)
          (fun cd pre W => (cd = .exit 2 ∧ k = 0 ∧ (pre.length : Int) = a) ∧ Sm.Gath wr.heap.size V0 pre W)
          (OwnFrom.and (fun s A B row hs _ _ => hs) (Sm.gath_own _ _ (by omega)))
          (fun cd => OwnFrom.and (fun s A B row hs _ _ => hs) (Sm.gath_own _ _ (by omega)))
          ⟨by intro _ i h1 h2; simp at h2; omega, ⟨_, bV, World.ownsRow_nil _ _ _ _, trivial⟩, Below.refl _ _⟩ ?ex ?done ?stop
        case ex =>
          apply Exists.intro
          refine ⟨?assign, ?body⟩
          case assign =>
            intro l x W K hK
            gi_wp2
            exact hK
          case body =>
            rintro l pre x W ⟨hne, ⟨v, hv, hrow, -⟩, hbel⟩ hpl
            have Hne := Lib.hid hne
            clear hne
            have hc := hv.cell
            have cAW := (hbel.cell (p := ⟨Ba, 0, none⟩) hBal).trans cAV
            have cLW := (hbel.cell (p := ⟨w.heap.size, 0, none⟩) hwl).trans cLV
            have cSW := (hbel.cell (p := ⟨w2.heap.size, 0, none⟩) hB2l).trans cSV
            have hk01 : ((k : Int) == 0) = decide (k = 0) := by
              by_cases h0 : k = 0
              · subst h0; rfl
              · rw [decide_eq_false h0, beq_eq_false_iff_ne]; omega
            by_cases hk0 : k = 0
            · subst hk0
              clear hk01 d1
              gi_wp2_with (gi_at_builtin; refine wpListIn_append_own _ rfl _ _ 43 rfl wr.heap.size 9 i0 _ 1 16 Try.underlying43 hi hz0 hz1 hz2 rfl (by decide) _ _ _ rfl (hrow.alloc _) ⟨W.heap.size, 0, none⟩ 1 1 [.string ⟨x.1.toArray⟩] rfl rfl (cell_one_new _ _ _) (by simp [Value.oneCell']) (by simp only [maxLen]; omega) (by omega) (by have := hbel.size; simp; omega) ?_; intro v' w5 hown' hgrow _; obtain ⟨g', cap', rfl⟩ := ownsRow_succ hown'; obtain ⟨hv1, hv2, hr2, hk2, hb5⟩ := hv.appended (by decide) hrow (by have := hbel.size; omega) (Nat.le_refl _) hown' hgrow; have hc1 := hv1.cell; have hf1 := hv1.frozen; have hc2 := hv2.cell; have cA5 := (hb5.cell (p := ⟨Ba, 0, none⟩) hBal).trans cAW; have cL5 := (hb5.cell (p := ⟨w.heap.size, 0, none⟩) hwl).trans cLW)
              · rename_i hq
                exact ⟨hk2.from _, ⟨rfl, by rw [List.length_append]; have := eq_of_beq hq; simpa using this⟩, ⟨_, hv2, by rw [List.length_append, List.map_append]; exact hr2, trivial⟩, hbel.trans hb5⟩
              · rename_i hq
                refine ⟨hk2.from _, ⟨hb5, fun h => (hb5.cell (p := ⟨w2.heap.size, 0, none⟩) hB2l).trans h⟩, ⟨fun i h1 h2 => ?_, ⟨_, hv2, by rw [List.length_append, List.map_append]; exact hr2, trivial⟩, hbel.trans hb5⟩⟩
                rw [List.length_append] at h2
                simp at h2
                have hq' := ne_of_beq_false hq
                by_cases he : i = pre.length + 1
                · subst he; intro e; apply hq'; omega
                · exact Hne.out trivial i h1 (by omega)
            · have hkf : ((k : Int) == 0) = false := by rw [beq_eq_false_iff_ne]; omega
              clear hk01 d1
              gi_wp2_with (gi_at_builtin; refine wpListIn_append_own _ rfl _ _ 43 rfl wr.heap.size 9 i0 _ 1 16 Try.underlying43 hi hz0 hz1 hz2 rfl (by decide) _ _ _ rfl (hrow.alloc _) ⟨W.heap.size, 0, none⟩ 1 1 [.string ⟨x.1.toArray⟩] rfl rfl (cell_one_new _ _ _) (by simp [Value.oneCell']) (by simp only [maxLen]; omega) (by omega) (by have := hbel.size; simp; omega) ?_; intro v' w5 hown' hgrow _; obtain ⟨g', cap', rfl⟩ := ownsRow_succ hown'; obtain ⟨hv1, hv2, hr2, hk2, hb5⟩ := hv.appended (by decide) hrow (by have := hbel.size; omega) (Nat.le_refl _) hown' hgrow; have hc1 := hv1.cell; have hf1 := hv1.frozen; have hc2 := hv2.cell; have cA5 := (hb5.cell (p := ⟨Ba, 0, none⟩) hBal).trans cAW; have cL5 := (hb5.cell (p := ⟨w.heap.size, 0, none⟩) hwl).trans cLW)
              exact ⟨hk2.from _, ⟨hb5, fun h => (hb5.cell (p := ⟨w2.heap.size, 0, none⟩) hB2l).trans h⟩, ⟨fun h => absurd h hk0, ⟨_, hv2, by rw [List.length_append, List.map_append]; exact hr2, trivial⟩, hbel.trans hb5⟩⟩
        case done =>
          rintro D ys W hDs rfl ⟨hne, ⟨v, hv, hrow, -⟩, hbel⟩ hK
          have Hne := Lib.hid hne
          clear hne
          obtain ⟨A2, cap2, rfl, hc2, hRl, hAl⟩ := readS_of_own hrow rfl
          have hc := hv.cell
          have cAW := (hbel.cell (p := ⟨Ba, 0, none⟩) hBal).trans cAV
          have fAW := (hbel.frozen (p := ⟨Ba, 0, none⟩) hBal).trans fAV
          have cLW := (hbel.cell (p := ⟨w.heap.size, 0, none⟩) hwl).trans cLV
          have cSW := (hbel.cell (p := ⟨w2.heap.size, 0, none⟩) hB2l).trans cSV
          have hbVW : Below wr.heap.size wr W := hbV.trans hbel
          have HRw := Lib.hid (HRd.out.keep wr.heap.size HAb.out hbVW)
          have hbw := hb.trans (hbVW.mono hb.size)
          have HDw := Lib.hid (show ∀ D' ∈ D :: Ds, w.heap.size ≤ D' ∧ W.heap[D']? = some (.deferred (some [])) from by
            intro D' hD'
            rcases List.mem_cons.1 hD' with rfl | hD'
            · exact ⟨by omega, hK⟩
            · obtain ⟨h1, h2⟩ := HD.out D' hD'
              exact ⟨h1, (hbVW.block D' (Array.getElem?_eq_some_iff.1 h2).1).trans h2⟩)
          have HPw := Lib.hid (show (D :: Ds).Pairwise (· > ·) from List.pairwise_cons.2 ⟨fun D' hD' => by
            obtain ⟨_, h2⟩ := HD.out D' hD'
            have := (Array.getElem?_eq_some_iff.1 h2).1
            omega, HP.out⟩)
          have hWs : wr.heap.size ≤ W.heap.size := hbVW.size
          have HAw := Lib.hid (show ∀ ad, A = some ad → ad.block < W.heap.size from fun ad e => Nat.lt_of_lt_of_le (HAb.out ad e) hWs)
          have hBaW : Ba < W.heap.size := by omega
          clear cAV fAV cLV cSV HRd hb HD HP HAb hK
          gi_wp2_with fail
          all_goals first
            | (exfalso; have h0 : k = 0 := by assumption
               have h1 : 0 < a := by assumption
               have h2 : a < (ys.length : Int) := by assumption
               obtain ⟨n, rfl⟩ := Int.eq_ofNat_of_zero_le (show 0 ≤ a by omega)
               exact Hne.out h0 n (by omega) (by omega) rfl)
            | skip
          all_goals
            refine ⟨trivial, (callsIn_wide.2 (same_true _ _ _ _ _ (ys.map Subtype.val) (by simp) (by omega) W hRl HRw.out)).mono ?_⟩
            rintro e W9 ⟨rfl, q, hq⟩
            have hb9 : Below W.heap.size W W9 := by rw [hq]; exact below_drewN (Below.refl _ _) _
            have hs9 : W.heap.size ≤ W9.heap.size := hb9.size
            have cA9 := (hb9.cell (p := ⟨Ba, 0, none⟩) hBaW).trans cAW
            have cL9 := (hb9.cell (p := ⟨w.heap.size, 0, none⟩) (by show w.heap.size < _; omega)).trans cLW
            have cS9 := (hb9.cell (p := ⟨w2.heap.size, 0, none⟩) (by show w2.heap.size < _; omega)).trans cSW
            clear hq cAW cLW cSW fAW hc hv hrow hRl
            gi_wp2
            have hbX : ∀ o, Below W9.heap.size W9 (W9.alloc o) := fun o => (Below.refl _ _).alloc (Nat.le_refl _) o
            have hbWX : ∀ o, Below W.heap.size W (W9.alloc o) := fun o => bl_join hb9 (hbX o)
            refine ⟨⟨k + 1, W9.heap.size, D :: Ds, _, _, _, _, _, _, _, _, _, _, _, _, _, _, _, _, _, _, _, _, _, _, _, _, _, _, _, _, _, _, _, _, _, _, _, _, _, _, _, _, _, _, _, rfl, by omega, by simp; omega, by omega, by first | (simp [go_sem]; done) | (simp [go_sem]; omega), by simp [go_sem], ((hbX _).cell (p := ⟨w.heap.size, 0, none⟩) (by show w.heap.size < _; omega)).trans cL9, ((hbX _).cell (p := ⟨w2.heap.size, 0, none⟩) (by show w2.heap.size < _; omega)).trans cS9,
              Lib.hid (HRw.out.keep W.heap.size HAw.out (hbWX _)), hbw.trans ((hbWX _).mono hbw.size), Lib.hid (fun D' hD' => ⟨(HDw.out D' hD').1, ((hbWX _).block D' (Array.getElem?_eq_some_iff.1 (HDw.out D' hD').2).1).trans (HDw.out D' hD').2⟩), HPw, Lib.hid (fun ad e => Nat.lt_of_lt_of_le (HAw.out ad e) (hbWX _).size)⟩, ?_⟩
            simp
            omega
        case stop =>
          rintro D cd pre W hDs hpre ⟨⟨rfl, hk0, hla⟩, ⟨v, hv, hrow, -⟩, hbel⟩ hK
          subst hk0
          obtain ⟨hpre1, hpre2⟩ := hpre
          have hpl1 : pre.length ≤ xs.length := hpre1.length_le
          have hpl0 : 0 < pre.length := List.length_pos_iff.2 hpre2
          have HPE := Lib.hid (List.prefix_iff_eq_take.1 hpre1)
          have ha0 : 0 < a := by omega
          obtain ⟨A2, cap2, rfl, hc2, hRl, hAl⟩ := readS_of_own hrow rfl
          have hc := hv.cell
          have cAW := (hbel.cell (p := ⟨Ba, 0, none⟩) hBal).trans cAV
          have fAW := (hbel.frozen (p := ⟨Ba, 0, none⟩) hBal).trans fAV
          have cLW := (hbel.cell (p := ⟨w.heap.size, 0, none⟩) hwl).trans cLV
          have cSW := (hbel.cell (p := ⟨w2.heap.size, 0, none⟩) hB2l).trans cSV
          have hbVW : Below wr.heap.size wr W := hbV.trans hbel
          have HRw := Lib.hid (HRd.out.keep wr.heap.size HAb.out hbVW)
          have hbw := hb.trans (hbVW.mono hb.size)
          have HDw := Lib.hid (show ∀ D' ∈ D :: Ds, w.heap.size ≤ D' ∧ W.heap[D']? = some (.deferred (some [])) from by
            intro D' hD'
            rcases List.mem_cons.1 hD' with rfl | hD'
            · exact ⟨by omega, hK⟩
            · obtain ⟨h1, h2⟩ := HD.out D' hD'
              exact ⟨h1, (hbVW.block D' (Array.getElem?_eq_some_iff.1 h2).1).trans h2⟩)
          have HPw := Lib.hid (show (D :: Ds).Pairwise (· > ·) from List.pairwise_cons.2 ⟨fun D' hD' => by
            obtain ⟨_, h2⟩ := HD.out D' hD'
            have := (Array.getElem?_eq_some_iff.1 h2).1
            omega, HP.out⟩)
          have hWs : wr.heap.size ≤ W.heap.size := hbVW.size
          have HAw := Lib.hid (show ∀ ad, A = some ad → ad.block < W.heap.size from fun ad e => Nat.lt_of_lt_of_le (HAb.out ad e) hWs)
          have hBaW : Ba < W.heap.size := by omega
          clear cAV fAV cLV cSV HRd hb HD HP HAb hK
          by_cases hlt : pre.length < xs.length
          · have hal : a < (xs.length : Int) := by omega
            have hRp := Lib.hid (show ReadS W A (pre.map Subtype.val) from by
              intro h0
              obtain ⟨ad, hA, hcs⟩ := HRw.out (by simp; omega)
              refine ⟨ad, hA, fun j hj => ?_⟩
              have hj' : j < pre.length := by simpa using hj
              rw [hcs j (by simp; omega)]
              have : pre[j] = xs[j] := by
                have e := congrArg (fun l => l[j]?) HPE.out
                simp only [List.getElem?_take, hj'] at e
                rw [List.getElem?_eq_getElem hj', if_pos trivial, List.getElem?_eq_getElem (by omega)] at e
                injection e
              simp [this])
            have haN : a.toNat = pre.length := by omega
            have ha1 : 0 ≤ a := by omega
            have hle1 : a ≤ (cap : Int) := by omega
            have hlen : (pre.map Subtype.val).length = pre.length := by simp
            have HC := Lib.hid (show ∀ q, CallsIn Fence.wide 5 Try.prog 23 #[.slice A2 pre.length cap2, .slice A pre.length cap] (W.drewN q) fun e w' => e = .returned (.bool true) ∧ ∃ m, w' = W.drewN m from fun q =>
              (callsIn_wide.2 (same_true A2 A pre.length cap2 cap (pre.map Subtype.val) hlen (by omega) (W.drewN q) (fun h0 => hRl h0) (fun h0 => hRp.out h0))).mono fun e w' ⟨he, m, hm⟩ => ⟨he, q + m, by rw [hm, World.drewN_drewN]⟩)
            clear hlen
            gi_wp2_with fail
            refine wpIn_region_quiet_lit rfl (by kernel_rfl) (by kernel_rfl) ?_
            iterate 4 (quiet_step_in (fail))
            refine wpQuietIn_step (fun _ _ _ _ => trivial) (fun K hK => ?_)
            go_simp
            apply Exists.intro
            refine ⟨fun _ => ?_, hK _ ?_⟩
            · exact HC.out _
            clear hK K
            quiet_step_in (fail)
            refine wpQuietIn_nil ?_
            intro _ hw'
            obtain ⟨nq, hw''⟩ := hw'
            subst hw''
            obtain ⟨W9, hW9⟩ : ∃ W9, W.drewN nq = W9 := ⟨_, rfl⟩
            have hb9 : Below W.heap.size W W9 := by rw [← hW9]; exact below_drewN (Below.refl _ _) _
            rw [hW9]
            have hs9 : W.heap.size ≤ W9.heap.size := hb9.size
            have cA9 := (hb9.cell (p := ⟨Ba, 0, none⟩) hBaW).trans cAW
            have cL9 := (hb9.cell (p := ⟨w.heap.size, 0, none⟩) (by show w.heap.size < _; omega)).trans cLW
            have cS9 := (hb9.cell (p := ⟨w2.heap.size, 0, none⟩) (by show w2.heap.size < _; omega)).trans cSW
            clear hW9 cAW cLW cSW fAW hc hv hrow hRl
            gi_wp2
            have hbX : ∀ o, Below W9.heap.size W9 (W9.alloc o) := fun o => (Below.refl _ _).alloc (Nat.le_refl _) o
            have hbWX : ∀ o, Below W.heap.size W (W9.alloc o) := fun o => bl_join hb9 (hbX o)
            refine ⟨⟨0 + 1, W9.heap.size, D :: Ds, _, _, _, _, _, _, _, _, _, _, _, _, _, _, _, _, _, _, _, _, _, _, _, _, _, _, _, _, _, _, _, _, _, _, _, _, _, _, _, _, _, _, _, rfl, by omega, by rw [List.length_cons, HDl.out], by have := hwl; have := hWs; omega, by first | (simp [go_sem]; done) | (simp [go_sem]; omega), by simp [go_sem], ((hbX _).cell (p := ⟨w.heap.size, 0, none⟩) (by show w.heap.size < _; omega)).trans cL9, ((hbX _).cell (p := ⟨w2.heap.size, 0, none⟩) (by show w2.heap.size < _; omega)).trans cS9,
              Lib.hid (HRw.out.keep W.heap.size HAw.out (hbWX _)), hbw.trans ((hbWX _).mono hbw.size), Lib.hid (fun D' hD' => ⟨(HDw.out D' hD').1, ((hbWX _).block D' (Array.getElem?_eq_some_iff.1 (HDw.out D' hD').2).1).trans (HDw.out D' hD').2⟩), HPw, Lib.hid (fun ad e => Nat.lt_of_lt_of_le (HAw.out ad e) (hbWX _).size)⟩, ?_⟩
            simp
            omega
          · have hal : (xs.length : Int) ≤ a := by omega
            have hpe : pre = xs := by rw [HPE.out]; exact List.take_of_length_le (by omega)
            subst hpe
            gi_wp2_with fail
            refine ⟨trivial, (callsIn_wide.2 (same_true _ _ _ _ _ (pre.map Subtype.val) (by simp) (by omega) W hRl HRw.out)).mono ?_⟩
            rintro e W9 ⟨rfl, q, hq⟩
            have hb9 : Below W.heap.size W W9 := by rw [hq]; exact below_drewN (Below.refl _ _) _
            have hs9 : W.heap.size ≤ W9.heap.size := hb9.size
            have cA9 := (hb9.cell (p := ⟨Ba, 0, none⟩) hBaW).trans cAW
            have cL9 := (hb9.cell (p := ⟨w.heap.size, 0, none⟩) (by show w.heap.size < _; omega)).trans cLW
            have cS9 := (hb9.cell (p := ⟨w2.heap.size, 0, none⟩) (by show w2.heap.size < _; omega)).trans cSW
            clear hq cAW cLW cSW fAW hc hv hrow hRl
            gi_wp2
            have hbX : ∀ o, Below W9.heap.size W9 (W9.alloc o) := fun o => (Below.refl _ _).alloc (Nat.le_refl _) o
            have hbWX : ∀ o, Below W.heap.size W (W9.alloc o) := fun o => bl_join hb9 (hbX o)
            refine ⟨⟨0 + 1, W9.heap.size, D :: Ds, _, _, _, _, _, _, _, _, _, _, _, _, _, _, _, _, _, _, _, _, _, _, _, _, _, _, _, _, _, _, _, _, _, _, _, _, _, _, _, _, _, _, _, rfl, by omega, by rw [List.length_cons, HDl.out], by have := hwl; have := hWs; omega, by first | (simp [go_sem]; done) | (simp [go_sem]; omega), by simp [go_sem], ((hbX _).cell (p := ⟨w.heap.size, 0, none⟩) (by show w.heap.size < _; omega)).trans cL9, ((hbX _).cell (p := ⟨w2.heap.size, 0, none⟩) (by show w2.heap.size < _; omega)).trans cS9,
              Lib.hid (HRw.out.keep W.heap.size HAw.out (hbWX _)), hbw.trans ((hbWX _).mono hbw.size), Lib.hid (fun D' hD' => ⟨(HDw.out D' hD').1, ((hbWX _).block D' (Array.getElem?_eq_some_iff.1 (HDw.out D' hD').2).1).trans (HDw.out D' hD').2⟩), HPw, Lib.hid (fun ad e => Nat.lt_of_lt_of_le (HAw.out ad e) (hbWX _).size)⟩, ?_⟩
            simp
            omega
      · obtain rfl : k = 2 := by omega
        obtain ⟨D2, D1, rfl⟩ : ∃ D2 D1, Ds = [D2, D1] := by
          have := HDl.out
          match Ds, this with
          | [D2, D1], _ => exact ⟨D2, D1, rfl⟩
        have hD2 := HD.out D2 (by simp)
        have hD1 := HD.out D1 (by simp)
        have hgt : D1 < D2 := by have := HP.out; simp at this; exact this
        clear hDl HDl
        gi_wp2_with fail
        refine ⟨trivial, (callsIn_wide.2 (whole_any s hs70 m xs Hx.out _)).mono ?_⟩
        rintro e W9 ⟨rfl, hb9⟩
        have hK2 := (hb9.block D2 (Array.getElem?_eq_some_iff.1 hD2.2).1).trans hD2.2
        have hK1 := (hb9.block D1 (Array.getElem?_eq_some_iff.1 hD1.2).1).trans hD1.2
        have hbf := hb.trans (hb9.mono hb.size)
        have hd1 := hD1.1
        have hd2 := hD2.1
        clear hD1 hD2
        gi_wp2
        have hK1' := (grownBy_putObj' W9 D2 (.deferred none)).block D1 (Array.getElem?_eq_some_iff.1 hK1).1 (by intro e; injection e with e; omega)
        refine ⟨by simp, .inl ⟨_, _, rfl, run_takeDeferred hK2, ?_⟩⟩
        refine ⟨by simp, .inl ⟨_, _, rfl, run_takeDeferred (hK1'.trans hK1), ?_⟩⟩
        refine ⟨_, results_tmp rfl _ _ _, rfl, ?_⟩
        exact (hbf.trans (belowK_b (w := w) (Nat.le_refl _) W9 D2 _ _ hd2 hK2 rfl rfl)).trans (belowK_b (w := w) (Nat.le_refl _) _ D1 _ _ hd1 (hK1'.trans hK1) rfl rfl)
end Go.Proofs.Ytdnfbkcfiiccjaa
