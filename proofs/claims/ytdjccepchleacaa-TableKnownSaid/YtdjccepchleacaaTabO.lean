/- A table that is none: Get, Ends, From. -/
import Derived.Test.YtdjccepchleacaaTabL
set_option linter.unusedVariables false
set_option linter.unusedSimpArgs false
namespace Go.Proofs.Ytdjccepchleacaa
open Go.RowKit Go.BigFrame Go.Shelf
attribute [local go_sem] Oper.semAt_some
set_option maxRecDepth 100000 in
set_option maxHeartbeats 1000000 in
theorem tends_nil (w : World) : Calls Try.prog 15 #[.pointer none] w fun e w' => e = .returned (.tuple #[.string ⟨#[]⟩, .string ⟨#[]⟩]) ∧ w' = w := by
  go_enter Try.func15, Try.ntmps15
  go_wp2_with fail
  refine (tlen_nil _).mono ?_
  rintro e w' ⟨rfl, rfl⟩
  go_wp2_with fail
  go_ret2
  exact ⟨rfl, rfl⟩
theorem keepNil_b {n₀ kp : Nat} {w : World} (hn : n₀ ≤ w.heap.size) (W : World) (lo : Nat) (o o' : Obj) (hl : w.heap.size ≤ lo) (h : W.heap[lo]? = some o) (hc : o.isCells = false) (hw : o.isWalk = false) :
    Tb.KeepF n₀ (fun W => W.cell? ⟨kp, 0, none⟩ = some (.pointer none)) W (W.putObj lo o') :=
  ⟨belowK_b hn W lo o o' hl h hc hw, fun x => cell_kept x (grownBy_putObj' W lo o') (fun r e => by cases e; exact ⟨o, h, hc⟩)⟩
theorem keepNil_a {n₀ kp : Nat} {w : World} (hn : n₀ ≤ w.heap.size) (W : World) (o : Obj) (hl : w.heap.size ≤ W.heap.size) :
    Tb.KeepF n₀ (fun W => W.cell? ⟨kp, 0, none⟩ = some (.pointer none)) W (W.alloc o) :=
  ⟨(Below.refl _ _).alloc (by omega) _, fun x => ((Below.refl W.heap.size W).alloc (Nat.le_refl _) o).cell (p := ⟨kp, 0, none⟩) (World.block_lt_of_cell? W _ x) |>.trans x⟩
set_option maxRecDepth 100000 in
set_option maxHeartbeats 2000000 in
theorem tfrom1_nil (n : Nat) (hn : 1 ≤ n) (kp kk n₀ : Nat) (w : World) (hF : w.cell? ⟨kp, 0, none⟩ = some (.pointer none)) (N : Nat) :
    SeqStopsK Fence.wide n Try.prog 34 #[.pointer (some ⟨kp, 0, none⟩), .pointer (some ⟨kk, 0, none⟩)] (fun x : Tb.Ent => #[x.val]) (Tb.KeepF n₀ fun W => W.cell? ⟨kp, 0, none⟩ = some (.pointer none)) (fun ys => ys = []) (fun pre => False) N w := by
  intro lo J Jx W hW hJ hJx hY hJ0
  have t0 : W.cell? ⟨kp, 0, none⟩ = some (.pointer none) := (hW.cell (p := ⟨kp, 0, none⟩) (World.block_lt_of_cell? w _ hF)).trans hF
  clear hJ hJx hY hF
  refine callsIn_of_wp Try.func34 rfl trivial ?_ rfl
  simp only [Try.ntmps34, List.size_toArray, List.length_cons, List.length_nil, Nat.reduceAdd, Nat.reduceSub, Array.replicate_succ, Array.replicate_zero, List.push_toArray, List.append_toArray, List.nil_append, List.cons_append]
  gi_wp2_with fail
  refine ⟨trivial, (callsIn_wide.2 (tlen_nil W)).mono ?_⟩
  rintro e w' ⟨rfl, rfl⟩
  gi_wp2_with fail
  refine bodyPost_ret (results_none rfl _ _ _) rfl ?_
  exact ⟨⟨_, rfl⟩, .inl ⟨[], rfl, hJ0⟩⟩
set_option maxRecDepth 100000 in
set_option maxHeartbeats 4000000 in
theorem tget_nil (key : ByteArray) (w : World) :
    Calls Try.prog 13 #[.pointer none, .string key] w fun e w' => e = .returned (Tb.getV none) ∧ Below w.heap.size w w' := by
  obtain ⟨V, HV⟩ : ∃ V, Hid (Tb.getV none = V) := ⟨_, Lib.hid rfl⟩
  rw [HV.out]
  refine (callsIn_wide (n := 6)).1 ?_
  refine callsIn_of_wp_marks Try.func13 rfl trivial ?_ rfl
  simp only [Try.ntmps13, List.size_toArray, List.length_cons, List.length_nil, Nat.reduceAdd, Nat.reduceSub, Array.replicate_succ, Array.replicate_zero, List.push_toArray, List.append_toArray, List.nil_append, List.cons_append]
  gi_wp2_with fail
  refine ⟨trivial, (callsIn_wide.2 (tfrom_any none key _)).mono ?_⟩
  rintro e w' ⟨rfl, rfl⟩
  gi_wp2_with fail
  obtain ⟨W1, hW1⟩ : ∃ W1, (((((w.alloc (.cells #[.string key] 9)).alloc (.cells #[.string ⟨#[]⟩, .string ⟨#[]⟩, .bool false] 36)).alloc (.cells #[.bool false] 4)).alloc (.cells #[.pointer none] 28)).alloc (.cells #[.string key] 9)) = W1 := ⟨_, rfl⟩
  rw [hW1]
  have hz1 : W1.heap.size = w.heap.size + 1 + 1 + 1 + 1 + 1 := by rw [← hW1]; simp
  have k0 : Bk W1 w.heap.size 9 #[.string key] := by rw [← hW1]; exact ((((Bk.new w _ _).alloc _).alloc _).alloc _).alloc _
  have k1 : Bk W1 (w.heap.size + 1) 36 #[.string ⟨#[]⟩, .string ⟨#[]⟩, .bool false] := by
    rw [← hW1]
    have h := Bk.new (w.alloc (.cells #[.string key] 9)) 36 #[.string ⟨#[]⟩, .string ⟨#[]⟩, .bool false]
    rw [World.size_alloc] at h
    exact ((h.alloc _).alloc _).alloc _
  have k2 : Bk W1 (w.heap.size + 1 + 1) 4 #[.bool false] := by
    rw [← hW1]
    have h := Bk.new ((w.alloc (.cells #[.string key] 9)).alloc (.cells #[.string ⟨#[]⟩, .string ⟨#[]⟩, .bool false] 36)) 4 #[.bool false]
    rw [World.size_alloc, World.size_alloc] at h
    exact (h.alloc _).alloc _
  have hB : Below w.heap.size w W1 := by rw [← hW1]; exact (((((Below.refl _ w).alloc (Nat.le_refl _) _).alloc (by simp) _).alloc (by simp; omega) _).alloc (by simp; omega) _).alloc (by simp; omega) _
  have hT : W1.cell? ⟨w.heap.size + 1 + 1 + 1, 0, none⟩ = some (.pointer none) := by
    rw [← hW1]
    have h := (Bk.new (((w.alloc (.cells #[.string key] 9)).alloc (.cells #[.string ⟨#[]⟩, .string ⟨#[]⟩, .bool false] 36)).alloc (.cells #[.bool false] 4)) 28 #[.pointer none])
    rw [World.size_alloc, World.size_alloc, World.size_alloc] at h
    exact (h.alloc _).cell 0
  clear hW1
  have HZ := Lib.hid hz1
  refine range_ownX rfl (by omega) (gf := 34) (lb := #[.pointer (some ⟨w.heap.size + 1 + 1 + 1, 0, none⟩), .pointer (some ⟨w.heap.size + 1 + 1 + 1 + 1, 0, none⟩)]) rfl trivial (enters_of Try.func34 (by kernel_rfl) rfl)
    (tfrom1_nil _ (by omega) _ _ w.heap.size W1 hT 0) Tb.keepF_t (keepNil_b (by omega)) (Below.refl _ _) (fun _ => rfl)
    36 (fun x => #[.string x.key, .string x.value, .bool x.gone]) (keepNil_a (by omega))
    (fun pre W => (pre = [] ∧ Bk W w.heap.size 9 #[.string key] ∧ Bk W (w.heap.size + 1) 36 #[.string ⟨#[]⟩, .string ⟨#[]⟩, .bool false] ∧ Bk W (w.heap.size + 1 + 1) 4 #[.bool false] ∧ W1.heap.size ≤ W.heap.size) ∧ Below w.heap.size w W)
    (fun cd pre W => False)
    (OwnFrom.and (Own.from (fun s A B row hs hg hr => ⟨hs.1, bk_kept hs.2.1 hg hr, bk_kept hs.2.2.1 hg hr, bk_kept hs.2.2.2.1 hg hr, Nat.le_trans hs.2.2.2.2 hg.size⟩) _) (ownFrom_below (Nat.le_refl _) (by omega)))
    (fun cd s A B row hs hg hr => hs)
    (fun pre W h => h.1.2.2.2.2) ⟨⟨rfl, k0, k1, k2, Nat.le_refl _⟩, hB⟩ ?ex ?done ?stop
  case ex =>
    apply Exists.intro
    refine ⟨?assign, ?body⟩
    case assign =>
      intro l x b2 W K hb2 hK
      unfold Tb.Ent.val
      have HB2 := Lib.hid hb2
      clear hb2
      gi_wp2
      rw [← HB2.out]
      exact hK
    case body =>
      rintro lo pre x b2 W _ _ _ hpl
      exact absurd hpl (by omega)
  case done =>
    rintro D xs W hD hxs ⟨⟨rfl, j0, j1, j2, hzW⟩, hbel⟩ hK
    have HV0 : Hid (V = .tuple #[.agg #[.string ⟨#[]⟩, .string ⟨#[]⟩, .bool false], .bool false]) := Lib.hid (by rw [← HV.out]; rfl)
    clear hxs
    obtain ⟨⟨g0, g1, g2⟩, h0, h1, h2⟩ := j1.k3
    obtain ⟨m0, n0⟩ := j2.k1
    gi_wp2_with fail
    have hK' := ((((KeepsOthers.setCell W ⟨w.heap.size + 1, 0, none⟩ (.string ⟨#[]⟩)).trans (KeepsOthers.setCell _ ⟨w.heap.size + 1, 1, none⟩ (.string ⟨#[]⟩))).trans (KeepsOthers.setCell _ ⟨w.heap.size + 1, 2, none⟩ (.bool false))).trans (KeepsOthers.setCell _ ⟨w.heap.size + 1 + 1, 0, none⟩ (.bool false))).same D _ hK rfl
    have p1 : Bk _ (w.heap.size + 1) 36 #[.string ⟨#[]⟩, .string ⟨#[]⟩, .bool false] := (((j1.set_ 0 (.string ⟨#[]⟩)).set_ 1 (.string ⟨#[]⟩)).set_ 2 (.bool false)).far (p := ⟨w.heap.size + 1 + 1, 0, none⟩) (by simp) (.bool false)
    have p2 : Bk _ (w.heap.size + 1 + 1) 4 #[.bool false] := (((j2.far (p := ⟨w.heap.size + 1, 0, none⟩) (by simp) (.string ⟨#[]⟩)).far (p := ⟨w.heap.size + 1, 1, none⟩) (by simp) (.string ⟨#[]⟩)).far (p := ⟨w.heap.size + 1, 2, none⟩) (by simp) (.bool false)).set_ 0 (.bool false)
    have hb' : Below w.heap.size w _ := (((hbel.setCell (p := ⟨w.heap.size + 1, 0, none⟩) (by simp) (.string ⟨#[]⟩)).setCell (p := ⟨w.heap.size + 1, 1, none⟩) (by simp) (.string ⟨#[]⟩)).setCell (p := ⟨w.heap.size + 1, 2, none⟩) (by simp) (.bool false)).setCell (p := ⟨w.heap.size + 1 + 1, 0, none⟩) (by simp; omega) (.bool false)
    refine ⟨by simp, .inl ⟨_, _, rfl, run_takeDeferred hK', ?_⟩⟩
    obtain ⟨⟨q0, q1, q2⟩, _⟩ := (bk_taken p1 hK').k3
    obtain ⟨q3, _⟩ := (bk_taken p2 hK').k1
    refine ⟨.tuple #[.agg #[.string ⟨#[]⟩, .string ⟨#[]⟩, .bool false], .bool false], ?_, by rw [HV0.out], hb'.trans (belowK_b (w := w) (Nat.le_refl _) _ D _ _ (by omega) hK' rfl rfl)⟩
    simp [results, Try.f13, go_sem, q0, q1, q2, q3]
  case stop =>
    rintro D c2 pre W hD hpre hbad hK
    exact hbad.elim
end Go.Proofs.Ytdjccepchleacaa
