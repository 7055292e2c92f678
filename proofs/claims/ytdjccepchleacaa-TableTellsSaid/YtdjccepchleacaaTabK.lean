/- (*table.Table).Get. -/
import Derived.Test.YtdjccepchleacaaTabJ
import Derived.Test.YtdjccepchleacaaSumCat
import Derived.Test.YtdjccepchleacaaRangeX
set_option linter.unusedVariables false
set_option linter.unusedSimpArgs false
namespace Go.Proofs.Ytdjccepchleacaa
open Go.RowKit Go.BigFrame Go.Shelf
attribute [local go_sem] Oper.semAt_some
theorem row_kept {W W' : World} {row : Option Nat} {base size n : Nat} {e : TypeId} {v : Value} {xs : List Value} (h : W.ownsRow base e size v n xs) (hg : W.grownBy W' row) (hrow : ∀ r, row = some r → ∃ o : Obj, W.heap[r]? = some o ∧ o.isCells = false) : W'.ownsRow base e size v n xs := by
  refine h.kept hg ?_
  rcases hv : v.ownBlock with _ | k
  · exact .inl rfl
  · right
    intro e'
    obtain ⟨o, ho, hc⟩ := hrow k e'.symm
    rcases h.2 with ⟨rfl, _⟩ | ⟨g', cap, cur, rfl, hb, hgg, _⟩
    · cases hv
    · simp [Value.ownBlock] at hv
      subst hv
      rw [hgg] at ho
      injection ho with ho
      subst ho
      cases hc
theorem Tb.Opened.kept {W W' : World} {row : Option Nat} {base b : Nat} {s : ByteArray} {l : List Tb.Ent} (h : Tb.Opened W base b s l) (hg : W.grownBy W' row) (hrow : ∀ r, row = some r → ∃ o : Obj, W.heap[r]? = some o ∧ o.isCells = false) : Tb.Opened W' base b s l := by
  obtain ⟨bs, last, ⟨v, h1, h2, h3⟩, h4⟩ := h
  exact ⟨bs, last, ⟨v, bk_kept h1 hg hrow, row_kept h2 hg hrow, h3⟩, h4⟩
theorem Tb.Tab.kept {W W' : World} {row : Option Nat} {base b kp kk : Nat} {s key : ByteArray} {l : List Tb.Ent} (h : Tb.Tab W base b kp kk s key l) (hg : W.grownBy W' row) (hrow : ∀ r, row = some r → ∃ o : Obj, W.heap[r]? = some o ∧ o.isCells = false) : Tb.Tab W' base b kp kk s key l :=
  ⟨cell_kept h.1 hg hrow, cell_kept h.2.1 hg hrow, h.2.2.kept hg hrow⟩
theorem keepTab_b {n₀ base b kp kk : Nat} {s key : ByteArray} {l : List Tb.Ent} {w : World} (hn : n₀ ≤ w.heap.size) (W : World) (lo : Nat) (o o' : Obj) (hl : w.heap.size ≤ lo) (h : W.heap[lo]? = some o) (hc : o.isCells = false) (hw : o.isWalk = false) :
    Tb.KeepF n₀ (fun W => Tb.Tab W base b kp kk s key l) W (W.putObj lo o') :=
  ⟨belowK_b hn W lo o o' hl h hc hw, fun x => x.kept (grownBy_putObj' W lo o') (fun r e => by cases e; exact ⟨o, h, hc⟩)⟩
theorem keepTab_a {n₀ base b kp kk : Nat} {s key : ByteArray} {l : List Tb.Ent} {w : World} (hn : n₀ ≤ w.heap.size) (W : World) (o : Obj) (hl : w.heap.size ≤ W.heap.size) :
    Tb.KeepF n₀ (fun W => Tb.Tab W base b kp kk s key l) W (W.alloc o) :=
  ⟨(Below.refl _ _).alloc (by omega) _, fun x => x.below ((Below.refl _ _).alloc (Nat.le_refl _) _)⟩
/-- What Get tells. -/
def Tb.getV (o : Option Tb.Ent) : Value := match o with
  | none => .tuple #[Tb.Ent.zero.val, .bool false]
  | some x => .tuple #[x.val, .bool true]
set_option maxRecDepth 100000 in
set_option maxHeartbeats 4000000 in
theorem tgetk_any (s : ByteArray) (hs : s.size ≤ 800000000) (l : List Tb.Ent) (hsort : Tb.Sorted l) (key : ByteArray) (base b : Nat) (w : World) (hop : Tb.Opened w base b s l) :
    Calls Try.prog 13 #[.pointer (some ⟨b, 0, none⟩), .string key] w fun e w' => e = .returned (Tb.getV (Tb.get l key)) ∧ Below w.heap.size w w' := by
  have HOP := Lib.hid hop
  have hbl := hop.lt
  clear hop
  obtain ⟨V, HV⟩ : ∃ V, Hid (Tb.getV (Tb.get l key) = V) := ⟨_, Lib.hid rfl⟩
  rw [HV.out]
  refine (callsIn_wide (n := 6)).1 ?_
  refine callsIn_of_wp_marks Try.func13 rfl trivial ?_ rfl
  simp only [Try.ntmps13, List.size_toArray, List.length_cons, List.length_nil, Nat.reduceAdd, Nat.reduceSub, Array.replicate_succ, Array.replicate_zero, List.push_toArray, List.append_toArray, List.nil_append, List.cons_append]
  gi_wp2_with fail
  refine ⟨trivial, (callsIn_wide.2 (tfrom_any (some ⟨b, 0, none⟩) key _)).mono ?_⟩
  rintro e w' ⟨rfl, rfl⟩
  gi_wp2_with fail
  obtain ⟨W1, hW1⟩ : ∃ W1, (((((w.alloc (.cells #[.string key] 9)).alloc (.cells #[.string ⟨#[]⟩, .string ⟨#[]⟩, .bool false] 36)).alloc (.cells #[.bool false] 4)).alloc (.cells #[.pointer (some ⟨b, 0, none⟩)] 28)).alloc (.cells #[.string key] 9)) = W1 := ⟨_, rfl⟩
  rw [hW1]
  have hz1 : W1.heap.size = w.heap.size + 1 + 1 + 1 + 1 + 1 := by rw [← hW1]; simp
  have k0 : Bk W1 w.heap.size 9 #[.string key] := by rw [← hW1]; exact ((((Bk.new w _ _).alloc _).alloc _).alloc _).alloc _
  have k1 : Bk W1 (w.heap.size + 1) 36 #[.string ⟨#[]⟩, .string ⟨#[]⟩, .bool false] := by
    rw [← hW1]
    have h := Bk.new (w.alloc (.cells #[.string key] 9)) 36 #[.string ⟨#[]⟩, .string ⟨#[]⟩, .bool false]
    rw [World.size_alloc] at h
    exact ((h.alloc _).alloc _).alloc _
  have k2 : Bk W1 (w.heap.size + 1 + 1) 4 #[.bool false] := by
    rw [← hW1]
    have h := Bk.new ((w.alloc (.cells #[.string key] 9)).alloc (.cells #[.string ⟨#[]⟩, .string ⟨#[]⟩, .bool false] 36)) 4 #[.bool false]
    rw [World.size_alloc, World.size_alloc] at h
    exact (h.alloc _).alloc _
  have hB : Below w.heap.size w W1 := by rw [← hW1]; exact (((((Below.refl _ w).alloc (Nat.le_refl _) _).alloc (by simp) _).alloc (by simp; omega) _).alloc (by simp; omega) _).alloc (by simp; omega) _
  have hT : Tb.Tab W1 base b (w.heap.size + 1 + 1 + 1) (w.heap.size + 1 + 1 + 1 + 1) s key l := by
    refine ⟨?_, ?_, HOP.out.below hB⟩
    · rw [← hW1]
      have h := (Bk.new (((w.alloc (.cells #[.string key] 9)).alloc (.cells #[.string ⟨#[]⟩, .string ⟨#[]⟩, .bool false] 36)).alloc (.cells #[.bool false] 4)) 28 #[.pointer (some ⟨b, 0, none⟩)])
      rw [World.size_alloc, World.size_alloc, World.size_alloc] at h
      exact (h.alloc _).cell 0
    · rw [← hW1]
      have h := (Bk.new ((((w.alloc (.cells #[.string key] 9)).alloc (.cells #[.string ⟨#[]⟩, .string ⟨#[]⟩, .bool false] 36)).alloc (.cells #[.bool false] 4)).alloc (.cells #[.pointer (some ⟨b, 0, none⟩)] 28)) 9 #[.string key])
      rw [World.size_alloc, World.size_alloc, World.size_alloc, World.size_alloc] at h
      exact h.cell 0
  clear hW1
  have HZ := Lib.hid hz1
  refine range_ownX rfl (by omega) (gf := 34) (lb := #[.pointer (some ⟨w.heap.size + 1 + 1 + 1, 0, none⟩), .pointer (some ⟨w.heap.size + 1 + 1 + 1 + 1, 0, none⟩)]) rfl trivial (enters_of Try.func34 (by kernel_rfl) rfl)
    (tfrom1_stops _ (by omega) s hs l hsort key base b _ _ w.heap.size W1 (by omega) hT (Tb.from_ l key).length (Nat.le_refl _)) Tb.keepF_t (keepTab_b (by omega)) (Below.refl _ _) (fun _ => rfl)
    36 (fun x => #[.string x.key, .string x.value, .bool x.gone]) (keepTab_a (by omega))
    (fun pre W => (pre = [] ∧ Bk W w.heap.size 9 #[.string key] ∧ Bk W (w.heap.size + 1) 36 #[.string ⟨#[]⟩, .string ⟨#[]⟩, .bool false] ∧ Bk W (w.heap.size + 1 + 1) 4 #[.bool false] ∧ W1.heap.size ≤ W.heap.size) ∧ Below w.heap.size w W)
    (fun cd pre W => (∃ x : Tb.Ent, pre = [x] ∧ W1.heap.size ≤ W.heap.size ∧ ((cd = .ret ∧ (x.key.toList == key.toList) = true ∧ Bk W (w.heap.size + 1) 36 #[.string x.key, .string x.value, .bool x.gone] ∧ Bk W (w.heap.size + 1 + 1) 4 #[.bool true]) ∨ (cd = .exit 0 ∧ (x.key.toList == key.toList) = false ∧ Bk W (w.heap.size + 1) 36 #[.string ⟨#[]⟩, .string ⟨#[]⟩, .bool false] ∧ Bk W (w.heap.size + 1 + 1) 4 #[.bool false]))) ∧ Below w.heap.size w W)
    (OwnFrom.and (Own.from (fun s A B row hs hg hr => ⟨hs.1, bk_kept hs.2.1 hg hr, bk_kept hs.2.2.1 hg hr, bk_kept hs.2.2.2.1 hg hr, Nat.le_trans hs.2.2.2.2 hg.size⟩) _) (ownFrom_below (Nat.le_refl _) (by omega)))
    (fun cd => OwnFrom.and (Own.from (fun s A B row hs hg hr => by
      obtain ⟨x, e1, e2, e3⟩ := hs
      refine ⟨x, e1, Nat.le_trans e2 hg.size, ?_⟩
      rcases e3 with ⟨f1, f2, f3, f4⟩ | ⟨f1, f2, f3, f4⟩
      · exact .inl ⟨f1, f2, bk_kept f3 hg hr, bk_kept f4 hg hr⟩
      · exact .inr ⟨f1, f2, bk_kept f3 hg hr, bk_kept f4 hg hr⟩) _) (ownFrom_below (Nat.le_refl _) (by omega)))
    (fun pre W h => h.1.2.2.2.2) ⟨⟨rfl, k0, k1, k2, Nat.le_refl _⟩, hB⟩ ?ex ?done ?stop
  case ex =>
    apply Exists.intro
    refine ⟨?assign, ?body⟩
    case assign =>
      intro l x b2 W K hb2 hK
      unfold Tb.Ent.val
      have HB2 := Lib.hid hb2
      clear hb2
      gi_wp2
      rw [← HB2.out]
      exact hK
    case body =>
      rintro lo pre x b2 W ⟨⟨rfl, j0, j1, j2, hzW⟩, hbel⟩ hx hb2 hpl
      obtain ⟨xk, xv, xg⟩ := x
      simp only at hx
      have d0 : W.cell? ⟨w.heap.size, 0, none⟩ = some (.string key) := j0.cell 0
      obtain ⟨⟨e0, e1, e2⟩, _⟩ := hx.k3
      obtain ⟨⟨g0, g1, g2⟩, h0, h1, h2⟩ := j1.k3
      obtain ⟨m0, n0⟩ := j2.k1
      obtain ⟨F, HF⟩ : ∃ F, Hid ((xk.toList == key.toList) = F) := ⟨_, Lib.hid rfl⟩
      have hff := HF.out
      cases F
      · gi_wp2_with fail
        refine ⟨KeepsFrom.refl _ _, ⟨⟨xk, xv, xg⟩, rfl, hzW, .inr ⟨rfl, HF.out, j1, j2⟩⟩, hbel⟩
      · gi_wp2_with fail
        have hk := ((((KeepsOthers.setCell W ⟨w.heap.size + 1, 0, none⟩ (.string xk)).trans (KeepsOthers.setCell _ ⟨w.heap.size + 1, 1, none⟩ (.string xv))).trans (KeepsOthers.setCell _ ⟨w.heap.size + 1, 2, none⟩ (.bool xg))).trans (KeepsOthers.setCell _ ⟨w.heap.size + 1 + 1, 0, none⟩ (.bool true)))
        refine ⟨hk.from _, ⟨⟨xk, xv, xg⟩, rfl, by simpa using hzW, .inl ⟨rfl, HF.out, ?_, ?_⟩⟩, ?_⟩
        · exact (((j1.set_ 0 (.string xk)).set_ 1 (.string xv)).set_ 2 (.bool xg)).far (by simp) _
        · exact ((((j2.far (p := ⟨w.heap.size + 1, 0, none⟩) (by simp) _).far (p := ⟨w.heap.size + 1, 1, none⟩) (by simp) _).far (p := ⟨w.heap.size + 1, 2, none⟩) (by simp) _).set_ 0 (.bool true))
        · exact (((hbel.setCell (p := ⟨w.heap.size + 1, 0, none⟩) (by simp) _).setCell (p := ⟨w.heap.size + 1, 1, none⟩) (by simp) _).setCell (p := ⟨w.heap.size + 1, 2, none⟩) (by simp) _).setCell (p := ⟨w.heap.size + 1 + 1, 0, none⟩) (by simp; omega) _
  case done =>
    rintro D xs W hD hxs ⟨⟨rfl, j0, j1, j2, hzW⟩, hbel⟩ hK
    have HV0 : Hid (V = .tuple #[.agg #[.string ⟨#[]⟩, .string ⟨#[]⟩, .bool false], .bool false]) := Lib.hid (by rw [← HV.out]; unfold Tb.get; rw [← hxs]; rfl)
    clear hxs
    obtain ⟨⟨g0, g1, g2⟩, h0, h1, h2⟩ := j1.k3
    obtain ⟨m0, n0⟩ := j2.k1
    gi_wp2_with fail
    have hK' := ((((KeepsOthers.setCell W ⟨w.heap.size + 1, 0, none⟩ (.string ⟨#[]⟩)).trans (KeepsOthers.setCell _ ⟨w.heap.size + 1, 1, none⟩ (.string ⟨#[]⟩))).trans (KeepsOthers.setCell _ ⟨w.heap.size + 1, 2, none⟩ (.bool false))).trans (KeepsOthers.setCell _ ⟨w.heap.size + 1 + 1, 0, none⟩ (.bool false))).same D _ hK rfl
    have p1 : Bk _ (w.heap.size + 1) 36 #[.string ⟨#[]⟩, .string ⟨#[]⟩, .bool false] := (((j1.set_ 0 (.string ⟨#[]⟩)).set_ 1 (.string ⟨#[]⟩)).set_ 2 (.bool false)).far (p := ⟨w.heap.size + 1 + 1, 0, none⟩) (by simp) (.bool false)
    have p2 : Bk _ (w.heap.size + 1 + 1) 4 #[.bool false] := (((j2.far (p := ⟨w.heap.size + 1, 0, none⟩) (by simp) (.string ⟨#[]⟩)).far (p := ⟨w.heap.size + 1, 1, none⟩) (by simp) (.string ⟨#[]⟩)).far (p := ⟨w.heap.size + 1, 2, none⟩) (by simp) (.bool false)).set_ 0 (.bool false)
    have hb' : Below w.heap.size w _ := (((hbel.setCell (p := ⟨w.heap.size + 1, 0, none⟩) (by simp) (.string ⟨#[]⟩)).setCell (p := ⟨w.heap.size + 1, 1, none⟩) (by simp) (.string ⟨#[]⟩)).setCell (p := ⟨w.heap.size + 1, 2, none⟩) (by simp) (.bool false)).setCell (p := ⟨w.heap.size + 1 + 1, 0, none⟩) (by simp; omega) (.bool false)
    refine ⟨by simp, .inl ⟨_, _, rfl, run_takeDeferred hK', ?_⟩⟩
    obtain ⟨⟨q0, q1, q2⟩, _⟩ := (bk_taken p1 hK').k3
    obtain ⟨q3, _⟩ := (bk_taken p2 hK').k1
    refine ⟨.tuple #[.agg #[.string ⟨#[]⟩, .string ⟨#[]⟩, .bool false], .bool false], ?_, by rw [HV0.out], hb'.trans (belowK_b (w := w) (Nat.le_refl _) _ D _ _ (by omega) hK' rfl rfl)⟩
    simp [results, Try.f13, go_sem, q0, q1, q2, q3]
  case stop => 
    rintro D c2 pre W hD hpre ⟨⟨⟨xk, xv, xg⟩, rfl, hzW, (⟨rfl, f2, f3, f4⟩ | ⟨rfl, f2, f3, f4⟩)⟩, hbel⟩ hK
    · have HV0 : Hid (V = .tuple #[.agg #[.string xk, .string xv, .bool xg], .bool true]) := Lib.hid (by
        rw [← HV.out]
        obtain ⟨t, ht⟩ := hpre.1
        unfold Tb.get
        rw [← ht]
        simp only [List.cons_append, List.nil_append, List.head?_cons, Option.filter_some]
        simp only at f2
        rw [if_pos f2]
        rfl)
      clear hpre f2
      obtain ⟨⟨g0, g1, g2⟩, h0, h1, h2⟩ := f3.k3
      obtain ⟨m0, n0⟩ := f4.k1
      gi_wp2_with fail
      have hK' := (KeepsOthers.refl W).same D _ hK rfl
      have p1 : Bk _ (w.heap.size + 1) 36 #[.string xk, .string xv, .bool xg] := f3
      have p2 : Bk _ (w.heap.size + 1 + 1) 4 #[.bool true] := f4
      have hb' : Below w.heap.size w _ := hbel
      refine ⟨by simp, .inl ⟨_, _, rfl, run_takeDeferred hK', ?_⟩⟩
      obtain ⟨⟨q0, q1, q2⟩, _⟩ := (bk_taken p1 hK').k3
      obtain ⟨q3, _⟩ := (bk_taken p2 hK').k1
      refine ⟨.tuple #[.agg #[.string xk, .string xv, .bool xg], .bool true], ?_, by rw [HV0.out], hb'.trans (belowK_b (w := w) (Nat.le_refl _) _ D _ _ (by omega) hK' rfl rfl)⟩
      simp [results, Try.f13, go_sem, q0, q1, q2, q3]
    · have HV0 : Hid (V = .tuple #[.agg #[.string ⟨#[]⟩, .string ⟨#[]⟩, .bool false], .bool false]) := Lib.hid (by
        rw [← HV.out]
        obtain ⟨t, ht⟩ := hpre.1
        unfold Tb.get
        rw [← ht]
        simp only [List.cons_append, List.nil_append, List.head?_cons, Option.filter_some]
        simp only at f2
        rw [if_neg (by rw [f2]; simp)]
        rfl)
      clear hpre f2
      obtain ⟨⟨g0, g1, g2⟩, h0, h1, h2⟩ := f3.k3
      obtain ⟨m0, n0⟩ := f4.k1
      gi_wp2_with fail
      have hK' := ((((KeepsOthers.setCell W ⟨w.heap.size + 1, 0, none⟩ (.string ⟨#[]⟩)).trans (KeepsOthers.setCell _ ⟨w.heap.size + 1, 1, none⟩ (.string ⟨#[]⟩))).trans (KeepsOthers.setCell _ ⟨w.heap.size + 1, 2, none⟩ (.bool false))).trans (KeepsOthers.setCell _ ⟨w.heap.size + 1 + 1, 0, none⟩ (.bool false))).same D _ hK rfl
      have p1 : Bk _ (w.heap.size + 1) 36 #[.string ⟨#[]⟩, .string ⟨#[]⟩, .bool false] := (((f3.set_ 0 (.string ⟨#[]⟩)).set_ 1 (.string ⟨#[]⟩)).set_ 2 (.bool false)).far (p := ⟨w.heap.size + 1 + 1, 0, none⟩) (by simp) (.bool false)
      have p2 : Bk _ (w.heap.size + 1 + 1) 4 #[.bool false] := (((f4.far (p := ⟨w.heap.size + 1, 0, none⟩) (by simp) (.string ⟨#[]⟩)).far (p := ⟨w.heap.size + 1, 1, none⟩) (by simp) (.string ⟨#[]⟩)).far (p := ⟨w.heap.size + 1, 2, none⟩) (by simp) (.bool false)).set_ 0 (.bool false)
      have hb' : Below w.heap.size w _ := (((hbel.setCell (p := ⟨w.heap.size + 1, 0, none⟩) (by simp) (.string ⟨#[]⟩)).setCell (p := ⟨w.heap.size + 1, 1, none⟩) (by simp) (.string ⟨#[]⟩)).setCell (p := ⟨w.heap.size + 1, 2, none⟩) (by simp) (.bool false)).setCell (p := ⟨w.heap.size + 1 + 1, 0, none⟩) (by simp; omega) (.bool false)
      refine ⟨by simp, .inl ⟨_, _, rfl, run_takeDeferred hK', ?_⟩⟩
      obtain ⟨⟨q0, q1, q2⟩, _⟩ := (bk_taken p1 hK').k3
      obtain ⟨q3, _⟩ := (bk_taken p2 hK').k1
      refine ⟨.tuple #[.agg #[.string ⟨#[]⟩, .string ⟨#[]⟩, .bool false], .bool false], ?_, by rw [HV0.out], hb'.trans (belowK_b (w := w) (Nat.le_refl _) _ D _ _ (by omega) hK' rfl rfl)⟩
      simp [results, Try.f13, go_sem, q0, q1, q2, q3]
end Go.Proofs.Ytdjccepchleacaa
