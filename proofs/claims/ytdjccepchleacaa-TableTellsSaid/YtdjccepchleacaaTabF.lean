/- (*table.Table).index. -/
import Derived.Test.YtdjccepchleacaaTabE
import Derived.Deep.AppendLies
import Derived.Deep.RegionHeld3
import Derived.Laws.OwnMore
import Derived.Deep.RegionLaw
set_option linter.unusedVariables false
set_option linter.unusedSimpArgs false
namespace Go.Proofs.Ytdjccepchleacaa
open Go.RowKit Go.BigFrame
namespace Tb
def Place.cells (p : Place) : List Value := [.string p.first, .int .i64 p.start, .int .i64 p.stop]
theorem Place.len (p : Place) : p.cells.length = 3 := rfl
theorem Place.one (p : Place) : ∀ u ∈ p.cells, u.oneCell' = true := by
  intro u hu
  simp [Place.cells] at hu
  rcases hu with rfl | rfl | rfl <;> rfl
/-- A table that is being opened. -/
def At (w : World) (base b : Nat) (s : ByteArray) (n : Int) (last : ByteArray) (bs : List Place) : Prop :=
  ∃ v, Bk w b 72 #[.string s, .int .i64 n, .string last, v] ∧ w.ownsRow base 78 3 v bs.length (bs.flatMap Place.cells) ∧ v.ownBlock ≠ some b
theorem info_place : (Try.prog.info? 78).map (fun i => (i.zero, i.size, i.bytes)) = some (some (.agg #[.string ByteArray.empty, .int .i64 0, .int .i64 0]), 3, 32) := by kernel_rfl
end Tb
theorem flat_set3 : ∀ (bs : List Tb.Place) (y : Tb.Place) (q : Nat), bs.getLast? = some y → (bs.flatMap Tb.Place.cells).set ((bs.length - 1) * 3 + 2) (.int .i64 q) = (bs.dropLast ++ [(⟨y.first, y.start, q⟩ : Tb.Place)]).flatMap Tb.Place.cells := by
  intro bs y q h
  obtain ⟨bs', rfl⟩ : ∃ bs', bs = bs' ++ [y] := by
    have := List.getLast?_eq_some_iff.1 h
    exact this
  have hl : (bs'.flatMap Tb.Place.cells).length = bs'.length * 3 := flat_len Tb.Place.len bs'
  rw [List.dropLast_concat, List.flatMap_append, List.flatMap_append, List.length_append, List.set_append, if_neg (by rw [hl]; simp), hl]
  congr 1
  have e : (bs'.length + [y].length - 1) * 3 + 2 - bs'.length * 3 = 2 := by simp
  rw [e]
  rfl
theorem ownBlock_ne' {w : World} {base : Nat} {e : TypeId} {size : Nat} {v : Value} {n : Nat} {xs : List Value} (h : w.ownsRow base e size v n xs) {g : Nat} {cs : Array Value} {T : TypeId} {fr : Nat × Nat} (hg : w.heap[g]? = some (.cells cs T fr)) (hT : T ≠ e) : v.ownBlock ≠ some g := by
  rcases h.2 with ⟨rfl, _⟩ | ⟨g', cap, cur, rfl, hb, hgg, _⟩
  · intro e; cases e
  · intro e
    simp [Value.ownBlock] at e
    subst e
    rw [hgg] at hg
    injection hg with hg
    injection hg with _ h2
    exact hT h2.symm
theorem set_grown (w : World) (b j : Nat) (u : Value) : w.grownBy (w.setCell ⟨b, j, none⟩ u) (some b) := ⟨rfl, rfl, rfl, by simp, fun k _ hk => heap_setCell_other w ⟨b, j, none⟩ k u (fun e => hk (by simp [e]))⟩
/-- Behind 't.blocks = append(t.blocks, ..)'. -/
theorem Tb.index_done {base b : Nat} {s last xk : ByteArray} {n : Int} {A : Option Addr} {m c gg cap : Nat} {xs : List Value} {cs : Array Value} {w w1 w2 : World} (hbb : base ≤ b) (news : List Value)
    (hq1 : Bk w1 b 72 #[.string s, .int .i64 n, .string xk, .slice A m c]) (hne : (Value.slice A m c).ownBlock ≠ some b)
    (hr1 : w1.ownsRow base 78 3 (.slice A m c) m xs) (hB1 : Below base w w1) (ho1 : Bd.Oth 78 b w w1)
    (hown2 : w2.ownsRow base 78 3 (.slice (some ⟨gg, 0, none⟩) (m + 1) cap) (m + 1) (xs ++ news))
    (hgrow : (w1.alloc (.cells cs 78)).drew.grownBy w2 (Value.slice A m c).ownBlock) (hat : (Value.slice A m c).ownBlock = some gg ∨ gg = w1.heap.size + 1) :
    (∃ v, Bk (w2.setCell ⟨b, 3, none⟩ (.slice (some ⟨gg, 0, none⟩) (m + 1) cap)) b 72 #[.string s, .int .i64 n, .string xk, v] ∧ World.ownsRow (w2.setCell ⟨b, 3, none⟩ (.slice (some ⟨gg, 0, none⟩) (m + 1) cap)) base 78 3 v (m + 1) (xs ++ news) ∧ v.ownBlock ≠ some b) ∧
      Below base w (w2.setCell ⟨b, 3, none⟩ (.slice (some ⟨gg, 0, none⟩) (m + 1) cap)) ∧ Bd.Oth 78 b w (w2.setCell ⟨b, 3, none⟩ (.slice (some ⟨gg, 0, none⟩) (m + 1) cap)) := by
  have hbl := hq1.lt
  have hgb : (Value.slice (some ⟨gg, 0, none⟩) (m + 1) cap).ownBlock ≠ some b := by
    intro e
    simp [Value.ownBlock] at e
    rcases hat with h | h
    · rw [h, e] at hne; exact hne rfl
    · omega
  have hbz : base ≤ w1.heap.size := by omega
  refine ⟨⟨_, (((hq1.alloc _).drew).grown hgrow (Ne.symm hne)).set_ 3 _, hown2.kept (set_grown w2 b 3 _) (.inr hgb), hgb⟩, ?_, ?_⟩
  · refine Below.setCell ?_ hbb _
    exact (((hB1.alloc hbz _).drew).grown hgrow (by simp; omega) (fun k hk => (hr1.lt k hk).1))
  · refine Bd.Oth.set ?_ 3 _
    intro g cs' T fr hg hT hb'
    have h1 := ho1 g cs' T fr hg hT hb'
    have h2 : (w1.alloc (.cells cs 78)).drew.heap[g]? = some (.cells cs' T fr) := (Lib.alloc_old w1 _ g (Bd.lt_heap h1)).trans h1
    exact (hgrow.block g (Bd.lt_heap h2) (fun e' => ownBlock_ne' hr1 h1 hT e'.symm)).trans h2
set_option maxRecDepth 100000 in
set_option maxHeartbeats 4000000 in
theorem tindex_any (base b : Nat) (s : ByteArray) (n : Int) (last : ByteArray) (bs : List Tb.Place) (x : Tb.Ent) (p q : Nat) (hp : p ≤ 1000000000) (hq : q ≤ 1000000000) (hbs : bs.length ≤ 1000000000) (hst : ∀ y ∈ bs, y.start ≤ 1000000000) (w : World) (hbb : base ≤ b) (h : Tb.At w base b s n last bs) :
    Calls Try.prog 33 #[.pointer (some ⟨b, 0, none⟩), x.val, .int .i64 p, .int .i64 q] w fun e w' => e = .returned (.tuple #[]) ∧ Tb.At w' base b s n x.key (Tb.idx bs x p q) ∧ Below base w w' ∧ Bd.Oth 78 b w w' := by
  obtain ⟨v, hk, hown, hne⟩ := h
  obtain ⟨A, c, rfl, hlie, hm1, hnc, hA, hA2⟩ := Lie.of_own hown
  have hbl := hk.lt
  obtain ⟨xk, xv, xg⟩ := x
  have HO := Lib.hid hown
  have HL := Lib.hid hlie
  have HA := Lib.hid hA
  have HA2 := Lib.hid hA2
  have HST := Lib.hid hst
  clear hown hlie hA hA2 hst
  obtain ⟨⟨c0, c1, c2, c3⟩, f0, f1, f2, f3⟩ := hk.k4
  unfold Tb.Ent.val
  by_cases hb0 : bs = []
  · subst hb0
    go_enter Try.func33, Try.ntmps33
    go_wp2_with fail
    have hws : (w.setCell ⟨b, 2, none⟩ (.string xk)).heap.size = w.heap.size := by simp
    have hq1 : Bk _ b 72 #[.string s, .int .i64 n, .string xk, .slice A 0 c] := (hk.set_ 2 (.string xk)).alloc (.cells #[.string xk, .string xv, .bool xg] 36)
    have hx1 : Bk ((w.setCell ⟨b, 2, none⟩ (.string xk)).alloc (.cells #[.string xk, .string xv, .bool xg] 36)) w.heap.size 36 #[.string xk, .string xv, .bool xg] := by have := (Bk.new (w.setCell ⟨b, 2, none⟩ (.string xk)) 36 #[.string xk, .string xv, .bool xg]); rwa [hws] at this
    have ho1 := ((Bd.Oth.refl 78 b w).set 2 (.string xk)).alloc (.cells #[.string xk, .string xv, .bool xg] 36)
    have hB1 := ((Below.refl base w).setCell (p := ⟨b, 2, none⟩) hbb (.string xk)).alloc (by rw [hws]; omega) (.cells #[.string xk, .string xv, .bool xg] 36)
    have hr1 : World.ownsRow ((w.setCell ⟨b, 2, none⟩ (.string xk)).alloc (.cells #[.string xk, .string xv, .bool xg] 36)) base 78 3 (.slice A 0 c) 0 [] := (HO.out.kept (w' := w.setCell ⟨b, 2, none⟩ (.string xk)) (row := some b) ⟨rfl, rfl, rfl, by simp, fun k _ hk => heap_setCell_other w ⟨b, 2, none⟩ k _ (fun e => hk (by simp [e]))⟩ (.inr hne)).alloc (.cells #[.string xk, .string xv, .bool xg] 36)
    have hz1 : ((w.setCell ⟨b, 2, none⟩ (.string xk)).alloc (.cells #[.string xk, .string xv, .bool xg] 36)).heap.size = w.heap.size + 1 := by simp
    generalize ((w.setCell ⟨b, 2, none⟩ (.string xk)).alloc (.cells #[.string xk, .string xv, .bool xg] 36)) = w1 at hq1 hx1 ho1 hB1 hr1 hz1 ⊢
    obtain ⟨i0, hi0, hz0, hz1', hz2⟩ := info_parts Tb.info_place
    clear HO c0 c1 c2 c3 f0 f1 f2 f3 hk
    have HR := Lib.hid hr1
    have HZ := Lib.hid hz1
    clear hr1 hz1 hws
    have e0 := hq1.cell 3
    have e1 := hx1.cell 0
    have g3 := hq1.frozen 3
    simp only [List.size_toArray, List.length_cons, List.getElem?_toArray, List.getElem?_cons_succ, List.getElem?_cons_zero] at e0 e1
    have hnx : (Value.slice A 0 c).ownBlock ≠ some w.heap.size := by
      intro e
      cases A with
      | none => cases e
      | some ad => have := HA2.out ad rfl; simp [Value.ownBlock] at e; omega
    have hb1 : b < w1.heap.size := hq1.lt
    go_region_law ((refine step_append_lies _ (by rfl) _ _ _ (by rfl) base 78 i0 _ 3 32 Try.underlying70 hi0 hz0 hz1' hz2 rfl (by omega) _ 0 [] (by rfl) ((HR.out.alloc _).drew)
                        ⟨w1.heap.size, 0, none⟩ 1 1 [.string xk, .int .i64 p, .int .i64 q] (by rfl) (by rfl) (World.news_of_block (cs := #[.string xk, .int .i64 p, .int .i64 q]) (t := 78) (fr := (0, 0)) (heap_alloc_new w1 _)) (by simp [Value.oneCell'])
                        (by omega) (by unfold maxLen; omega) (by omega) (by simp; have := HZ.out; omega) (w1.heap.size + 1) (by simp) ?_; intro gg cap w2 hown2 hgrow hat hlt; have fz : w2.frozen? ⟨b, 3, none⟩ = false := (hgrow.frozen_far ⟨b, 3, none⟩ (by show b < _; simp; omega) (Ne.symm hne)).trans ((hq1.alloc _).frozen 3); have cz : w2.cell? ⟨b, 3, none⟩ = some (.slice A 0 c) := (hgrow.cell_far ⟨b, 3, none⟩ (by show b < _; simp; omega) (Ne.symm hne)).trans ((hq1.alloc _).cell 3)))
    all_goals
      have HF := Lib.hid (Tb.index_done (last := last) hbb _ hq1 hne HR.out hB1 ho1 hown2 hgrow hat)
      clear hown2 hgrow hat hlt fz cz
      go_wp2_with fail
      refine bodyPost_ret (results_none rfl _ _ _) rfl ?_
      obtain ⟨h1, h2, h3⟩ := HF.out
      exact ⟨rfl, h1, h2, h3⟩
  · have hpos : 0 < bs.length := List.length_pos_iff.2 hb0
    obtain ⟨g, off, rfl, hcl⟩ := HL.out.get Tb.Place.len (show bs.length - 1 < bs.length by omega) (by omega)
    obtain rfl : off = 0 := (HA2.out _ rfl).2.2
    obtain ⟨y, HGL, s1, hcl2, hst⟩ : ∃ y, Hid (bs.getLast? = some y) ∧ w.cell? ⟨g, (bs.length - 1) * 3 + 1, none⟩ = some (.int .i64 y.start) ∧ w.cell? ⟨g, (bs.length - 1) * 3 + 2, none⟩ = some (.int .i64 y.stop) ∧ y.start ≤ 1000000000 :=
      ⟨bs[bs.length - 1], Lib.hid (by rw [List.getLast?_eq_getElem?, List.getElem?_eq_getElem (by omega)]), by have := hcl 1 _ rfl; rwa [Nat.zero_add] at this, by have := hcl 2 _ rfl; rwa [Nat.zero_add] at this, HST.out _ (List.getElem_mem _)⟩
    have hgne : ¬ g = b := by intro e; subst e; exact hne rfl
    have hgw : g < w.heap.size := (HA2.out _ rfl).2.1
    have hgw2 : ¬ g = w.heap.size := by omega
    have i1 : (bs.length : Int) - 1 < (bs.length : Int) := by omega
    have i0 : (0 : Int) ≤ (bs.length : Int) - 1 := by omega
    have i2 : ((bs.length : Int) - 1).toNat = bs.length - 1 := by omega
    have i3 : ¬ (bs.length : Int) - 1 < 0 := by omega
    clear hcl hb0
    generalize hm : bs.length = m at *
    have HM := Lib.hid hm
    clear hm
    obtain ⟨y0, y1, y2⟩ := y
    simp only at s1 hcl2 hst
    by_cases hbig : 1024 < (q : Int) - (y1 : Int)
    · go_enter Try.func33, Try.ntmps33
      go_wp2_with fail
      have hws : (w.setCell ⟨b, 2, none⟩ (.string xk)).heap.size = w.heap.size := by simp
      have hq1 : Bk _ b 72 #[.string s, .int .i64 n, .string xk, .slice (some ⟨g, 0, none⟩) m c] := (hk.set_ 2 (.string xk)).alloc (.cells #[.string xk, .string xv, .bool xg] 36)
      have hx1 : Bk ((w.setCell ⟨b, 2, none⟩ (.string xk)).alloc (.cells #[.string xk, .string xv, .bool xg] 36)) w.heap.size 36 #[.string xk, .string xv, .bool xg] := by have := (Bk.new (w.setCell ⟨b, 2, none⟩ (.string xk)) 36 #[.string xk, .string xv, .bool xg]); rwa [hws] at this
      have ho1 := ((Bd.Oth.refl 78 b w).set 2 (.string xk)).alloc (.cells #[.string xk, .string xv, .bool xg] 36)
      have hB1 := ((Below.refl base w).setCell (p := ⟨b, 2, none⟩) hbb (.string xk)).alloc (by rw [hws]; omega) (.cells #[.string xk, .string xv, .bool xg] 36)
      have hr1 : World.ownsRow ((w.setCell ⟨b, 2, none⟩ (.string xk)).alloc (.cells #[.string xk, .string xv, .bool xg] 36)) base 78 3 (.slice (some ⟨g, 0, none⟩) m c) m (bs.flatMap Tb.Place.cells) := (HO.out.kept (w' := w.setCell ⟨b, 2, none⟩ (.string xk)) (row := some b) ⟨rfl, rfl, rfl, by simp, fun k _ hk => heap_setCell_other w ⟨b, 2, none⟩ k _ (fun e => hk (by simp [e]))⟩ (.inr hne)).alloc (.cells #[.string xk, .string xv, .bool xg] 36)
      have hz1 : ((w.setCell ⟨b, 2, none⟩ (.string xk)).alloc (.cells #[.string xk, .string xv, .bool xg] 36)).heap.size = w.heap.size + 1 := by simp
      generalize ((w.setCell ⟨b, 2, none⟩ (.string xk)).alloc (.cells #[.string xk, .string xv, .bool xg] 36)) = w1 at hq1 hx1 ho1 hB1 hr1 hz1 ⊢
      obtain ⟨i0, hi0, hz0, hz1', hz2⟩ := info_parts Tb.info_place
      clear HO c0 c1 c2 c3 f0 f1 f2 f3 hk
      have HR := Lib.hid hr1
      have HZ := Lib.hid hz1
      clear hr1 hz1 hws
      have e0 := hq1.cell 3
      have e1 := hx1.cell 0
      have g3 := hq1.frozen 3
      simp only [List.size_toArray, List.length_cons, List.getElem?_toArray, List.getElem?_cons_succ, List.getElem?_cons_zero] at e0 e1
      have hnx : (Value.slice (some ⟨g, 0, none⟩) m c).ownBlock ≠ some w.heap.size := by
        intro e
        simp [Value.ownBlock] at e
        omega
      have hb1 : b < w1.heap.size := hq1.lt
      go_region_law ((refine step_append_lies _ (by rfl) _ _ _ (by rfl) base 78 i0 _ 3 32 Try.underlying70 hi0 hz0 hz1' hz2 rfl (by omega) _ m (bs.flatMap Tb.Place.cells) (by rfl) ((HR.out.alloc _).drew)
                          ⟨w1.heap.size, 0, none⟩ 1 1 [.string xk, .int .i64 p, .int .i64 q] (by rfl) (by rfl) (World.news_of_block (cs := #[.string xk, .int .i64 p, .int .i64 q]) (t := 78) (fr := (0, 0)) (heap_alloc_new w1 _)) (by simp [Value.oneCell'])
                          (by omega) (by unfold maxLen; omega) (by omega) (by simp; have := HZ.out; omega) (w1.heap.size + 1) (by simp) ?_; intro gg cap w2 hown2 hgrow hat hlt; have fz : w2.frozen? ⟨b, 3, none⟩ = false := (hgrow.frozen_far ⟨b, 3, none⟩ (by show b < _; simp; omega) (Ne.symm hne)).trans ((hq1.alloc _).frozen 3); have cz : w2.cell? ⟨b, 3, none⟩ = some (.slice (some ⟨g, 0, none⟩) m c) := (hgrow.cell_far ⟨b, 3, none⟩ (by show b < _; simp; omega) (Ne.symm hne)).trans ((hq1.alloc _).cell 3)))
      all_goals
        have HF := Lib.hid (Tb.index_done (last := last) hbb _ hq1 hne HR.out hB1 ho1 hown2 hgrow hat)
        clear hown2 hgrow hat hlt fz cz
        go_wp2_with fail
        refine bodyPost_ret (results_none rfl _ _ _) rfl ?_
        obtain ⟨⟨v, k1, k2, k3⟩, h2, h3⟩ := HF.out
        refine ⟨rfl, ⟨v, k1, ?_, k3⟩, h2, h3⟩
        have e : Tb.idx bs ⟨xk, xv, xg⟩ p q = bs ++ [⟨xk, p, q⟩] := by
          unfold Tb.idx
          rw [HGL.out]
          simp only
          rw [if_pos (by omega)]
        rw [e, List.length_append, List.flatMap_append, HM.out]
        exact k2
    · have hsm : ¬ (1024 : Int) < (q : Int) - (y1 : Int) := hbig
      have s2 : w.cell? ⟨g, (m - 1) * 3 + 2, none⟩ = some (.int .i64 y2) := by
        have := hcl2
        exact this
      have fr2 : w.frozen? ⟨g, (m - 1) * 3 + 2, none⟩ = false := HO.out.frozenAt _
      go_enter Try.func33, Try.ntmps33
      go_wp2_with fail
      refine bodyPost_end (results_none rfl _ _ _) rfl ?_
      have hws : (w.setCell ⟨b, 2, none⟩ (.string xk)).heap.size = w.heap.size := by simp
      have hws2 : ((w.setCell ⟨b, 2, none⟩ (.string xk)).setCell ⟨g, (m - 1) * 3 + 2, none⟩ (.int .i64 q)).heap.size = w.heap.size := by simp
      have hr2 := HO.out.kept (set_grown w b 2 (.string xk)) (.inr hne)
      have hr3 := (hr2.stored ((m - 1) * 3 + 2) (.int .i64 q)).1
      rw [← HM.out, flat_set3 bs _ q HGL.out] at hr3
      have e : Tb.idx bs ⟨xk, xv, xg⟩ p q = bs.dropLast ++ [⟨y0, y1, q⟩] := by
        unfold Tb.idx
        rw [HGL.out]
        simp only
        rw [if_neg (by omega)]
      have el : (bs.dropLast ++ [(⟨y0, y1, q⟩ : Tb.Place)]).length = m := by rw [List.length_append, List.length_dropLast, HM.out]; simp; omega
      refine ⟨rfl, ⟨_, ((hk.set_ 2 (.string xk)).far (p := ⟨g, (m - 1) * 3 + 2, none⟩) (fun e => hgne e.symm) _).alloc _, ?_, hne⟩, ?_, ?_⟩
      · rw [e, el]
        rw [HM.out] at hr3
        exact hr3.alloc _
      · exact (((Below.refl base w).setCell (p := ⟨b, 2, none⟩) hbb _).setCell (p := ⟨g, (m - 1) * 3 + 2, none⟩) (HA2.out _ rfl).1 _).alloc (by omega) _
      · refine Bd.Oth.alloc ?_ _
        intro g' cs' T fr hg hT hb'
        have h1 := ((Bd.Oth.refl 78 b w).set 2 (.string xk)) g' cs' T fr hg hT hb'
        refine (Below.heap_setCell _ ⟨g, (m - 1) * 3 + 2, none⟩ _ g' ?_).trans h1
        intro e'
        exact ownBlock_ne' HO.out hg hT (by rw [show g' = g from e']; rfl)
end Go.Proofs.Ytdjccepchleacaa
