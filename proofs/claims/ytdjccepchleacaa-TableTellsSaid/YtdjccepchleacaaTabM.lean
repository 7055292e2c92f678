/- TableBack: the walk. -/
import Derived.Test.YtdjccepchleacaaTabL
import Derived.Test.YtdjccepchleacaaTabOpen
import Derived.Test.YtdjccepchleacaaRoundQ
import Derived.Sort.CutIn
set_option linter.unusedVariables false
set_option linter.unusedSimpArgs false
namespace Go.Proofs.Ytdjccepchleacaa
open Go.RowKit Go.BigFrame Go.Shelf
attribute [local go_sem] Oper.semAt_some
theorem Lie.kept' {W W' : World} {row : Option Nat} {A : Option Addr} {vs : List Value} (h : Lie W A vs) (hg : W.grownBy W' row) (hrow : ∀ r, row = some r → ∃ o : Obj, W.heap[r]? = some o ∧ o.isCells = false) : Lie W' A vs := fun h0 => by
  obtain ⟨g, off, e, hc⟩ := h h0
  exact ⟨g, off, e, fun j u hu => cell_kept (hc j u hu) hg hrow⟩
theorem Lie.set' {W : World} {A : Option Addr} {vs : List Value} (h : Lie W A vs) (p : Addr) (u : Value) (hp : 0 < vs.length → ∀ ad, A = some ad → ad.block ≠ p.block) : Lie (W.setCell p u) A vs := fun h0 => by
  obtain ⟨g, off, e, hc⟩ := h h0
  refine ⟨g, off, e, fun j v hv => ?_⟩
  rw [World.cell?_setCell_other _ _ _ _ (by intro e2; exact hp h0 _ e (by rw [e2]))]
  exact hc j v hv
/-- What a law over a list of entries and a key has about it: their boxes, the result's cell, the list itself. -/
structure Tb.Law (w W : World) (A : Option Addr) (n c : Nat) (l : List Tb.Ent) (key : ByteArray) : Prop where
  b0 : Bk W w.heap.size 22 #[.slice A n c]
  b1 : Bk W (w.heap.size + 1) 9 #[.string key]
  b2 : Bk W (w.heap.size + 2) 4 #[.bool false]
  lie : Lie W A (l.flatMap Tb.Ent.cells)
  old : Lie w A (l.flatMap Tb.Ent.cells)
  bel : Below w.heap.size w W
  size : w.heap.size + 3 ≤ W.heap.size
section
variable {w W W' : World} {A : Option Addr} {n c : Nat} {l : List Tb.Ent} {key : ByteArray}
theorem Tb.Law.below (h : Tb.Law w W A n c l key) (hb : Below W.heap.size W W') : Tb.Law w W' A n c l key :=
  ⟨h.b0.below hb h.b0.lt, h.b1.below hb h.b1.lt, h.b2.below hb h.b2.lt, h.lie.below hb, h.old, h.bel.trans (hb.mono (by have := h.size; omega)), Nat.le_trans h.size hb.size⟩
theorem Tb.Law.alloc (h : Tb.Law w W A n c l key) (o : Obj) : Tb.Law w (W.alloc o) A n c l key := h.below ((Below.refl _ _).alloc (Nat.le_refl _) _)
theorem Tb.Law.kept {row : Option Nat} (h : Tb.Law w W A n c l key) (hg : W.grownBy W' row) (hrow : ∀ r, row = some r → w.heap.size ≤ r ∧ ∃ o : Obj, W.heap[r]? = some o ∧ o.isCells = false) : Tb.Law w W' A n c l key :=
  ⟨bk_kept h.b0 hg (fun r e => (hrow r e).2), bk_kept h.b1 hg (fun r e => (hrow r e).2), bk_kept h.b2 hg (fun r e => (hrow r e).2), h.lie.kept' hg (fun r e => (hrow r e).2), h.old, h.bel.grown hg (by have := h.size; omega) (fun k e => (hrow k e).1), Nat.le_trans h.size hg.size⟩
theorem Tb.Law.set (h : Tb.Law w W A n c l key) {g : Nat} (hg : w.heap.size + 3 ≤ g) (j : Nat) (u : Value) : Tb.Law w (W.setCell ⟨g, j, none⟩ u) A n c l key :=
  ⟨h.b0.far (by simp; omega) _, h.b1.far (by simp; omega) _, h.b2.far (by simp; omega) _, h.lie.set' _ _ (fun h0 ad e => by
    obtain ⟨g', off, e', hc⟩ := h.old h0
    rw [e] at e'
    injection e' with e'
    subst e'
    have := World.block_lt_of_cell? w _ (hc 0 _ (List.getElem?_eq_getElem h0))
    simp only at this ⊢
    omega), h.old, h.bel.setCell (by show _ ≤ g; omega) _, by simpa using h.size⟩
theorem Tb.Law.facts (h : Tb.Law w W A n c l key) : W.cell? ⟨w.heap.size, 0, none⟩ = some (.slice A n c) ∧ W.cell? ⟨w.heap.size + 1, 0, none⟩ = some (.string key) ∧ W.cell? ⟨w.heap.size + 2, 0, none⟩ = some (.bool false) ∧ W.frozen? ⟨w.heap.size + 2, 0, none⟩ = false :=
  ⟨h.b0.cell 0, h.b1.cell 0, h.b2.cell 0, h.b2.frozen 0⟩
end
theorem func6_not_nil (a b : Addr) (W : World) : Sem.run Try.prog (binOp .eql 33 (.func (.func 34) #[] #[.pointer (some a), .pointer (some b)]) Value.nilFunc) W = .ok (.bool false) W := by kernel_rfl
theorem row_far {W : World} {base size n g j : Nat} {e t : TypeId} {v u : Value} {xs : List Value} {cs : Array Value} (h : W.ownsRow base e size v n xs) (hb : Bk W g t cs) (ht : t ≠ e) : (W.setCell ⟨g, j, none⟩ u).ownsRow base e size v n xs :=
  h.kept (set_grown W g j u) (.inr (ownBlock_ne' h hb ht))
theorem Tb.Opened.set {W : World} {base b g j : Nat} {s : ByteArray} {l : List Tb.Ent} {t : TypeId} {cs : Array Value} (h : Tb.Opened W base b s l) (hb : Bk W g t cs) (ht : t ≠ 78) (hg : b ≠ g) (u : Value) : Tb.Opened (W.setCell ⟨g, j, none⟩ u) base b s l := by
  obtain ⟨bs, last, ⟨v, h1, h2, h3⟩, h4⟩ := h
  exact ⟨bs, last, ⟨v, h1.far (by simpa using hg) _, row_far h2 hb ht, h3⟩, h4⟩
theorem Tb.Tab.set {W : World} {base b kp kk g j : Nat} {s key : ByteArray} {l : List Tb.Ent} {t : TypeId} {cs : Array Value} (h : Tb.Tab W base b kp kk s key l) (hb : Bk W g t cs) (ht : t ≠ 78) (h1 : b ≠ g) (h2 : kp ≠ g) (h3 : kk ≠ g) (u : Value) : Tb.Tab (W.setCell ⟨g, j, none⟩ u) base b kp kk s key l :=
  ⟨(World.cell?_setCell_other _ _ _ _ (by intro e; injection e with e1; exact h2 e1.symm)).trans h.1, (World.cell?_setCell_other _ _ _ _ (by intro e; injection e with e1; exact h3 e1.symm)).trans h.2.1, h.2.2.set hb ht h1 u⟩
/-- TableBack's rounds. -/
structure Tb.BackI (w W : World) (A : Option Addr) (n c : Nat) (l : List Tb.Ent) (key : ByteArray) (base b tb ib sb : Nat) (S : ByteArray) (pre : List Tb.Ent) : Prop where
  pre_ : pre = l.take pre.length
  len : pre.length ≤ n
  law : Tb.Law w W A n c l key
  op : Tb.Opened W base b S l
  bt : Bk W tb 28 #[.pointer (some ⟨b, 0, none⟩)]
  bi : Bk W ib 3 #[.int .i64 pre.length]
  bs : Bk W sb 4 #[.bool (pre.any fun x => x.key.toList == key.toList)]
theorem Tb.BackI.kept {w W W' : World} {row : Option Nat} {A : Option Addr} {n c : Nat} {l : List Tb.Ent} {key : ByteArray} {base b tb ib sb : Nat} {S : ByteArray} {pre : List Tb.Ent} (h : Tb.BackI w W A n c l key base b tb ib sb S pre) (hg : W.grownBy W' row) (hrow : ∀ r, row = some r → w.heap.size ≤ r ∧ ∃ o : Obj, W.heap[r]? = some o ∧ o.isCells = false) : Tb.BackI w W' A n c l key base b tb ib sb S pre :=
  ⟨h.pre_, h.len, h.law.kept hg hrow, h.op.kept hg (fun r e => (hrow r e).2), bk_kept h.bt hg (fun r e => (hrow r e).2), bk_kept h.bi hg (fun r e => (hrow r e).2), bk_kept h.bs hg (fun r e => (hrow r e).2)⟩
theorem Tb.BackI.below {w W W' : World} {A : Option Addr} {n c : Nat} {l : List Tb.Ent} {key : ByteArray} {base b tb ib sb : Nat} {S : ByteArray} {pre : List Tb.Ent} (h : Tb.BackI w W A n c l key base b tb ib sb S pre) (hb : Below W.heap.size W W') : Tb.BackI w W' A n c l key base b tb ib sb S pre :=
  ⟨h.pre_, h.len, h.law.below hb, h.op.below hb, h.bt.below hb h.bt.lt, h.bi.below hb h.bi.lt, h.bs.below hb h.bs.lt⟩
theorem Tb.BackI.next {w W : World} {A : Option Addr} {n c : Nat} {l : List Tb.Ent} {key : ByteArray} {base b tb ib sb : Nat} {S : ByteArray} {pre : List Tb.Ent} (h : Tb.BackI w W A n c l key base b tb ib sb S pre) {x : Tb.Ent} (hx : l[pre.length]? = some x) (hn : l.length = n) (q : Nat) {bl : Bool} (hbl : bl = ((pre.any fun x => x.key.toList == key.toList) || x.key.toList == key.toList))
    (hb : b < tb) (ht : tb < ib) (hi : ib < sb) (hw : w.heap.size + 3 ≤ ib) : Tb.BackI w (((W.drewN q).setCell ⟨sb, 0, none⟩ (.bool bl)).setCell ⟨ib, 0, none⟩ (.int .i64 ((pre.length : Int) + 1))) A n c l key base b tb ib sb S (pre ++ [x]) := by
  have hlt : pre.length < l.length := (List.getElem?_eq_some_iff.1 hx).1
  have hd := h.below (below_drewN (Below.refl W.heap.size W) q)
  have h1 := hd.op.set (j := 0) hd.bs (by decide) (by omega) (.bool bl)
  have hbi := hd.bi.far (p := ⟨sb, 0, none⟩) (by show ib ≠ sb; omega) (.bool bl)
  refine ⟨?_, ?_, (hd.law.set (g := sb) (by omega) 0 _).set (g := ib) hw 0 _, h1.set (j := 0) hbi (by decide) (by omega) _, (hd.bt.far (p := ⟨sb, 0, none⟩) (by show tb ≠ sb; omega) _).far (p := ⟨ib, 0, none⟩) (by show tb ≠ ib; omega) _, ?_, ?_⟩
  · rw [List.length_append]
    show pre ++ [x] = l.take (pre.length + 1)
    have e : l[pre.length] = x := by rw [List.getElem?_eq_getElem hlt] at hx; injection hx
    rw [List.take_succ_eq_append_getElem hlt, e, ← h.pre_]
  · rw [List.length_append]; simp; omega
  · have := hbi.set_ 0 (.int .i64 ((pre.length : Int) + 1))
    rw [List.length_append]
    exact this
  · have := (hd.bs.set_ 0 (.bool bl)).far (p := ⟨ib, 0, none⟩) (by show sb ≠ ib; omega) (.int .i64 ((pre.length : Int) + 1))
    rw [List.any_append, hbl] at *
    simpa using this
theorem keeps_below {W W' : World} (h : Below W.heap.size W W') : KeepsOthers W W' := KeepsOthers.of_grownBy (gb_below h none) (fun j o e => by cases e)
theorem Tb.nought_list (x : ByteArray) : (x ++ ⟨#[0]⟩ : ByteArray).toList = x.toList ++ [0] := by
  rw [ByteArray.toList_eq, ByteArray.toList_eq]
  simp
set_option maxRecDepth 100000 in
set_option maxHeartbeats 8000000 in
theorem tableBack_walk (A : Option Addr) (n c : Nat) (l : List Tb.Ent) (key : ByteArray) (w : World) (hn : l.length = n) (hm : n ≤ 9223372036854775807) (hz : ∀ x ∈ l, x.key.size ≤ maxLen ∧ x.value.size ≤ maxLen) (hA : A = none → n = 0 ∧ c = 0) (hl : Lie w A (l.flatMap Tb.Ent.cells)) (hkey : key.size ≤ maxLen) :
    Calls Try.prog 3 #[.slice A n c, .string key] w fun e w' => e = .returned (.bool true) ∧ Below w.heap.size w w' := by
  have Hn := Lib.hid hn
  have Hl := Lib.hid hl
  have Hz := Lib.hid hz
  clear hn hl hz hA
  refine (callsIn_wide (n := 6)).1 ?_
  refine callsIn_of_wp_marks Try.func3 rfl trivial ?_ rfl
  simp only [Try.ntmps3, List.size_toArray, List.length_cons, List.length_nil, Nat.reduceAdd, Nat.reduceSub, Array.replicate_succ, Array.replicate_zero, List.push_toArray, List.append_toArray, List.nil_append, List.cons_append]
  gi_wp2_with fail
  have hL0 : Tb.Law w (((w.alloc (.cells #[.slice A n c] 22)).alloc (.cells #[.string key] 9)).alloc (.cells #[.bool false] 4)) A n c l key := by
    have q1 := (Bk.new (w.alloc (.cells #[.slice A n c] 22)) 9 #[.string key]).alloc (.cells #[.bool false] 4)
    have q2 := Bk.new ((w.alloc (.cells #[.slice A n c] 22)).alloc (.cells #[.string key] 9)) 4 #[.bool false]
    simp only [World.size_alloc] at q1 q2
    have hb := ((((Below.refl w.heap.size w).alloc (Nat.le_refl _) (.cells #[.slice A n c] 22)).alloc (by simp) (.cells #[.string key] 9)).alloc (by simp; omega) (.cells #[.bool false] 4))
    exact ⟨((Bk.new w _ _).alloc _).alloc _, q1, q2, Hl.out.below hb, Hl.out, hb, by simp⟩
  generalize (((w.alloc (.cells #[.slice A n c] 22)).alloc (.cells #[.string key] 9)).alloc (.cells #[.bool false] 4)) = w0 at hL0 ⊢
  refine ⟨trivial, (callsIn_wide.2 (awake6_any _)).mono ?_⟩
  rintro e w1 ⟨rfl, hb1⟩
  have L1 := Lib.hid (hL0.below hb1)
  clear hL0 hb1
  obtain ⟨c0, c1, c2, f2⟩ := L1.out.facts
  gi_wp2_with fail
  refine ⟨trivial, (callsIn_wide.2 (great6_any A n c 300 (by omega) l Hn.out hm Hz.out _ L1.out.lie)).mono ?_⟩
  rintro e w2 ⟨rfl, hb2⟩
  have L2 := Lib.hid (L1.out.below hb2)
  clear L1 hb2 c0 c1 c2 f2
  obtain ⟨c0, c1, c2, f2⟩ := L2.out.facts
  obtain ⟨G, HG⟩ : ∃ G, Hid (Tb.great 300 l = G) := ⟨_, Lib.hid rfl⟩
  rw [HG.out]
  cases G with
  | true =>
    gi_wp2_with fail
    (have cR := World.cell?_setCell_same' w2 ⟨w.heap.size + 1 + 1, 0, none⟩ (.bool true) (by rw [c2]; rfl); refine ⟨.bool true, ?_, rfl, L2.out.bel.setCell (p := ⟨w.heap.size + 1 + 1, 0, none⟩) (by simp; omega) _⟩; simp [results, Try.f3, go_sem, cR])
  | false =>
    have hsm := Tb.great_small HG.out
    have hn3 := (Tb.gsum_mem HG.out).1
    rw [Hn.out] at hn3
    gi_wp2_with fail
    refine ⟨trivial, (callsIn_wide.2 (tbuild_any A n c l Hn.out hm hsm _ L2.out.lie)).mono ?_⟩
    rintro e w3 ⟨rfl, hb3⟩
    have L3 := Lib.hid (L2.out.below hb3)
    clear L2 hb3 c0 c1 c2 f2
    obtain ⟨c0, c1, c2, f2⟩ := L3.out.facts
    obtain ⟨R, HR⟩ : ∃ R, Hid (Tb.right l = R) := ⟨_, Lib.hid rfl⟩
    rw [HR.out]
    by_cases hR : R = 0
    case neg =>
      have tR : ((R : Int) != 0) = true := by rw [bne_iff_ne]; omega
      have hT : Tb.built l = ⟨#[]⟩ := by unfold Tb.built; rw [if_neg (by rw [HR.out]; exact hR)]
      have he : (⟨#[]⟩ : ByteArray).toList.isEmpty = true := by decide +kernel
      clear hR
      rw [hT]
      clear hT
      gi_wp2_with fail
      (have cR := World.cell?_setCell_same' w3 ⟨w.heap.size + 1 + 1, 0, none⟩ (.bool true) (by rw [c2]; rfl); refine ⟨.bool true, ?_, rfl, L3.out.bel.setCell (p := ⟨w.heap.size + 1 + 1, 0, none⟩) (by simp; omega) _⟩; simp [results, Try.f3, go_sem, cR])
    subst hR
    simp only [Int.cast_ofNat_Int]
    have HO : Hid (Tb.openE (Tb.built l) = some l) := Lib.hid (by unfold Tb.built; rw [if_pos HR.out]; exact Tb.open_bytes HR.out)
    have hSz : (Tb.built l).size ≤ 800000000 := by
      unfold Tb.built
      rw [if_pos HR.out, Tb.ba_size, Tb.bytes_len]
      have := Tb.body_bound HR.out
      omega
    have hsort := Tb.right_sorted HR.out
    generalize Tb.built l = S at *
    gi_wp2_with fail
    refine ⟨trivial, (callsIn_wide.2 (topen_any S hSz _)).mono ?_⟩
    intro e w4 hP
    unfold Tb.OpenP at hP
    rw [HO.out] at hP
    obtain ⟨hb4, b, hbb, rfl, hop⟩ := hP
    have L4 := Lib.hid (L3.out.below hb4)
    have HOP := Lib.hid hop
    have hb4z := L3.out.size
    clear L3 hb4 hop c0 c1 c2 f2
    obtain ⟨c0, c1, c2, f2⟩ := L4.out.facts
    gi_wp2_with fail
    have L5 := Lib.hid (L4.out.alloc (.cells #[.pointer (some ⟨b, 0, none⟩)] 28))
    have HOP5 := Lib.hid (HOP.out.below ((Below.refl _ _).alloc (Nat.le_refl _) (.cells #[.pointer (some ⟨b, 0, none⟩)] 28)))
    have qt := Bk.new w4 28 #[.pointer (some ⟨b, 0, none⟩)]
    have htb := L4.out.size
    have hbtb := HOP.out.lt
    clear L4 HOP c0 c1 c2 f2
    generalize (w4.alloc (.cells #[.pointer (some ⟨b, 0, none⟩)] 28)) = w5 at L5 HOP5 qt ⊢
    generalize w4.heap.size = tb at *
    have htb5 := qt.lt
    obtain ⟨c0, c1, c2, f2⟩ := L5.out.facts
    have ct : w5.cell? ⟨tb, 0, none⟩ = some (.pointer (some ⟨b, 0, none⟩)) := qt.cell 0
    have hnn : ((l.length : Int) != (n : Int)) = false := by rw [Hn.out]; simp
    have hnn2 : ((n : Int) != (n : Int)) = false := by simp
    have HN2 := Lib.hid (congrArg (fun k : Nat => (k : Int)) Hn.out)
    refine wpIn_wide.2 ?_
    go_quiet ((exact Calls.quiet_of_same ((tlen_any _ b S l _ (HOP5.out.below (below_drewN (Below.refl _ _) _))).mono fun _ _ ⟨h1, h2⟩ => ⟨h1, h2.symm⟩)))
    obtain ⟨w6, hw6⟩ : ∃ w6, w5.drewN nq = w6 := ⟨_, rfl⟩
    have hb6 : Below w5.heap.size w5 w6 := by rw [← hw6]; exact below_drewN (Below.refl _ _) _
    rw [hw6]
    have L6 := Lib.hid (L5.out.below hb6)
    have HOP6 := Lib.hid (HOP5.out.below hb6)
    have qt6 := qt.below hb6 qt.lt
    have htb6 : tb < w6.heap.size := qt6.lt
    have htb7 : ¬ tb = w6.heap.size := by omega
    have htb8 : ¬ tb = w6.heap.size + 1 := by omega
    have hz6 := L6.out.size
    clear hw6 L5 HOP5 qt c0 c1 c2 f2 ct htb5 hb6 hnn hnn2 HN2
    have ct : w6.cell? ⟨tb, 0, none⟩ = some (.pointer (some ⟨b, 0, none⟩)) := qt6.cell 0
    gi_wp2_with fail
    refine ⟨trivial, (callsIn_wide.2 (tfrom_any (some ⟨b, 0, none⟩) ⟨#[]⟩ _)).mono ?_⟩
    rintro e w' ⟨rfl, rfl⟩
    have hfn := func6_not_nil
    gi_wp2_with fail
    clear hfn
    obtain ⟨W1, hW1⟩ : ∃ W1, ((((w6.alloc (.cells #[.int .i64 0] 3)).alloc (.cells #[.bool false] 4)).alloc (.cells #[.pointer (some ⟨b, 0, none⟩)] 28)).alloc (.cells #[.string ⟨#[]⟩] 9)) = W1 := ⟨_, rfl⟩
    rw [hW1]
    have hz1 : W1.heap.size = w6.heap.size + 4 := by rw [← hW1]; simp
    have r0 : Bk W1 w6.heap.size 3 #[.int .i64 0] := by rw [← hW1]; exact (((Bk.new w6 _ _).alloc _).alloc _).alloc _
    have r1 : Bk W1 (w6.heap.size + 1) 4 #[.bool false] := by
      rw [← hW1]
      have h := Bk.new (w6.alloc (.cells #[.int .i64 0] 3)) 4 #[.bool false]
      rw [World.size_alloc] at h
      exact (h.alloc _).alloc _
    have r2 : Bk W1 (w6.heap.size + 1 + 1) 28 #[.pointer (some ⟨b, 0, none⟩)] := by
      rw [← hW1]
      have h := Bk.new ((w6.alloc (.cells #[.int .i64 0] 3)).alloc (.cells #[.bool false] 4)) 28 #[.pointer (some ⟨b, 0, none⟩)]
      rw [World.size_alloc, World.size_alloc] at h
      exact h.alloc _
    have r3 : Bk W1 (w6.heap.size + 1 + 1 + 1) 9 #[.string ⟨#[]⟩] := by
      rw [← hW1]
      have h := Bk.new (((w6.alloc (.cells #[.int .i64 0] 3)).alloc (.cells #[.bool false] 4)).alloc (.cells #[.pointer (some ⟨b, 0, none⟩)] 28)) 9 #[.string ⟨#[]⟩]
      rw [World.size_alloc, World.size_alloc, World.size_alloc] at h
      exact h
    have hbW1 : Below w6.heap.size w6 W1 := by rw [← hW1]; exact ((((Below.refl _ w6).alloc (Nat.le_refl _) _).alloc (by simp) _).alloc (by simp; omega) _).alloc (by simp; omega) _
    have hI1 : Tb.BackI w W1 A n c l key w3.heap.size b tb w6.heap.size (w6.heap.size + 1) S [] := ⟨by simp, by simp, L6.out.below hbW1, HOP6.out.below hbW1, qt6.below hbW1 qt6.lt, r0, r1⟩
    have hT : Tb.Tab W1 w3.heap.size b (w6.heap.size + 1 + 1) (w6.heap.size + 1 + 1 + 1) S ⟨#[]⟩ l := ⟨r2.cell 0, r3.cell 0, HOP6.out.below hbW1⟩
    have hfe : Tb.from_ l ⟨#[]⟩ = l := Tb.from_empty l
    have HFE := Lib.hid hfe
    clear hW1 L6 HOP6 qt6 ct hbW1 r0 r1 r2 r3 hfe htb7 htb8
    generalize w6.heap.size = ib at *
    have HZ1 := Lib.hid hz1
    refine range_ownX rfl (by omega) (gf := 34) (lb := #[.pointer (some ⟨ib + 1 + 1, 0, none⟩), .pointer (some ⟨ib + 1 + 1 + 1, 0, none⟩)]) rfl trivial (enters_of Try.func34 (by kernel_rfl) rfl)
      (tfrom1_stops _ (by omega) S hSz l hsort ⟨#[]⟩ w3.heap.size b _ _ w.heap.size W1 (by omega) hT (Tb.from_ l ⟨#[]⟩).length (Nat.le_refl _)) Tb.keepF_t (keepTab_b (by omega)) (Below.refl _ _) (fun _ => rfl)
      36 (fun x => #[.string x.key, .string x.value, .bool x.gone]) (keepTab_a (by omega))
      (fun pre W => Tb.BackI w W A n c l key w3.heap.size b tb ib (ib + 1) S pre ∧ W1.heap.size ≤ W.heap.size)
      (fun cd pre W => ¬ (pre <+: l))
      (fun s A B row hs hg hr => ⟨hs.1.kept hg (fun r e => ⟨by have := (hr r e).1; omega, (hr r e).2⟩), Nat.le_trans hs.2 hg.size⟩)
      (fun cd s A B row hs hg hr => hs)
      (fun pre W h => h.2) ⟨hI1, Nat.le_refl _⟩ ?ex ?done ?stop
    case ex =>
      apply Exists.intro
      refine ⟨?assign, ?body⟩
      case assign =>
        intro l x b2 W K hb2 hK
        unfold Tb.Ent.val
        have HB2 := Lib.hid hb2
        clear hb2
        gi_wp2
        rw [← HB2.out]
        exact hK
      case body =>
        rintro lo pre x b2 W ⟨hI, hzW⟩ hx hb2 hpl
        rw [HFE.out, Hn.out] at hpl
        have HI := Lib.hid hI
        have HX := Lib.hid hx
        have hkl : pre.length < l.length := by rw [Hn.out]; exact hpl
        obtain ⟨ag, ao, rfl, hca⟩ := hI.law.lie.get Tb.Ent.len hkl (by omega)
        have a0 : W.cell? ⟨ag, ao + pre.length * 3, none⟩ = _ := hca 0 _ rfl
        have a1 := hca 1 _ rfl
        have a2 := hca 2 _ rfl
        have HY : Hid (l[pre.length]? = some l[pre.length]) := Lib.hid (List.getElem?_eq_getElem hkl)
        have HSY := Lib.hid ((Tb.gsum_mem HG.out).2 _ (List.getElem_mem hkl))
        obtain ⟨⟨e0, e1, e2⟩, hz1⟩ := hx.k3
        obtain ⟨c0, c1, c2, f2⟩ := hI.law.facts
        have ct : W.cell? ⟨tb, 0, none⟩ = some (.pointer (some ⟨b, 0, none⟩)) := hI.bt.cell 0
        have ci : W.cell? ⟨ib, 0, none⟩ = some (.int .i64 pre.length) := hI.bi.cell 0
        have i0 : (0 : Int) ≤ (pre.length : Int) := by omega
        have i1 : (pre.length : Int) < (n : Int) := by omega
        have i2 : ¬ n ≤ pre.length := by omega
        clear hca hI hx hz1
        generalize l[pre.length] = y at *
        obtain ⟨xk, xv, xg⟩ := x
        obtain ⟨yk, yv, yg⟩ := y
        simp only at a0 a1 a2 e0 e1 e2 HX HY HSY
        by_cases hxy : xk = yk ∧ xv = yv ∧ xg = yg
        · obtain ⟨rfl, rfl, rfl⟩ := hxy
          gi_wp2_with fail
          (refine wpInR_region_quiet_lit (by kernel_rfl) (by kernel_rfl) (by kernel_rfl) ?_; (repeat (go_big_quiet_step (fail))); refine wpQuiet_nil ?_; intro _ hw'; obtain ⟨nq, hw''⟩ := hw'; subst hw'')
          gi_wp2_with fail
          have hgx : Tb.get l xk = some ⟨xk, xv, xg⟩ := Tb.get_mem hsort (List.mem_of_getElem? HY.out)
          have hb0 : Below W.heap.size W (W.drewN nq) := below_drewN (Below.refl _ _) nq
          refine ⟨trivial, CallsIn.inRound _ (callsIn_wide.2 (Calls.mono (tgetk_any S hSz l hsort xk _ b _ (HI.out.op.below hb0)) ?_))⟩
          rintro e Wa ⟨rfl, hba⟩
          rw [hgx]
          clear hgx
          simp only [Tb.getV, Tb.Ent.val]
          have hbWa : Below W.heap.size W Wa := hb0.trans hba
          have HIa := Lib.hid (HI.out.below hbWa)
          have HXa := Lib.hid (HX.out.below hbWa HX.out.lt)
          have hbza := hbWa.size
          clear hb0 hba c0 c1 c2 f2 ct ci e0 e1 e2 a0 a1 a2
          gi_upto_region 21 with (fail)
          have hbl1 := (Below.refl Wa.heap.size Wa).alloc (Nat.le_refl _) (.cells #[.string xk, .string xv, .bool xg] 36)
          have HIb := Lib.hid (HIa.out.below hbl1)
          have HXb := Lib.hid (HXa.out.alloc (.cells #[.string xk, .string xv, .bool xg] 36))
          have HYb := Lib.hid (Bk.new Wa 36 #[.string xk, .string xv, .bool xg])
          have hbWb : Below W.heap.size W _ := hbWa.alloc hbza (.cells #[.string xk, .string xv, .bool xg] 36)
          clear HIa HXa hbWa hbl1
          generalize (Wa.alloc (.cells #[.string xk, .string xv, .bool xg] 36)) = Wb at *
          generalize Wa.heap.size = yb at *
          have ct : Wb.cell? ⟨tb, 0, none⟩ = some (.pointer (some ⟨b, 0, none⟩)) := HIb.out.bt.cell 0
          obtain ⟨⟨e0, e1, e2⟩, hz3⟩ := HXb.out.k3
          have hxs : xk.size ≤ 1048576 := HSY.out.1
          clear hz3
          gi_wp2_with fail
          obtain ⟨K0, HK0⟩ : ∃ K0, Hid (xk ++ ⟨#[0]⟩ = K0) := ⟨_, Lib.hid rfl⟩
          rw [HK0.out]
          have HKL : Hid (K0.toList = xk.toList ++ [0]) := Lib.hid (by rw [← HK0.out]; exact Tb.nought_list xk)
          obtain ⟨O, HO2⟩ : ∃ O, Hid (Tb.get l K0 = O) := ⟨_, Lib.hid rfl⟩
          refine ⟨trivial, CallsIn.inRound _ (callsIn_wide.2 (Calls.mono (tgetk_any S hSz l hsort K0 _ b _ HIb.out.op) ?_))⟩
          rintro e Wc ⟨rfl, hbc⟩
          rw [HO2.out]
          have HIc := Lib.hid (HIb.out.below hbc)
          have HXc := Lib.hid (HXb.out.below hbc HXb.out.lt)
          have HYc := Lib.hid (HYb.out.below hbc HYb.out.lt)
          have hbzb := hbWb.size
          have hbWc : Below W.heap.size W Wc := hbWb.trans (hbc.mono hbzb)
          have hbzc := hbWc.size
          clear HIb HXb HYb hbWb hbc ct e0 e1 e2
          have hss : ∃ z : Tb.Ent, ∃ bd : Bool, Hid (Tb.getV O = .tuple #[z.val, .bool bd] ∧ (bd = true → ∃ y, l[pre.length + 1]? = some y ∧ y.key = K0)) := by
            cases O with
            | none => exact ⟨Tb.Ent.zero, false, Lib.hid ⟨rfl, fun h => by cases h⟩⟩
            | some z => exact ⟨z, true, Lib.hid ⟨rfl, fun _ => Tb.get_next hsort HY.out HKL.out HO2.out⟩⟩
          obtain ⟨⟨zk, zv, zg⟩, bd, HZ⟩ := hss
          rw [HZ.out.1]
          clear HO2
          simp only [Tb.Ent.val]
          gi_upto_region 22 with (fail)
          have hbl1 := (Below.refl Wc.heap.size Wc).alloc (Nat.le_refl _) (.cells #[.string zk, .string zv, .bool zg] 36)
          have HId := Lib.hid (HIc.out.below hbl1)
          have HXd := Lib.hid (HXc.out.alloc (.cells #[.string zk, .string zv, .bool zg] 36))
          have HYd := Lib.hid (HYc.out.alloc (.cells #[.string zk, .string zv, .bool zg] 36))
          have hbWd : Below W.heap.size W _ := hbWc.alloc hbzc (.cells #[.string zk, .string zv, .bool zg] 36)
          clear HIc HXc HYc hbWc hbl1
          generalize (Wc.alloc (.cells #[.string zk, .string zv, .bool zg] 36)) = Wd at *
          generalize Wc.heap.size = zb at *
          have ci : Wd.cell? ⟨ib, 0, none⟩ = some (.int .i64 pre.length) := HId.out.bi.cell 0
          obtain ⟨c0, c1, c2, f2⟩ := HId.out.law.facts
          obtain ⟨⟨e0, e1, e2⟩, hz3⟩ := HXd.out.k3
          obtain ⟨⟨y0, y1, y2⟩, hz4⟩ := HYd.out.k3
          clear hz3 hz4
          obtain ⟨an, HAN⟩ : ∃ an, Hid ((pre.any fun x => x.key.toList == key.toList) = an) := ⟨_, Lib.hid rfl⟩
          have cs : Wd.cell? ⟨ib + 1, 0, none⟩ = some (.bool an) := by rw [← HAN.out]; exact HId.out.bs.cell 0
          have fs : Wd.frozen? ⟨ib + 1, 0, none⟩ = false := HId.out.bs.frozen 0
          have fi : Wd.frozen? ⟨ib, 0, none⟩ = false := HId.out.bi.frozen 0
          have hib : ¬ ib + 1 = ib := by omega
          have hib2 : ¬ ib = ib + 1 := by omega
          cases bd
          case' false =>
            gi_wp2_with fail
            (refine wpInR_region_quiet_lit (by kernel_rfl) (by kernel_rfl) (by kernel_rfl) ?_; (repeat (go_big_quiet_step (fail))); refine wpQuiet_nil ?_; intro _ hw'; obtain ⟨nq, hw''⟩ := hw'; subst hw'')
          case' true =>
            obtain ⟨⟨nk, nv, ng⟩, hny, hnk⟩ := HZ.out.2 rfl
            simp only at hnk
            subst hnk
            have hnl : pre.length + 1 < l.length := (List.getElem?_eq_some_iff.1 hny).1
            have hnl2 : pre.length + 1 < n := by rw [Hn.out] at hnl; exact hnl
            have hnl3 : (pre.length : Int) + 1 < (n : Int) := by omega
            have hnl4 : ((n : Int) ≤ (pre.length : Int) + 1) = False := eq_false (by omega)
            obtain ⟨ag', ao', ea, hca⟩ := HId.out.law.lie.get Tb.Ent.len hnl (by omega)
            injection ea with ea
            injection ea with ea1 ea2
            subst ea1 ea2
            have hge : l[pre.length + 1] = ⟨nk, nv, ng⟩ := by rw [List.getElem?_eq_getElem hnl] at hny; injection hny
            rw [hge] at hca
            have a0 : Wd.cell? ⟨ag, ao + (pre.length + 1) * 3, none⟩ = some (.string nk) := hca 0 _ rfl
            have t1 : ((pre.length : Int) + 1).toNat = pre.length + 1 := by omega
            have t2 : (0 : Int) ≤ (pre.length : Int) + 1 := by omega
            have hk0 := HK0.out
            clear hca hge hny hnl
            gi_wp2_with fail
            (refine wpInR_region_quiet_lit (by kernel_rfl) (by kernel_rfl) (by kernel_rfl) ?_; (repeat (go_big_quiet_step (fail))); refine wpQuiet_nil ?_; intro _ hw'; obtain ⟨nq, hw''⟩ := hw'; subst hw'')
            clear hk0 t1 t2 hnl3 hnl4 a0
          all_goals
            try clear s1
            clear c0 c2 f2 y0 y1 y2
            cases an
            all_goals
              gi_wp2_with fail
              have hbe := below_drewN hbWd nq
              have hbz := hbWd.size
              refine ⟨(((keeps_below hbWd).trans (keeps_below (below_drewN (Below.refl _ _) nq))).trans ((KeepsOthers.setCell _ _ _).trans (KeepsOthers.setCell _ _ _))).from _, ⟨?_, fun hx => ?_⟩, Tb.BackI.next HId.out HY.out Hn.out nq ?_ hbtb htb6 (by omega) hz6, ?_⟩
              · exact ((hbe.mono (by omega)).setCell (p := ⟨ib + 1, 0, none⟩) (by show w.heap.size ≤ ib + 1; omega) _).setCell (p := ⟨ib, 0, none⟩) (by show w.heap.size ≤ ib; omega) _
              · have hd := HId.out.below (below_drewN (Below.refl Wd.heap.size Wd) nq)
                exact (Tb.Tab.set (j := 0) (hx.below hbe) hd.bs (by decide) (by omega) (by omega) (by omega) _).set (j := 0) (hd.bi.far (p := ⟨ib + 1, 0, none⟩) (by show ib ≠ ib + 1; omega) _) (by decide) (by omega) (by omega) (by omega) _
              · rw [HAN.out]; simp
              · simp; omega
        · have HXY := Lib.hid hxy
          clear hxy
          have hbad : ¬ (pre ++ [⟨xk, xv, xg⟩] <+: l) := by
            rintro ⟨t, ht⟩
            have hy := HY.out
            rw [← ht, List.append_assoc, List.getElem?_append_right (Nat.le_refl _)] at hy
            simp at hy
            exact HXY.out hy
          have HBAD := Lib.hid hbad
          clear hbad
          cases h1 : (xk.toList == yk.toList)
          case' true =>
            have e1 := Tb.text_eq' (by simpa using h1)
            subst e1
            cases h2 : (xv.toList == yv.toList)
            case' true =>
              have e2 := Tb.text_eq' (by simpa using h2)
              subst e2
              have h3 : xg ≠ yg := fun e => HXY.out ⟨rfl, rfl, e⟩
              cases xg <;> cases yg <;> try exact absurd rfl h3
          all_goals
            clear HXY
            gi_wp2_with fail
            (refine wpInR_region_quiet_lit (by kernel_rfl) (by kernel_rfl) (by kernel_rfl) ?_; (repeat (go_big_quiet_step (fail))); refine wpQuiet_nil ?_; intro _ hw'; obtain ⟨nq, hw''⟩ := hw'; subst hw'')
            gi_wp2_with fail
            exact ⟨((keeps_below (below_drewN (Below.refl _ _) nq)).trans (KeepsOthers.setCell _ _ _)).from _, HBAD.out⟩
    case stop =>
      rintro D c2 pre W hD hpre hbad hK
      rw [HFE.out] at hpre
      exact absurd hpre.1 hbad
    case done =>
      rintro D xs W hD hxs ⟨hI, hzW⟩ hK
      rw [HFE.out] at hxs
      subst hxs
      have HI := Lib.hid hI
      have ct : W.cell? ⟨tb, 0, none⟩ = some (.pointer (some ⟨b, 0, none⟩)) := hI.bt.cell 0
      obtain ⟨c0, c1, c2, f2⟩ := hI.law.facts
      clear hI hT hI1
      gi_wp2_with fail
      obtain ⟨O, HO2⟩ : ∃ O, Hid (Tb.get xs key = O) := ⟨_, Lib.hid rfl⟩
      refine ⟨trivial, callsIn_wide.2 (Calls.mono (tgetk_any S hSz xs hsort key _ b _ HI.out.op) ?_)⟩
      rintro e Wa ⟨rfl, hba⟩
      rw [HO2.out]
      have HIa := Lib.hid (HI.out.below hba)
      have hKa := (hba.block D (Array.getElem?_eq_some_iff.1 hK).1).trans hK
      obtain ⟨⟨zk, zv, zg⟩, HZ⟩ : ∃ z : Tb.Ent, Hid (Tb.getV O = .tuple #[z.val, .bool O.isSome]) := by
        cases O with
        | none => exact ⟨Tb.Ent.zero, Lib.hid rfl⟩
        | some z => exact ⟨z, Lib.hid rfl⟩
      have HAN : Hid (O.isSome = xs.any fun x => x.key.toList == key.toList) := Lib.hid (by rw [← HO2.out]; exact Tb.get_iff hsort key)
      rw [HZ.out, HAN.out]
      clear HO2 HAN HZ HI ct c0 c1 c2 f2 hba hK
      simp only [Tb.Ent.val]
      gi_upto_region 27 with (fail)
      have HIb := Lib.hid (HIa.out.below ((Below.refl _ _).alloc (Nat.le_refl _) (.cells #[.string zk, .string zv, .bool zg] 36)))
      have hKb := (Below.heap_alloc Wa (.cells #[.string zk, .string zv, .bool zg] 36) D (Array.getElem?_eq_some_iff.1 hKa).1).trans hKa
      clear HIa hKa
      generalize (Wa.alloc (.cells #[.string zk, .string zv, .bool zg] 36)) = Wb at *
      have ci : Wb.cell? ⟨ib, 0, none⟩ = some (.int .i64 xs.length) := HIb.out.bi.cell 0
      have cs : Wb.cell? ⟨ib + 1, 0, none⟩ = some (.bool (xs.any fun x => x.key.toList == key.toList)) := HIb.out.bs.cell 0
      obtain ⟨c0, c1, c2, f2⟩ := HIb.out.law.facts
      have hnn : ((xs.length : Int) == (n : Int)) = true := by rw [Hn.out]; simp
      generalize (xs.any fun x => x.key.toList == key.toList) = an at *
      gi_wp2_with fail
      (have hK' := (KeepsOthers.setCell Wb ⟨w.heap.size + 1 + 1, 0, none⟩ (.bool true)).same D _ hKb rfl; have p1 : Bk (Wb.setCell ⟨w.heap.size + 1 + 1, 0, none⟩ (.bool true)) (w.heap.size + 1 + 1) 4 #[.bool true] := HIb.out.law.b2.set_ 0 (.bool true); refine ⟨(by simp), .inl ⟨_, _, rfl, run_takeDeferred hK', ?_⟩⟩; obtain ⟨q0, _⟩ := (bk_taken p1 hK').k1; refine ⟨.bool true, ?_, rfl, (HIb.out.law.bel.setCell (p := ⟨w.heap.size + 1 + 1, 0, none⟩) (by simp; omega) _).trans (belowK_b (w := w) (Nat.le_refl _) _ D _ _ (by omega) hK' rfl rfl)⟩; simp [results, Try.f3, go_sem, q0])
end Go.Proofs.Ytdjccepchleacaa
