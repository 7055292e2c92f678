/- The law's from: what a table goes over, left behind so many. -/
import Derived.Test.YtdjccepchleacaaTabT
import Derived.Test.YtdjccepchleacaaTabM
import Derived.Test.YtdjccepchleacaaRoundA
set_option linter.unusedVariables false
set_option linter.unusedSimpArgs false
namespace Go.Proofs.Ytdjccepchleacaa
open Go.RowKit Go.BigFrame Go.Shelf
attribute [local go_sem] Oper.semAt_some
theorem Tb.Opened.grow6 {W W' : World} {base base' b m : Nat} {s : ByteArray} {l : List Tb.Ent} {v : Value} {xs : List Value} (h : Tb.Opened W base b s l) (hown : W.ownsRow base' 48 3 v m xs) (hg : W.grownBy W' v.ownBlock) : Tb.Opened W' base b s l := by
  obtain ⟨bs, last, h1, h2⟩ := h
  exact ⟨bs, last, h1.row hown (by decide) (by decide) hg, h2⟩
theorem Tb.Tab.grow6 {W W' : World} {base base' b kp kk m : Nat} {s key : ByteArray} {l : List Tb.Ent} {v : Value} {xs : List Value} (h : Tb.Tab W base b kp kk s key l) (k1 : ∃ cs, Bk W kp 28 cs) (k2 : ∃ cs, Bk W kk 9 cs) (hown : W.ownsRow base' 48 3 v m xs) (hg : W.grownBy W' v.ownBlock) : Tb.Tab W' base b kp kk s key l := by
  obtain ⟨c1, k1⟩ := k1
  obtain ⟨c2, k2⟩ := k2
  exact ⟨(World.cell?_of_block (hg.block kp k1.lt (fun e => ownBlock_ne' hown k1 (by decide) e.symm))).trans h.1, (World.cell?_of_block (hg.block kk k2.lt (fun e => ownBlock_ne' hown k2 (by decide) e.symm))).trans h.2.1, h.2.2.grow6 hown hg⟩
structure Tb.FrI (w W : World) (leave : Int) (base b mb kp kk : Nat) (S : ByteArray) (ol pre : List Tb.Ent) : Prop where
  row : ∃ v, Bk W mb 45 #[v] ∧ W.ownsRow w.heap.size 48 3 v pre.length (pre.flatMap Tb.Ent.cells) ∧ v.ownBlock ≠ some mb
  box : Bk W w.heap.size 3 #[.int .i64 leave]
  kp_ : ∃ cs, Bk W kp 28 cs
  kk_ : ∃ cs, Bk W kk 9 cs
  op : Tb.Opened W base b S ol
  bel : Below w.heap.size w W
theorem Tb.FrI.kept {w W W' : World} {row : Option Nat} {leave : Int} {base b mb kp kk : Nat} {S : ByteArray} {ol pre : List Tb.Ent} (h : Tb.FrI w W leave base b mb kp kk S ol pre) (hg : W.grownBy W' row) (hrow : ∀ r, row = some r → w.heap.size ≤ r ∧ ∃ o : Obj, W.heap[r]? = some o ∧ o.isCells = false) : Tb.FrI w W' leave base b mb kp kk S ol pre := by
  have hr : ∀ r, row = some r → ∃ o : Obj, W.heap[r]? = some o ∧ o.isCells = false := fun r e => (hrow r e).2
  obtain ⟨⟨v, m0, m1, m2⟩, h0, ⟨c1, k1⟩, ⟨c2, k2⟩, h3, h6⟩ := h
  exact ⟨⟨v, bk_kept m0 hg hr, row_kept m1 hg hr, m2⟩, bk_kept h0 hg hr, ⟨c1, bk_kept k1 hg hr⟩, ⟨c2, bk_kept k2 hg hr⟩, h3.kept hg hr, h6.grown hg h6.size (fun k e => (hrow k e).1)⟩
set_option maxRecDepth 100000 in
set_option maxHeartbeats 8000000 in
theorem ffrom_any (S : ByteArray) (hS : S.size ≤ 800000000) (ol : List Tb.Ent) (hsort : Tb.Sorted ol) (h5 : ol.length ≤ 5000) (key : ByteArray) (leave : Int) (base b : Nat) (w : World) (hop : Tb.Opened w base b S ol) :
    Calls Try.prog 22 #[.pointer (some ⟨b, 0, none⟩), .string key, .int .i64 leave] w fun e w' => ∃ v, e = .returned v ∧ Below w.heap.size w w' ∧ w'.ownsRow w.heap.size 48 3 v (Tb.part leave (Tb.from_ ol key)).length ((Tb.part leave (Tb.from_ ol key)).flatMap Tb.Ent.cells) := by
  have HOP := Lib.hid hop
  have hbl := hop.lt
  clear hop
  obtain ⟨PT, HPT⟩ : ∃ PT, Hid (Tb.part leave (Tb.from_ ol key) = PT) := ⟨_, Lib.hid rfl⟩
  rw [HPT.out]
  refine (callsIn_wide (n := 6)).1 ?_
  refine callsIn_of_wp_marks Try.func22 rfl trivial ?_ rfl
  simp only [Try.ntmps22, List.size_toArray, List.length_cons, List.length_nil, Nat.reduceAdd, Nat.reduceSub, Array.replicate_succ, Array.replicate_zero, List.push_toArray, List.append_toArray, List.nil_append, List.cons_append]
  gi_wp2_with fail
  refine ⟨trivial, (callsIn_wide.2 (tfrom_any (some ⟨b, 0, none⟩) key _)).mono ?_⟩
  rintro e w' ⟨rfl, rfl⟩
  have hfn := func6_not_nil
  gi_wp2_with fail
  clear hfn
  obtain ⟨W1, hW1⟩ : ∃ W1, ((((w.alloc (.cells #[.int .i64 leave] 3)).alloc (.cells #[.slice none 0 0] 45)).alloc (.cells #[.pointer (some ⟨b, 0, none⟩)] 28)).alloc (.cells #[.string key] 9)) = W1 := ⟨_, rfl⟩
  rw [hW1]
  have hz1 : W1.heap.size = w.heap.size + 4 := by rw [← hW1]; simp
  have rb : Bk W1 w.heap.size 3 #[.int .i64 leave] := by rw [← hW1]; exact (((Bk.new w _ _).alloc _).alloc _).alloc _
  have r0 : Bk W1 (w.heap.size + 1) 45 #[.slice none 0 0] := by
    rw [← hW1]
    have h := Bk.new (w.alloc (.cells #[.int .i64 leave] 3)) 45 #[.slice none 0 0]
    rw [World.size_alloc] at h
    exact (h.alloc _).alloc _
  have r1 : Bk W1 (w.heap.size + 1 + 1) 28 #[.pointer (some ⟨b, 0, none⟩)] := by
    rw [← hW1]
    have h := Bk.new ((w.alloc (.cells #[.int .i64 leave] 3)).alloc (.cells #[.slice none 0 0] 45)) 28 #[.pointer (some ⟨b, 0, none⟩)]
    rw [World.size_alloc, World.size_alloc] at h
    exact h.alloc _
  have r2 : Bk W1 (w.heap.size + 1 + 1 + 1) 9 #[.string key] := by
    rw [← hW1]
    have h := Bk.new (((w.alloc (.cells #[.int .i64 leave] 3)).alloc (.cells #[.slice none 0 0] 45)).alloc (.cells #[.pointer (some ⟨b, 0, none⟩)] 28)) 9 #[.string key]
    rw [World.size_alloc, World.size_alloc, World.size_alloc] at h
    exact h
  have hbW1 : Below w.heap.size w W1 := by rw [← hW1]; exact ((((Below.refl _ w).alloc (Nat.le_refl _) _).alloc (by simp) _).alloc (by simp; omega) _).alloc (by simp; omega) _
  obtain ⟨mb, hmb⟩ : ∃ mb, mb = w.heap.size + 1 := ⟨_, rfl⟩
  rw [← hmb] at r0 r1 r2 ⊢
  have hI1 : Tb.FrI w W1 leave base b mb (mb + 1) (mb + 1 + 1) S ol [] :=
    ⟨⟨.slice none 0 0, r0, World.ownsRow_nil _ _ _ _, by simp [Value.ownBlock]⟩, rb, ⟨_, r1⟩, ⟨_, r2⟩, HOP.out.below hbW1, hbW1⟩
  have hT : Tb.Tab W1 base b (mb + 1) (mb + 1 + 1) S key ol := ⟨r1.cell 0, r2.cell 0, HOP.out.below hbW1⟩
  have hblW : ¬ b = mb := by omega
  have hxm : ¬ w.heap.size = mb := by omega
  have hz4 : w.heap.size ≤ mb := by omega
  have hlen : (Tb.from_ ol key).length ≤ 5000 := Nat.le_trans (List.length_filter_le _ _) h5
  have HMB := Lib.hid hmb
  clear hW1 hbW1 r0 r1 r2 rb HOP hmb
  refine range_ownX rfl (by omega) (gf := 34) (lb := #[.pointer (some ⟨mb + 1, 0, none⟩), .pointer (some ⟨mb + 1 + 1, 0, none⟩)]) rfl trivial (enters_of Try.func34 (by kernel_rfl) rfl)
    (tfrom1_stops _ (by omega) S hS ol hsort key base b _ _ w.heap.size W1 (by omega) hT (Tb.from_ ol key).length (Nat.le_refl _)) Tb.keepF_t (keepTab_b (by omega)) (Below.refl _ _) (fun _ => rfl)
    36 (fun x => #[.string x.key, .string x.value, .bool x.gone]) (keepTab_a (by omega))
    (fun pre W => (Tb.FrI w W leave base b mb (mb + 1) (mb + 1 + 1) S ol pre ∧ W1.heap.size ≤ W.heap.size) ∧ (leave ≤ 0 ∨ (pre.length : Int) < leave))
    (fun cd pre W => (Tb.FrI w W leave base b mb (mb + 1) (mb + 1 + 1) S ol pre ∧ W1.heap.size ≤ W.heap.size) ∧ cd = .exit 0 ∧ (pre.length : Int) = leave)
    (fun s A B row hs hg hr => ⟨⟨hs.1.1.kept hg (fun r e => ⟨by have := (hr r e).1; omega, (hr r e).2⟩), Nat.le_trans hs.1.2 hg.size⟩, hs.2⟩)
    (fun cd s A B row hs hg hr => ⟨⟨hs.1.1.kept hg (fun r e => ⟨by have := (hr r e).1; omega, (hr r e).2⟩), Nat.le_trans hs.1.2 hg.size⟩, hs.2⟩)
    (fun pre W h => h.1.2) ⟨⟨hI1, Nat.le_refl _⟩, by rcases Int.lt_or_le 0 leave with h | h; exact .inr h; exact .inl h⟩ ?ex ?done ?stop
  case ex =>
    apply Exists.intro
    refine ⟨?assign, ?body⟩
    case assign =>
      intro l x b2 W K hb2 hK
      unfold Tb.Ent.val
      have HB2 := Lib.hid hb2
      clear hb2
      gi_wp2
      rw [← HB2.out]
      exact hK
    case body =>
      rintro lo pre x b2 W ⟨⟨hI, hzW⟩, hlv⟩ hx hb2 hpl
      obtain ⟨⟨v, m0, m1, m2⟩, hbox, hkp, hkk, hop, hbel⟩ := hI
      obtain ⟨A2, c2, rfl, _, _, _, _, _⟩ := Lie.of_own m1
      have HM1 := Lib.hid m1
      have cm : W.cell? ⟨mb, 0, none⟩ = some (.slice A2 pre.length c2) := m0.cell 0
      have hmW := m0.lt
      obtain ⟨⟨e0, e1, e2⟩, hz3⟩ := hx.k3
      obtain ⟨xk, xv, xg⟩ := x
      simp only at e0 e1 e2
      have hbz : w.heap.size ≤ W.heap.size := hbel.size
      clear hz3
      have HI : Hid (Tb.FrI w W leave base b mb (mb + 1) (mb + 1 + 1) S ol pre) := Lib.hid ⟨⟨_, m0, m1, m2⟩, hbox, hkp, hkk, hop, hbel⟩
      clear m1 hop hkp hkk hx hbox
      gi_wp2_with (gi_at_builtin; go_must (refine wpListIn_append_cells rfl (.tmp 17) (.tmp 19) _ rfl w.heap.size 48 _ 3 40 Try.underlying45 info_entry6 rfl (by decide) _ pre.length _ rfl HM1.out [.string xk, .string xv, .bool xg] rfl W.heap.size rfl rfl (by simp [Value.oneCell']) (by unfold maxLen; omega) (by omega) hbz ?_))
      intro v' W2 hown8 hb8 hg8 hv8
      obtain ⟨A3, c3, hvs, _, _, _, _, _⟩ := Lie.of_own hown8
      subst hvs
      have m8 : Bk W2 mb 45 #[.slice A2 pre.length c2] := (m0.alloc _).grown hg8 (Ne.symm m2)
      have hal := (HM1.out).alloc (.cells #[.string xk, .string xv, .bool xg] 48)
      obtain ⟨⟨_, _, _, _⟩, hbox, ⟨q1, hkp⟩, ⟨q2, hkk⟩, hop, hbel'⟩ := HI.out
      have bx8 := (hbox.alloc (.cells #[.string xk, .string xv, .bool xg] 48)).grown hg8 (fun e => ownBlock_ne' hal (hbox.alloc _) (by decide) e.symm)
      have hkp8 := (hkp.alloc (.cells #[.string xk, .string xv, .bool xg] 48)).grown hg8 (fun e => ownBlock_ne' hal (hkp.alloc _) (by decide) e.symm)
      have hkk8 := (hkk.alloc (.cells #[.string xk, .string xv, .bool xg] 48)).grown hg8 (fun e => ownBlock_ne' hal (hkk.alloc _) (by decide) e.symm)
      have f8 : W2.frozen? ⟨mb, 0, none⟩ = false := m8.frozen 0
      have c8 : W2.cell? ⟨mb, 0, none⟩ = some (.slice A2 pre.length c2) := m8.cell 0
      have cb8 : W2.cell? ⟨w.heap.size, 0, none⟩ = some (.int .i64 leave) := bx8.cell 0
      have hz8 := hb8.size
      have hmn : (Value.slice A3 (pre.length + 1) c3).ownBlock ≠ some mb := by
        intro e
        rcases hv8 with h | h
        · rw [h] at e; exact m2 e
        · rw [h] at e; injection e with e; omega
      have hst := set_grown W2 mb 0 (Value.slice A3 (pre.length + 1) c3)
      have hko : KeepsOthers W (W2.setCell ⟨mb, 0, none⟩ (Value.slice A3 (pre.length + 1) c3)) := ((KeepsOthers.alloc W _).trans (KeepsOthers.of_grownBy hg8 (fun j o e ho => by
        rcases hal.2 with ⟨hn, _⟩ | ⟨g', cap', cur', hn, _, hgg, _⟩
        · rw [hn] at e; cases e
        · rw [hn] at e
          simp [Value.ownBlock] at e
          subst e
          rw [hgg] at ho
          injection ho with ho
          subst ho
          rfl))).trans (KeepsOthers.setCell _ _ _)
      have hI2 : Tb.FrI w (W2.setCell ⟨mb, 0, none⟩ (Value.slice A3 (pre.length + 1) c3)) leave base b mb (mb + 1) (mb + 1 + 1) S ol (pre ++ [⟨xk, xv, xg⟩]) ∧ W1.heap.size ≤ (W2.setCell ⟨mb, 0, none⟩ (Value.slice A3 (pre.length + 1) c3)).heap.size := by
        refine ⟨⟨⟨(Value.slice A3 (pre.length + 1) c3), m8.set_ 0 (Value.slice A3 (pre.length + 1) c3), ?_, hmn⟩, bx8.far (by show w.heap.size ≠ mb; omega) _, ⟨_, hkp8.far (by show mb + 1 ≠ mb; omega) _⟩, ⟨_, hkk8.far (by show mb + 1 + 1 ≠ mb; omega) _⟩, ?_, (hbel.trans hb8).setCell (p := ⟨mb, 0, none⟩) hz4 _⟩, ?_⟩
        · rw [List.length_append, List.flatMap_append]
          exact hown8.kept hst (.inr hmn)
        · exact ((hop.below ((Below.refl _ _).alloc (Nat.le_refl _) _)).grow6 hal hg8).set m8 (by decide) hblW _
        · simp; omega
      have HI2 := Lib.hid hI2
      have hkp' : Tb.KeepF w.heap.size (fun W => Tb.Tab W base b (mb + 1) (mb + 1 + 1) S key ol) W (W2.setCell ⟨mb, 0, none⟩ (Value.slice A3 (pre.length + 1) c3)) := by
        refine ⟨hb8.setCell (p := ⟨mb, 0, none⟩) hz4 _, fun hx => ?_⟩
        have h1 := (hx.below ((Below.refl _ _).alloc (Nat.le_refl _) (.cells #[.string xk, .string xv, .bool xg] 48))).grow6 ⟨_, hkp.alloc _⟩ ⟨_, hkk.alloc _⟩ hal hg8
        exact h1.set m8 (by decide) hblW (by omega) (by omega) _
      have HKP := Lib.hid hkp'
      have HKO := Lib.hid hko
      clear hkp' hko hI2 hst hop hbox hkp hkk hkp8 hkk8 hal hown8 hg8 hv8 bx8
      by_cases hle : (pre.length : Int) + 1 = leave
      · have t1 : ((pre.length : Int) + 1 == leave) = true := by rw [beq_iff_eq]; exact hle
        gi_wp2_with fail
        exact ⟨HKO.out.from _, HI2.out, rfl, by rw [List.length_append]; simpa using hle⟩
      · have t1 : ((pre.length : Int) + 1 == leave) = false := by rw [beq_eq_false_iff_ne]; exact hle
        gi_wp2_with fail
        exact ⟨HKO.out.from _, HKP.out, HI2.out, by rw [List.length_append]; simp; omega⟩
  case stop =>
    rintro D c2 pre W hD hpre ⟨⟨hI, hzW⟩, rfl, hlv⟩ hK
    have HPP : Hid (PT = pre) := Lib.hid (by
      obtain ⟨⟨t, ht⟩, hne⟩ := hpre
      rw [← HPT.out]
      unfold Tb.part
      have hp0 : 0 < pre.length := List.length_pos_iff.2 hne
      rw [← ht, List.length_append]
      by_cases h : 0 < leave ∧ leave < ((pre.length + t.length : Nat) : Int)
      · rw [if_pos h, ← hlv, Int.toNat_natCast]; simp
      · rw [if_neg h]
        have : t = [] := List.length_eq_zero_iff.1 (by omega)
        rw [this, List.append_nil])
    obtain ⟨⟨v, m0, m1, m2⟩, hbox, _, _, _, hbel⟩ := hI
    have HM1 := Lib.hid m1
    have cm : W.cell? ⟨mb, 0, none⟩ = some v := m0.cell 0
    clear m1 hpre hbox
    gi_wp2_with fail
    rw [HPP.out]
    refine ⟨(by simp), .inl ⟨_, _, rfl, run_takeDeferred hK, ?_⟩⟩
    refine ⟨v, ?_, ⟨v, rfl, hbel.trans (belowK_b (w := w) (Nat.le_refl _) _ D _ _ (by omega) hK rfl rfl), row_kept HM1.out (grownBy_putObj' _ D _) (fun r e => by cases e; exact ⟨_, hK, rfl⟩)⟩⟩
    simp [results, Try.f22, go_sem]
  case done =>
    rintro D xs W hD hxs ⟨⟨hI, hzW⟩, hlv⟩ hK
    subst hxs
    have HPP : Hid (PT = Tb.from_ ol key) := Lib.hid (by
      rw [← HPT.out]
      unfold Tb.part
      rw [if_neg (by omega)])
    obtain ⟨⟨v, m0, m1, m2⟩, hbox, _, _, _, hbel⟩ := hI
    have HM1 := Lib.hid m1
    have cm : W.cell? ⟨mb, 0, none⟩ = some v := m0.cell 0
    clear m1 hbox
    gi_wp2_with fail
    rw [HPP.out]
    refine ⟨(by simp), .inl ⟨_, _, rfl, run_takeDeferred hK, ?_⟩⟩
    refine ⟨v, ?_, ⟨v, rfl, hbel.trans (belowK_b (w := w) (Nat.le_refl _) _ D _ _ (by omega) hK rfl rfl), row_kept HM1.out (grownBy_putObj' _ D _) (fun r e => by cases e; exact ⟨_, hK, rfl⟩)⟩⟩
    simp [results, Try.f22, go_sem]
end Go.Proofs.Ytdjccepchleacaa
