/- (*table.Table).Len, From and its literal (an iterator). -/
import Derived.Test.YtdjccepchleacaaTabI
import Derived.Test.YtdjccepchleacaaSumIter
import Derived.Test.YtdjccepchleacaaRange
set_option linter.unusedVariables false
set_option linter.unusedSimpArgs false
namespace Go.Proofs.Ytdjccepchleacaa
open Go.RowKit Go.BigFrame Go.Shelf
attribute [local go_sem] Oper.semAt_some
theorem Tb.Opened.below {w w' : World} {base b : Nat} {s : ByteArray} {l : List Tb.Ent} (h : Tb.Opened w base b s l) (hb : Below w.heap.size w w') : Tb.Opened w' base b s l := by
  obtain ⟨bs, last, h1, h2⟩ := h
  exact ⟨bs, last, h1.below hb, h2⟩
theorem Tb.Opened.lt {w : World} {base b : Nat} {s : ByteArray} {l : List Tb.Ent} (h : Tb.Opened w base b s l) : b < w.heap.size := by
  obtain ⟨bs, last, h1, _⟩ := h
  exact h1.lt
set_option maxRecDepth 100000 in
set_option maxHeartbeats 1000000 in
theorem tlen_any (base b : Nat) (s : ByteArray) (l : List Tb.Ent) (w : World) (h : Tb.Opened w base b s l) :
    Calls Try.prog 11 #[.pointer (some ⟨b, 0, none⟩)] w fun e w' => e = .returned (.int .i64 l.length) ∧ w = w' := by
  obtain ⟨bs, last, ⟨v, hk, _⟩, _⟩ := h
  obtain ⟨⟨c0, c1, c2, c3⟩, _⟩ := hk.k4
  go_enter Try.func11, Try.ntmps11
  go_wp2_with fail
  go_ret
  exact ⟨rfl, rfl⟩
set_option maxHeartbeats 1000000 in
theorem tlen_nil (w : World) :
    Calls Try.prog 11 #[.pointer none] w fun e w' => e = .returned (.int .i64 0) ∧ w = w' := by
  go_enter Try.func11, Try.ntmps11
  go_wp2_with fail
  go_ret
  exact ⟨rfl, rfl⟩
set_option maxHeartbeats 1000000 in
theorem tfrom_any (t : Option Addr) (key : ByteArray) (w : World) :
    Calls Try.prog 12 #[.pointer t, .string key] w fun e w' => e = .returned (.func (.func 34) #[] #[.pointer (some ⟨w.heap.size, 0, none⟩), .pointer (some ⟨w.heap.size + 1, 0, none⟩)]) ∧ w' = (w.alloc (.cells #[.pointer t] 28)).alloc (.cells #[.string key] 9) := by
  go_enter Try.func12, Try.ntmps12
  go_wp2_with fail
  go_ret
  exact ⟨rfl, rfl⟩
namespace Tb
/-- What the literal of From holds. -/
def Tab (W : World) (base b kp kk : Nat) (s key : ByteArray) (l : List Ent) : Prop :=
  W.cell? ⟨kp, 0, none⟩ = some (.pointer (some ⟨b, 0, none⟩)) ∧ W.cell? ⟨kk, 0, none⟩ = some (.string key) ∧ Opened W base b s l
theorem Tab.below {W W' : World} {base b kp kk : Nat} {s key : ByteArray} {l : List Ent} (h : Tab W base b kp kk s key l) (hb : Below W.heap.size W W') : Tab W' base b kp kk s key l :=
  ⟨(hb.cell (p := ⟨kp, 0, none⟩) (World.block_lt_of_cell? W _ h.1)).trans h.1, (hb.cell (p := ⟨kk, 0, none⟩) (World.block_lt_of_cell? W _ h.2.1)).trans h.2.1, h.2.2.below hb⟩
/-- What a round keeps. -/
def KeepF (n₀ : Nat) (F : World → Prop) (W W' : World) : Prop := Below n₀ W W' ∧ (F W → F W')
theorem keepF_t {n₀ : Nat} {F : World → Prop} {A B C : World} (h : KeepF n₀ F A B) (k : KeepF n₀ F B C) : KeepF n₀ F A C := ⟨h.1.trans k.1, fun x => k.2 (h.2 x)⟩
end Tb
set_option maxRecDepth 100000 in
set_option maxHeartbeats 4000000 in
theorem tfrom1_stops (n : Nat) (hn : 1 ≤ n) (s : ByteArray) (hs : s.size ≤ 800000000) (l : List Tb.Ent) (hsort : Tb.Sorted l) (key : ByteArray) (base b kp kk n₀ : Nat) (w : World) (h0 : n₀ ≤ w.heap.size)
    (hF : Tb.Tab w base b kp kk s key l) (N : Nat) (hN : (Tb.from_ l key).length ≤ N) :
    SeqStopsK Fence.wide n Try.prog 34 #[.pointer (some ⟨kp, 0, none⟩), .pointer (some ⟨kk, 0, none⟩)] (fun x : Tb.Ent => #[x.val]) (Tb.KeepF n₀ fun W => Tb.Tab W base b kp kk s key l) (fun ys => ys = Tb.from_ l key) (fun pre => pre <+: Tb.from_ l key ∧ pre ≠ []) N w := by
  intro lo J Jx W hW hJ hJx hY hJ0
  have hT := hF.below hW
  clear hF
  have HJ := Lib.hid hJ
  have HJx := Lib.hid hJx
  have HY := Lib.hid hY
  have HT := Lib.hid hT
  clear hJ hJx hY
  obtain ⟨t0, t1, hop⟩ := hT
  refine callsIn_of_wp Try.func34 rfl trivial ?_ rfl
  simp only [Try.ntmps34, List.size_toArray, List.length_cons, List.length_nil, Nat.reduceAdd, Nat.reduceSub, Array.replicate_succ, Array.replicate_zero, List.push_toArray, List.append_toArray, List.nil_append, List.cons_append]
  gi_wp2_with fail
  refine ⟨trivial, (callsIn_wide.2 (tlen_any base b s l W hop)).mono ?_⟩
  rintro e w' ⟨rfl, rfl⟩
  by_cases hl0 : l = []
  · subst hl0
    gi_wp2_with fail
    refine bodyPost_ret (results_none rfl _ _ _) rfl ?_
    exact ⟨⟨_, rfl⟩, .inl ⟨[], rfl, hJ0⟩⟩
  have hlp : 0 < l.length := List.length_pos_iff.2 hl0
  have tl : ((l.length : Int) == 0) = false := by rw [beq_eq_false_iff_ne]; omega
  obtain ⟨bs, last, hat, hG, hbl, _, hopen, hrd⟩ := id hop
  have HAt := Lib.hid hat
  obtain ⟨v, hk, hown, hne⟩ := hat
  have hl4 : l.length ≤ 4096 := (Tb.right_zero (Tb.open_size hopen).2.2.2.1).1
  obtain ⟨E, hEs, hpE, HRD⟩ : ∃ E, E ≤ s.size ∧ Tb.pos l l.length = E ∧ Hid (∀ j x, l[j]? = some x → Tb.readE s (Tb.pos l j) E = some (x, Tb.pos l (j + 1))) := by
    rcases hrd with h | ⟨E, h1, h2, h3⟩
    · exact absurd h hl0
    · exact ⟨E, h1, h2, Lib.hid h3⟩
  have HPE := Lib.hid hpE
  have hbs0 : 0 < bs.length := List.length_pos_iff.2 (hG.some_ hlp)
  obtain ⟨A, c, rfl, hlie, hm1, hnc, hA, hA2⟩ := Lie.of_own hown
  obtain ⟨g, off, rfl, hcl0⟩ := hlie.get Tb.Place.len hbs0 (by omega)
  have hcl : ∀ (W' : World), Bl W W' → ∀ i y, bs[i]? = some y → W'.cell? ⟨g, off + i * 3 + 1, none⟩ = some (.int .i64 y.start) ∧ W'.cell? ⟨g, off + i * 3 + 2, none⟩ = some (.int .i64 y.stop) := by
    intro W' hb i y hy
    have hil : i < bs.length := (List.getElem?_eq_some_iff.1 hy).1
    obtain ⟨g', off', e', h⟩ := hlie.get Tb.Place.len hil (by omega)
    injection e' with e'
    injection e' with e1 e2
    subst e1 e2
    have e : bs[i] = y := by rw [List.getElem?_eq_getElem hil] at hy; injection hy
    rw [e] at h
    have h1 := h 1 _ rfl
    have h2 := h 2 _ rfl
    exact ⟨(hb.cell (p := ⟨g, off + i * 3 + 1, none⟩) (World.block_lt_of_cell? W _ h1)).trans h1, (hb.cell (p := ⟨g, off + i * 3 + 2, none⟩) (World.block_lt_of_cell? W _ h2)).trans h2⟩
  obtain ⟨st, hst⟩ : ∃ st : Nat → Nat, ∀ i y, bs[i]? = some y → st i = y.start := ⟨fun i => (bs[i]?.map Tb.Place.start).getD 0, fun i y h => by simp [h]⟩
  have hsc : ∀ (W' : World), Bl W W' → ∀ i, i < bs.length → W'.cell? ⟨g, off + i * 3 + 1, none⟩ = some (.int .i64 (st i)) := fun W' hb i hi => by
    rw [(hcl W' hb i _ (List.getElem?_eq_getElem hi)).1, hst i _ (List.getElem?_eq_getElem hi)]
  have HCL := Lib.hid hcl
  have HST := Lib.hid hst
  have hsc0 := hsc W (Bl.refl W)
  have HSC := Lib.hid hsc
  have HG := Lib.hid hG
  obtain ⟨⟨c0, c1, c2, c3⟩, _⟩ := hk.k4
  clear hrd hG hlie hm1 hA hA2 hcl hcl0 hst hsc hown hne hk hpE hopen
  generalize hm : bs.length = m at *
  have Hm := Lib.hid hm
  clear hm
  have hkp := World.block_lt_of_cell? W _ t0
  have hkk := World.block_lt_of_cell? W _ t1
  have hbW := World.block_lt_of_cell? W _ c3
  gi_wp2_with fail
  refine wpIn_wide.2 ?_
  have hsc1 : ∀ i, i < m → W.drew.cell? ⟨g, off + i * 3 + 1, none⟩ = some (.int .i64 (st i)) := hsc0
  go_region_held3 (fun w' => w'.cell? ⟨kp, 0, none⟩ = some (.pointer (some ⟨b, 0, none⟩)) ∧ w'.cell? ⟨kk, 0, none⟩ = some (.string key) ∧ w'.cell? ⟨b, 3, none⟩ = some (.slice (some ⟨g, off, none⟩) m c) ∧ ∀ i, i < m → w'.cell? ⟨g, off + i * 3 + 1, none⟩ = some (.int .i64 (st i)))
    (first | exact ⟨t0, t1, c3, hsc1⟩ | exact ⟨(hbf.cell (p := ⟨kp, 0, none⟩) hkp).trans t0, (hbf.cell (p := ⟨kk, 0, none⟩) hkk).trans t1, (hbf.cell (p := ⟨b, 3, none⟩) hbW).trans c3, HSC.out _ ⟨hbf.os, hbf.tape, hbf.output, hbf.size, hbf.block⟩⟩ | go_keep)
    ((refine (tfind_any base b s last key l.length bs (by rw [Hm.out]; omega) _ (HAt.out.below (Below.refl _ W).drew)).mono ?_; rintro r w1 ⟨r, rfl, hr, hf, hbf⟩; rw [Hm.out] at hr; obtain ⟨i, hi⟩ : ∃ i : Nat, max ((r : Int) - 1) 0 = (i : Int) := ⟨r - 1, by omega⟩; have him : (i : Int) < (m : Int) := (by omega); obtain ⟨y, hy⟩ : ∃ y, bs[i]? = some y := ⟨bs[i]'(by have := Hm.out; omega), List.getElem?_eq_getElem _⟩; have hbf2 : Below W.heap.size W w1 := ⟨hbf.os, hbf.tape, hbf.output, hbf.size, hbf.block⟩; have him2 : i < m := (by omega); have Hf := Lib.hid hf; clear hf))
  obtain ⟨yl, hyl⟩ : ∃ yl, bs[m - 1]? = some yl := ⟨bs[m - 1]'(by have := Hm.out; omega), List.getElem?_eq_getElem _⟩
  have hys : yl.stop = E := by
    have h1 := HG.out.last yl (by rw [List.getLast?_eq_getElem?, Hm.out]; exact hyl)
    rw [h1]; exact HPE.out
  have hb2 := (HCL.out w1 hbf2 (m - 1) yl hyl).2
  rw [hys] at hb2
  have d0 := (hbf2.cell (p := ⟨kp, 0, none⟩) hkp).trans t0
  have d1 := (hbf2.cell (p := ⟨kk, 0, none⟩) hkk).trans t1
  have d3 := (hbf2.cell (p := ⟨b, 3, none⟩) hbW).trans c3
  have j1 : (0 : Int) ≤ (m : Int) - 1 := by omega
  have j2 : (m : Int) - 1 < (m : Int) := by omega
  have j3 : ((m : Int) - 1).toNat = m - 1 := by omega
  have j4 : IntKind.i64.wrap ((m : Int) - 1) = (m : Int) - 1 := IntWalk.i64_in _ (by omega)
  have j5 : 1 ≤ m := by omega
  have j6 : (1 : Int) ≤ (m : Int) := by omega
  obtain ⟨j, x, HJX⟩ : ∃ j x, Hid (y.start = Tb.pos l j ∧ l[j]? = some x ∧ Tb.from_ l key = Tb.from_ (l.drop j) key) := by
    obtain ⟨j, x, k1, k2, k3, k4, k5⟩ := HG.out.each i y hy
    refine ⟨j, x, k3, k4, Tb.from_drop hsort k4 ?_⟩
    by_cases hi0 : i = 0
    · exact .inl (k2 hi0)
    · right
      have hri : r - 1 = i := by omega
      rcases Hf.out y (by rw [hri]; exact hy) with h | h
      · omega
      · rw [k5]; exact h
  have HI := Lib.hid hi
  have hsti : st i = Tb.pos l j := (HST.out i y hy).trans HJX.out.1
  clear hi hys hyl hy t0 t1 c0 c1 c2 c3 hsc0
  rw [hsti]
  clear hsti
  gi_wp2_with fail
  refine wpIn_wide.2 ?_
  go_quiet (fail)
  clear j3 j4 hb2 him
  obtain ⟨w2, hw2⟩ : ∃ w2, w1.drewN nq = w2 := ⟨_, rfl⟩
  rw [hw2]
  have hB2 : Below W.heap.size W w2 := by rw [← hw2]; exact below_drewN hbf2 nq
  clear hw2 d0 d1 d3 hbf hbf2
  have hJ2 : J [] w2 := HJ.out [] W w2 none hJ0 (grown_of_below hB2 none) (fun r e => by cases e)
  have HT2 := Lib.hid (HT.out.below hB2)
  clear hJ0 hop HAt
  have HNN := Lib.hid hN
  have hB2z := hB2.size
  obtain ⟨hj1, HJ2, HJ3⟩ : j < l.length ∧ Hid (l[j]? = some x) ∧ Hid (Tb.from_ l key = Tb.from_ (l.drop j) key) := ⟨(List.getElem?_eq_some_iff.1 HJX.out.2.1).1, Lib.hid HJX.out.2.1, Lib.hid HJX.out.2.2⟩
  clear hN HJX HI Hf HCL HG j1 j2 j5 j6 tl hl0
  gi_wp2_with fail
  gi_loopw [4] (fun av wr => ∃ (k : Nat) (pre : List Tb.Ent), av = .int .i64 (Tb.pos l k) ∧ k ≤ l.length ∧ Hid (Tb.from_ l key = pre ++ Tb.from_ (l.drop k) key) ∧ J pre wr ∧ Hid (Tb.Tab wr base b kp kk s key l) ∧ W.heap.size ≤ wr.heap.size) (fun av _ => E - (intOf av).toNat)
  case atStart => exact ⟨j, [], rfl, by omega, HJ3, hJ2, HT2, hB2z⟩
  case round =>
    obtain ⟨k, pre, rfl, hk, HF, hJr, HTr, hWr⟩ := hrel
    clear HT2 HT HJ2 HJ3 hJ2
    by_cases hlt : k < l.length
    · have hxk : l[k]? = some l[k] := List.getElem?_eq_getElem hlt
      have HR := Lib.hid (HRD.out k _ hxk)
      have hse := Tb.readE_some hEs HR.out
      have htl := Tb.text_len l[k]
      have hpk : Tb.pos l k < E := by omega
      have HD : Hid (Tb.from_ (l.drop k) key = if Tb.less l[k].key key then Tb.from_ (l.drop (k + 1)) key else l[k] :: Tb.from_ (l.drop (k + 1)) key) := Lib.hid (by
        rw [List.drop_eq_getElem_cons hlt]; unfold Tb.from_; rw [List.filter_cons]; cases Tb.less l[k].key key <;> rfl)
      obtain ⟨t0, t1, hop⟩ := HTr.out
      obtain ⟨bs', last', ⟨v', hk', hz1⟩, hz2⟩ := id hop
      obtain ⟨⟨c0, c1, c2, c3⟩, hz3⟩ := hk'.k4
      have hps : Tb.pos l k ≤ 900000000 := by omega
      have HSE := Lib.hid hse
      clear hk' hxk hse htl hop c1 c2 c3 hz1 hz2 hz3
      gi_wp2_with fail
      refine ⟨trivial, (callsIn_wide.2 (tentry_any s (by omega) (Tb.pos l k) E hps hEs _)).mono ?_⟩
      rintro e w3 ⟨rfl, hb3⟩
      rw [HR.out]
      have hb3z := hb3.size
      have HTn := Lib.hid (HTr.out.below hb3)
      have hJ3 : J pre w3 := HJ.out pre wr w3 none hJr (grown_of_below (hb3.mono (Nat.le_refl _)) none) (fun r e => by cases e)
      obtain ⟨q0, q1, _⟩ := HTn.out
      have hkk3 := World.block_lt_of_cell? w3 _ q1
      have hkk4 : ¬ kk = w3.heap.size := by omega
      clear hJr c0 t0 t1 HR
      generalize l[k] = x at *
      obtain ⟨xk, xv, xg⟩ := x
      simp only [Tb.entV, Tb.Ent.val]
      simp only at HD HSE
      obtain ⟨F, HFF⟩ : ∃ F, Hid (Tb.less xk key = F) := ⟨_, Lib.hid rfl⟩
      have hff : Op.bytesLess xk.toList key.toList = F := HFF.out
      have hJ4 : J pre (w3.alloc (.cells #[.string xk, .string xv, .bool xg] 36)) := HJ.out pre w3 _ none hJ3 (World.grownBy_alloc _ _ _) (fun r e => by cases e)
      have HT4 := Lib.hid (HTn.out.below ((Below.refl _ _).alloc (Nat.le_refl _) (.cells #[.string xk, .string xv, .bool xg] 36)))
      clear hJ3 HTn
      cases F with
      | true =>
        have HD2 : Hid (Tb.from_ (l.drop k) key = Tb.from_ (l.drop (k + 1)) key) := Lib.hid (by rw [HD.out, if_pos HFF.out])
        gi_wp2_with fail
        refine ⟨fun _ h => (by cases h), ?_⟩
        gi_wp2_with fail
        go_roundw
        case rel => exact ⟨k + 1, pre, rfl, by omega, Lib.hid (by rw [HF.out, HD2.out]), hJ4, HT4, by simp; omega⟩
        case measure => have h1 := HSE.out.1; have h2 := Tb.text_len ⟨xk, xv, xg⟩; simp [intOf]; omega
      | false =>
        have HD2 : Hid (Tb.from_ (l.drop k) key = ⟨xk, xv, xg⟩ :: Tb.from_ (l.drop (k + 1)) key) := Lib.hid (by rw [HD.out, if_neg (by rw [HFF.out]; simp)])
        have hpl : pre.length < N := by
          have h := HNN.out
          rw [HF.out, HD2.out] at h
          simp at h
          omega
        obtain ⟨fn, tmps, assign, body, hy, hR⟩ := HY.out pre ⟨xk, xv, xg⟩ _ hJ4 hpl
        simp only [Tb.Ent.val] at hy
        gi_wp2_with fail
        refine hR.mono ?_
        rintro e W3 (⟨rfl, hJ5, hk5⟩ | ⟨rfl, hJx5⟩)
        · have HT5 := Lib.hid (hk5.2 HT4.out)
          have hk5z := hk5.1.size
          simp only [World.size_alloc] at hk5z
          gi_wp2_with fail
          go_roundw
          case rel => exact ⟨k + 1, pre ++ [⟨xk, xv, xg⟩], rfl, by omega, Lib.hid (by rw [HF.out, HD2.out]; simp), hJ5, HT5, by omega⟩
          case measure => have h1 := HSE.out.1; have h2 := Tb.text_len ⟨xk, xv, xg⟩; simp [intOf]; omega
        · gi_wp2_with fail
          refine bodyPost_ret (results_none rfl _ _ _) rfl ?_
          exact ⟨⟨_, rfl⟩, .inr ⟨pre ++ [⟨xk, xv, xg⟩], ⟨⟨Tb.from_ (l.drop (k + 1)) key, by rw [HF.out, HD2.out]; simp⟩, by simp⟩, hJx5⟩⟩
    · obtain rfl : k = l.length := by omega
      have hpe : ¬ Tb.pos l l.length < E := by rw [HPE.out]; omega
      gi_wp2_with fail
      refine bodyPost_end (results_none rfl _ _ _) rfl ?_
      refine ⟨⟨_, rfl⟩, .inl ⟨pre, ?_, hJr⟩⟩
      rw [HF.out, List.drop_of_length_le (Nat.le_refl _)]
      simp [Tb.from_]
end Go.Proofs.Ytdjccepchleacaa
