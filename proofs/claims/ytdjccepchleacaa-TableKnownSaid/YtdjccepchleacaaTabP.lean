/- TableKnown: the walk. -/
import Derived.Test.YtdjccepchleacaaTabO
import Derived.Test.YtdjccepchleacaaTabN
import Derived.Test.YtdjccepchleacaaRoundA
import Derived.Test.YtdjccepchleacaaBytes
import Derived.Sort.CutIn
set_option linter.unusedVariables false
set_option linter.unusedSimpArgs false
namespace Go.Proofs.Ytdjccepchleacaa
open Go.RowKit Go.BigFrame Go.Shelf
attribute [local go_sem] Oper.semAt_some
namespace Tb
theorem ex_a : get ex ⟨#[97]⟩ = some ⟨ba [97], ba [49], false⟩ := by kernel_rfl
theorem ex_from : from_ ex ⟨#[98]⟩ = [⟨ba [98], ⟨#[]⟩, true⟩, ⟨ba [99], ba [51], false⟩] := by kernel_rfl
def kn (l : List Ent) : Int := l.foldl (fun n x => wrap64 (wrap64 (10 * n) + x.value.size)) 0
theorem kn_snoc (l : List Ent) (x : Ent) : kn (l ++ [x]) = wrap64 (wrap64 (10 * kn l) + x.value.size) := by simp [kn]
theorem kn_ex : kn [⟨ba [98], ⟨#[]⟩, true⟩, ⟨ba [99], ba [51], false⟩] = 1 := by decide +kernel
def k1 : List Ent := [⟨ba [98], ⟨#[]⟩, false⟩, ⟨ba [97], ⟨#[]⟩, false⟩]
def k2 : List Ent := [⟨ba [97], ⟨#[]⟩, false⟩, ⟨ba [97], ⟨#[]⟩, false⟩]
def k3 : List Ent := [⟨⟨#[]⟩, ⟨#[]⟩, false⟩]
def k4 : List Ent := [⟨ba (List.replicate 129 0), ⟨#[]⟩, false⟩]
def k5 : List Ent := [⟨ba [98], ba [120], true⟩]
theorem k1_right : right k1 = 1 := by decide +kernel
theorem k2_right : right k2 = 1 := by decide +kernel
theorem k3_right : right k3 = 1 := by decide +kernel
theorem k4_right : right k4 = 3 := by decide +kernel
theorem k5_right : right k5 = 1 := by decide +kernel
theorem k0_right : right [] = 0 := by decide +kernel
theorem open_empty : openE ⟨#[]⟩ = none := openE_short (by decide)
/-- TableKnown's rounds. -/
structure KnI (w W : World) (base b xb nb : Nat) (S : ByteArray) (pre : List Ent) : Prop where
  b0 : Bk W w.heap.size 4 #[.bool false]
  bx : Bk W xb 36 #[.string (ba [97]), .string (ba [49]), .bool false]
  bn : Bk W nb 3 #[.int .i64 (kn pre)]
  op : Opened W base b S ex
  bel : Below w.heap.size w W
end Tb
theorem Tb.KnI.kept {w W W' : World} {row : Option Nat} {base b xb nb : Nat} {S : ByteArray} {pre : List Tb.Ent} (h : Tb.KnI w W base b xb nb S pre) (hg : W.grownBy W' row) (hrow : ∀ r, row = some r → w.heap.size ≤ r ∧ ∃ o : Obj, W.heap[r]? = some o ∧ o.isCells = false) : Tb.KnI w W' base b xb nb S pre :=
  ⟨bk_kept h.b0 hg (fun r e => (hrow r e).2), bk_kept h.bx hg (fun r e => (hrow r e).2), bk_kept h.bn hg (fun r e => (hrow r e).2), h.op.kept hg (fun r e => (hrow r e).2), h.bel.grown hg h.bel.size (fun k e => (hrow k e).1)⟩
theorem Tb.KnI.below {w W W' : World} {base b xb nb : Nat} {S : ByteArray} {pre : List Tb.Ent} (h : Tb.KnI w W base b xb nb S pre) (hb : Below W.heap.size W W') : Tb.KnI w W' base b xb nb S pre :=
  ⟨h.b0.below hb h.b0.lt, h.bx.below hb h.bx.lt, h.bn.below hb h.bn.lt, h.op.below hb, h.bel.trans (hb.mono h.bel.size)⟩
theorem lie_new (w : World) (vs : List Value) (T : TypeId) : Lie (w.alloc (.cells vs.toArray T)) (some ⟨w.heap.size, 0, none⟩) vs := fun _ => ⟨w.heap.size, 0, rfl, fun j u hu => by
  rw [Nat.zero_add, World.cell?_alloc_mark]
  simpa using hu⟩
set_option maxRecDepth 100000 in
set_option maxHeartbeats 8000000 in
theorem tableKnown_walk (w : World) : Calls Try.prog 5 #[] w fun e w' => e = .returned (.bool true) ∧ Below w.heap.size w w' := by
  refine (callsIn_wide (n := 6)).1 ?_
  refine callsIn_of_wp_marks Try.func5 rfl trivial ?_ rfl
  simp only [Try.ntmps5, List.size_toArray, List.length_cons, List.length_nil, Nat.reduceAdd, Nat.reduceSub, Array.replicate_succ, Array.replicate_zero, List.push_toArray, List.append_toArray, List.nil_append, List.cons_append]
  gi_upto_region 1 with (fail)
  have q0 := Bk.new w 4 #[.bool false]
  have hB0 := (Below.refl w.heap.size w).alloc (Nat.le_refl _) (.cells #[.bool false] 4)
  generalize (w.alloc (.cells #[.bool false] 4)) = w0 at *
  gi_wp2_with fail
  refine ⟨trivial, (callsIn_wide.2 (tlist_any _)).mono ?_⟩
  rintro e w1 ⟨rfl, hl, hb1⟩
  have HL := Lib.hid hl
  have q1 := q0.below hb1 q0.lt
  have hB1 := hB0.trans (hb1.mono hB0.size)
  clear hl q0
  gi_wp2_with fail
  refine ⟨trivial, (callsIn_wide.2 (tbuild_any _ 3 3 Tb.ex rfl (by decide) Tb.ex_small _ HL.out)).mono ?_⟩
  rintro e w2 ⟨rfl, hb2⟩
  rw [Tb.ex_right]
  have HO := Lib.hid Tb.ex_open
  have HZ := Lib.hid Tb.ex_size
  have hSp : 16 ≤ (Tb.built Tb.ex).size := by
    unfold Tb.built
    rw [if_pos Tb.ex_right, Tb.ba_size, Tb.bytes_len]
    omega
  have hSq : (Tb.built Tb.ex).size ≤ 700000 := by
    unfold Tb.built
    rw [if_pos Tb.ex_right, Tb.ba_size, Tb.bytes_len]
    have := Tb.body_bound Tb.ex_right
    omega
  have q2 := q1.below hb2 q1.lt
  have hB2 := hB1.trans (hb2.mono hB1.size)
  clear q1 HL hb1 hb2
  generalize Tb.built Tb.ex = S at *
  gi_wp2_with fail
  refine ⟨trivial, (callsIn_wide.2 (topen_any S HZ.out _)).mono ?_⟩
  intro e w3 hP
  unfold Tb.OpenP at hP
  rw [HO.out] at hP
  obtain ⟨hb3, b, hbb, rfl, hop⟩ := hP
  have q3 := q2.below hb3 q2.lt
  have hB3 := hB2.trans (hb3.mono hB2.size)
  have HOP := Lib.hid hop
  clear hop q2 hb3
  gi_wp2_with fail
  refine ⟨trivial, (callsIn_wide.2 (tgetk_any S HZ.out Tb.ex (Tb.right_sorted Tb.ex_right) ⟨#[97]⟩ _ b _ HOP.out)).mono ?_⟩
  rintro e w4 ⟨rfl, hb4⟩
  rw [Tb.ex_a]
  have q4 := q3.below hb4 q3.lt
  have hB4 := hB3.trans (hb4.mono hB3.size)
  have HOP4 := Lib.hid (HOP.out.below hb4)
  clear HOP q3 hb4
  simp only [Tb.getV, Tb.Ent.val]
  gi_upto_region 7 with (fail)
  have hI5 : Tb.KnI w ((w4.alloc (.cells #[.string (Tb.ba [97]), .string (Tb.ba [49]), .bool false] 36)).alloc (.cells #[.int .i64 0] 3)) w2.heap.size b w4.heap.size (w4.heap.size + 1) S [] := by
    have h1 := Bk.new (w4.alloc (.cells #[.string (Tb.ba [97]), .string (Tb.ba [49]), .bool false] 36)) 3 #[.int .i64 0]
    rw [World.size_alloc] at h1
    have hb := ((Below.refl w4.heap.size w4).alloc (Nat.le_refl _) (.cells #[.string (Tb.ba [97]), .string (Tb.ba [49]), .bool false] 36)).alloc (by simp) (.cells #[.int .i64 0] 3)
    exact ⟨(q4.alloc _).alloc _, (Bk.new w4 _ _).alloc _, h1, HOP4.out.below hb, hB4.trans (hb.mono hB4.size)⟩
  have hz5 : ((w4.alloc (.cells #[.string (Tb.ba [97]), .string (Tb.ba [49]), .bool false] 36)).alloc (.cells #[.int .i64 0] 3)).heap.size = w4.heap.size + 2 := by simp
  have hb4 := HOP4.out.lt
  have hw4 := hB4.size
  have hq4 := q4.lt
  clear HOP4 q4 hB4
  generalize ((w4.alloc (.cells #[.string (Tb.ba [97]), .string (Tb.ba [49]), .bool false] 36)).alloc (.cells #[.int .i64 0] 3)) = w5 at *
  generalize w4.heap.size = xb at *
  have HZ5 := Lib.hid hz5
  clear hz5
  gi_wp2_with fail
  refine ⟨trivial, (callsIn_wide.2 (tfrom_any (some ⟨b, 0, none⟩) ⟨#[98]⟩ _)).mono ?_⟩
  rintro e w' ⟨rfl, rfl⟩
  have hfn := func6_not_nil
  gi_wp2_with fail
  clear hfn
  obtain ⟨W1, hW1⟩ : ∃ W1, ((w5.alloc (.cells #[.pointer (some ⟨b, 0, none⟩)] 28)).alloc (.cells #[.string ⟨#[98]⟩] 9)) = W1 := ⟨_, rfl⟩
  rw [hW1]
  have hz1 : W1.heap.size = w5.heap.size + 2 := by rw [← hW1]; simp
  have r1 : Bk W1 w5.heap.size 28 #[.pointer (some ⟨b, 0, none⟩)] := by rw [← hW1]; exact (Bk.new w5 _ _).alloc _
  have r2 : Bk W1 (w5.heap.size + 1) 9 #[.string ⟨#[98]⟩] := by
    rw [← hW1]
    have h := Bk.new (w5.alloc (.cells #[.pointer (some ⟨b, 0, none⟩)] 28)) 9 #[.string ⟨#[98]⟩]
    rw [World.size_alloc] at h
    exact h
  have hbW1 : Below w5.heap.size w5 W1 := by rw [← hW1]; exact ((Below.refl _ w5).alloc (Nat.le_refl _) _).alloc (by simp) _
  have hI1 : Tb.KnI w W1 w2.heap.size b xb (xb + 1) S [] := ⟨hI5.b0.below hbW1 hI5.b0.lt, hI5.bx.below hbW1 hI5.bx.lt, hI5.bn.below hbW1 hI5.bn.lt, hI5.op.below hbW1, hI5.bel.trans (hbW1.mono hI5.bel.size)⟩
  have hT : Tb.Tab W1 w2.heap.size b w5.heap.size (w5.heap.size + 1) S ⟨#[98]⟩ Tb.ex := ⟨r1.cell 0, r2.cell 0, hI5.op.below hbW1⟩
  have HFE := Lib.hid Tb.ex_from
  clear hW1 hbW1 r1 r2 hI5
  generalize w5.heap.size = kp at *
  have hkp := HZ5.out
  refine range_ownX rfl (by omega) (gf := 34) (lb := #[.pointer (some ⟨kp, 0, none⟩), .pointer (some ⟨kp + 1, 0, none⟩)]) rfl trivial (enters_of Try.func34 (by kernel_rfl) rfl)
    (tfrom1_stops _ (by omega) S HZ.out Tb.ex (Tb.right_sorted Tb.ex_right) ⟨#[98]⟩ w2.heap.size b _ _ w.heap.size W1 (by omega) hT (Tb.from_ Tb.ex ⟨#[98]⟩).length (Nat.le_refl _)) Tb.keepF_t (keepTab_b (by omega)) (Below.refl _ _) (fun _ => rfl)
    36 (fun x => #[.string x.key, .string x.value, .bool x.gone]) (keepTab_a (by omega))
    (fun pre W => Tb.KnI w W w2.heap.size b xb (xb + 1) S pre ∧ W1.heap.size ≤ W.heap.size)
    (fun cd pre W => False)
    (fun s A B row hs hg hr => ⟨hs.1.kept hg (fun r e => ⟨by have := (hr r e).1; omega, (hr r e).2⟩), Nat.le_trans hs.2 hg.size⟩)
    (fun cd s A B row hs hg hr => hs)
    (fun pre W h => h.2) ⟨hI1, Nat.le_refl _⟩ ?ex ?done ?stop
  case ex =>
    apply Exists.intro
    refine ⟨?assign, ?body⟩
    case assign =>
      intro l x b2 W K hb2 hK
      unfold Tb.Ent.val
      have HB2 := Lib.hid hb2
      clear hb2
      gi_wp2
      rw [← HB2.out]
      exact hK
    case body =>
      rintro lo pre x b2 W ⟨hI, hzW⟩ hx hb2 hpl
      obtain ⟨xk, xv, xg⟩ := x
      simp only at hx
      obtain ⟨⟨e0, e1, e2⟩, hz3⟩ := hx.k3
      have cn : W.cell? ⟨xb + 1, 0, none⟩ = some (.int .i64 (Tb.kn pre)) := hI.bn.cell 0
      have fn : W.frozen? ⟨xb + 1, 0, none⟩ = false := hI.bn.frozen 0
      have HK := Lib.hid (Tb.kn_snoc pre ⟨xk, xv, xg⟩)
      clear hz3
      generalize Tb.kn pre = kk at *
      gi_wp2_with fail
      refine ⟨(KeepsOthers.setCell _ _ _).from _, ⟨(Below.refl w.heap.size W).setCell (p := ⟨xb + 1, 0, none⟩) (by show w.heap.size ≤ xb + 1; omega) _, fun hx => hx.set hI.bn (by decide) (by omega) (by omega) (by omega) _⟩, ⟨hI.b0.far (by show w.heap.size ≠ xb + 1; omega) _, hI.bx.far (by show xb ≠ xb + 1; omega) _, ?_, hI.op.set hI.bn (by decide) (by omega) _, hI.bel.setCell (p := ⟨xb + 1, 0, none⟩) (by show w.heap.size ≤ xb + 1; omega) _⟩, by simp; omega⟩
      have h := hI.bn.set_ 0 (.int .i64 (wrap64 (wrap64 (10 * kk) + xv.size)))
      rw [HK.out]
      exact h
  case stop =>
    rintro D c2 pre W hD hpre hbad hK
    exact hbad.elim
  case done =>
    rintro D xs W hD hxs ⟨hI, hzW⟩ hK
    rw [HFE.out] at hxs
    subst hxs
    have HI := Lib.hid hI
    have hDw : w.heap.size ≤ D := by omega
    clear hI1 hT HFE hI
    gi_wp2_with fail
    refine ⟨trivial, (callsIn_wide.2 (tends_any _ b S Tb.ex _ HI.out.op)).mono ?_⟩
    rintro e Wa ⟨rfl, hba⟩
    have HIa := Lib.hid (HI.out.below hba)
    have hKa := (hba.block D (Array.getElem?_eq_some_iff.1 hK).1).trans hK
    clear HI hK hba
    have hfk : Tb.firstKey Tb.ex = Tb.ba [97] := rfl
    have hlk : Tb.lastKey Tb.ex = Tb.ba [99] := rfl
    rw [hfk, hlk]
    clear hfk hlk
    obtain ⟨⟨d0, d1, d2⟩, hz⟩ := HIa.out.bx.k3
    have dn : Wa.cell? ⟨xb + 1, 0, none⟩ = some (.int .i64 1) := by have := HIa.out.bn.cell 0; rw [Tb.kn_ex] at this; exact this
    have h97 : (Tb.ba [97]).toList = [97] := by decide +kernel
    have h49 : (Tb.ba [49]).toList = [49] := by decide +kernel
    have h99 : (Tb.ba [99]).toList = [99] := by decide +kernel
    clear hz
    gi_upto_region 16 with (fail)
    clear d0 d1 d2 dn h97 h49 h99
    gi_wp2_with fail
    refine ⟨trivial, (callsIn_wide.2 (tbuild_any none 0 0 [] rfl (by decide) (fun x hx => by cases hx) _ (fun h => absurd h (by simp)))).mono ?_⟩
    rintro e Wb ⟨rfl, hbb'⟩
    rw [Tb.k0_right]
    simp only [Int.cast_ofNat_Int]
    have HO0 : Hid (Tb.openE (Tb.built []) = some []) := Lib.hid (by unfold Tb.built; rw [if_pos Tb.k0_right]; exact Tb.open_bytes Tb.k0_right)
    have hS0 : (Tb.built []).size ≤ 800000000 := by unfold Tb.built; rw [if_pos Tb.k0_right, Tb.ba_size, Tb.bytes_len]; have := Tb.body_bound Tb.k0_right; omega
    generalize Tb.built [] = S0 at *
    have HIb := Lib.hid (HIa.out.below hbb')
    have hKb := (hbb'.block D (Array.getElem?_eq_some_iff.1 hKa).1).trans hKa
    clear HIa hKa hbb'
    gi_wp2_with fail
    refine ⟨trivial, (callsIn_wide.2 (topen_any S0 hS0 _)).mono ?_⟩
    intro e Wc hP
    unfold Tb.OpenP at hP
    rw [HO0.out] at hP
    obtain ⟨hbc, u, hbu, rfl, hopu⟩ := hP
    have HU0 : Hid (Tb.LenAt Wc u 0) := Lib.hid ⟨_, _, _, hopu, rfl⟩
    have HI0 := Lib.hid (HIb.out.below hbc)
    have hK0 := (hbc.block D (Array.getElem?_eq_some_iff.1 hKb).1).trans hKb
    clear HIb hKb hbc hopu
    obtain ⟨V0, hV0⟩ : ∃ V0, V0 = Wc := ⟨_, rfl⟩
    subst hV0
    gi_upto_region 18 with (fail)
    gi_wp2_with fail
    refine ⟨trivial, (callsIn_wide.2 (tbuild_any _ 2 2 Tb.k1 rfl (by decide) (by unfold Tb.Small Tb.k1; decide +kernel) _ (lie_new V0 (Tb.k1.flatMap Tb.Ent.cells) 36))).mono ?_⟩
    rintro e V1 ⟨rfl, hb1⟩
    rw [Tb.k1_right]
    simp only [Int.cast_ofNat_Int]
    have hx1 := ((Below.refl V0.heap.size V0).alloc (Nat.le_refl _) (.cells (Tb.k1.flatMap Tb.Ent.cells).toArray 36)).trans (hb1.mono (by simp))
    clear hb1
    generalize Tb.built Tb.k1 = T1 at *
    have HU1 := Lib.hid (HU0.out.below hx1)
    have HI1 := Lib.hid (HI0.out.below hx1)
    have hK1 := (hx1.block D (Array.getElem?_eq_some_iff.1 hK0).1).trans hK0
    clear HU0 HI0 hK0 hx1
    gi_upto_region 19 with (fail)
    gi_wp2_with fail
    refine ⟨trivial, (callsIn_wide.2 (tbuild_any _ 2 2 Tb.k2 rfl (by decide) (by unfold Tb.Small Tb.k2; decide +kernel) _ (lie_new V1 (Tb.k2.flatMap Tb.Ent.cells) 36))).mono ?_⟩
    rintro e V2 ⟨rfl, hb2⟩
    rw [Tb.k2_right]
    simp only [Int.cast_ofNat_Int]
    have hx2 := ((Below.refl V1.heap.size V1).alloc (Nat.le_refl _) (.cells (Tb.k2.flatMap Tb.Ent.cells).toArray 36)).trans (hb2.mono (by simp))
    clear hb2
    generalize Tb.built Tb.k2 = T2 at *
    have HU2 := Lib.hid (HU1.out.below hx2)
    have HI2 := Lib.hid (HI1.out.below hx2)
    have hK2 := (hx2.block D (Array.getElem?_eq_some_iff.1 hK1).1).trans hK1
    clear HU1 HI1 hK1 hx2
    gi_upto_region 20 with (fail)
    gi_wp2_with fail
    refine ⟨trivial, (callsIn_wide.2 (tbuild_any _ 1 1 Tb.k3 rfl (by decide) (by unfold Tb.Small Tb.k3; decide +kernel) _ (lie_new V2 (Tb.k3.flatMap Tb.Ent.cells) 36))).mono ?_⟩
    rintro e V3 ⟨rfl, hb3⟩
    rw [Tb.k3_right]
    simp only [Int.cast_ofNat_Int]
    have hx3 := ((Below.refl V2.heap.size V2).alloc (Nat.le_refl _) (.cells (Tb.k3.flatMap Tb.Ent.cells).toArray 36)).trans (hb3.mono (by simp))
    clear hb3
    generalize Tb.built Tb.k3 = T3 at *
    have HU3 := Lib.hid (HU2.out.below hx3)
    have HI3 := Lib.hid (HI2.out.below hx3)
    have hK3 := (hx3.block D (Array.getElem?_eq_some_iff.1 hK2).1).trans hK2
    clear HU2 HI2 hK2 hx3
    gi_upto_region 21 with (fail)
    obtain ⟨X2, hrun, hby, hbX, hltX⟩ := make_bytes V3 .i64 .i64 129 (by omega)
    have hrun2 := string_of_bytes hby 129
    have hl9 : (List.replicate 129 (0 : UInt8)).length = 129 := rfl
    rw [hl9] at hrun2
    have hzs : (⟨(List.replicate 129 (0 : UInt8)).toArray⟩ : ByteArray) = Tb.ba (List.replicate 129 0) := rfl
    rw [hzs] at hrun2
    simp only [Int.cast_ofNat_Int] at hrun
    clear hl9 hzs hby
    gi_wp2_with fail
    refine ⟨trivial, (callsIn_wide.2 (tbuild_any _ 1 1 Tb.k4 rfl (by decide) (by unfold Tb.Small Tb.k4; decide +kernel) _ (lie_new X2 (Tb.k4.flatMap Tb.Ent.cells) 36))).mono ?_⟩
    rintro e V4 ⟨rfl, hb4⟩
    rw [Tb.k4_right]
    simp only [Int.cast_ofNat_Int]
    have hx4 := hbX.trans ((((Below.refl X2.heap.size X2).alloc (Nat.le_refl _) (.cells (Tb.k4.flatMap Tb.Ent.cells).toArray 36)).trans (hb4.mono (by simp))).mono hbX.size)
    clear hb4 hrun hrun2 hltX hbX
    generalize Tb.built Tb.k4 = T4 at *
    have HU4 := Lib.hid (HU3.out.below hx4)
    have HI4 := Lib.hid (HI3.out.below hx4)
    have hK4 := (hx4.block D (Array.getElem?_eq_some_iff.1 hK3).1).trans hK3
    clear HU3 HI3 hK3 hx4
    gi_upto_region 22 with (fail)
    gi_wp2_with fail
    refine ⟨trivial, (callsIn_wide.2 (tbuild_any _ 1 1 Tb.k5 rfl (by decide) (by unfold Tb.Small Tb.k5; decide +kernel) _ (lie_new V4 (Tb.k5.flatMap Tb.Ent.cells) 36))).mono ?_⟩
    rintro e V5 ⟨rfl, hb5⟩
    rw [Tb.k5_right]
    simp only [Int.cast_ofNat_Int]
    have hx5 := ((Below.refl V4.heap.size V4).alloc (Nat.le_refl _) (.cells (Tb.k5.flatMap Tb.Ent.cells).toArray 36)).trans (hb5.mono (by simp))
    clear hb5
    generalize Tb.built Tb.k5 = T5 at *
    have HU5 := Lib.hid (HU4.out.below hx5)
    have HI5 := Lib.hid (HI4.out.below hx5)
    have hK5 := (hx5.block D (Array.getElem?_eq_some_iff.1 hK4).1).trans hK4
    clear HU4 HI4 hK4 hx5
    gi_upto_region 23 with (fail)
    have HNO : Hid (Tb.openE (⟨#[]⟩ : ByteArray) = none) := Lib.hid (Tb.open_empty)
    have hsz : (⟨#[]⟩ : ByteArray).size ≤ 800000000 := by decide
    gi_wp2_with fail
    refine ⟨trivial, (callsIn_wide.2 (topen_any _ hsz _)).mono ?_⟩
    intro e V6 hP
    unfold Tb.OpenP at hP
    rw [HNO.out] at hP
    obtain ⟨hx6, rfl⟩ := hP
    clear HNO hsz
    have HU6 := Lib.hid (HU5.out.below hx6)
    have HI6 := Lib.hid (HI5.out.below hx6)
    have hK6 := (hx6.block D (Array.getElem?_eq_some_iff.1 hK5).1).trans hK5
    clear HU5 HI5 hK5 hx6
    gi_upto_region 24 with (fail)
    have HNO : Hid (Tb.openE (S ++ ⟨#[120]⟩ : ByteArray) = none) := Lib.hid (Tb.open_more (by rw [HO.out]; simp) (by decide))
    have hsz : (S ++ ⟨#[120]⟩ : ByteArray).size ≤ 800000000 := by rw [ByteArray.size_append]; have z1 : (⟨#[120]⟩ : ByteArray).size = 1 := rfl; omega
    gi_wp2_with fail
    refine ⟨trivial, (callsIn_wide.2 (topen_any _ hsz _)).mono ?_⟩
    intro e V7 hP
    unfold Tb.OpenP at hP
    rw [HNO.out] at hP
    obtain ⟨hx7, rfl⟩ := hP
    clear HNO hsz
    have HU7 := Lib.hid (HU6.out.below hx7)
    have HI7 := Lib.hid (HI6.out.below hx7)
    have hK7 := (hx7.block D (Array.getElem?_eq_some_iff.1 hK6).1).trans hK6
    clear HU6 HI6 hK6 hx7
    have j1 : (S.size : Int) - 1 ≤ (S.size : Int) := by omega
    have j2 : (0 : Int) ≤ (S.size : Int) - 1 := by omega
    have j3 : ((S.size : Int) - 1).toNat = S.size - 1 := by omega
    have j4 : ((S.size : Int) < 1) = False := eq_false (by omega)
    gi_upto_region 25 with (fail)
    have HNO : Hid (Tb.openE (S.extract 0 (S.size - 1)) = none) := Lib.hid (by have h := Tb.open_cut (show Tb.openE S ≠ none by rw [HO.out]; simp) (S.size - 1) (by omega); rw [← h]; congr 1; exact Tb.ext_list (by rw [Tb.ba_list, Lib.extract_data]; simp))
    have hsz : (S.extract 0 (S.size - 1)).size ≤ 800000000 := by simp; omega
    gi_wp2_with fail
    refine ⟨trivial, (callsIn_wide.2 (topen_any _ hsz _)).mono ?_⟩
    intro e V8 hP
    unfold Tb.OpenP at hP
    rw [HNO.out] at hP
    obtain ⟨hx8, rfl⟩ := hP
    clear HNO hsz
    have HU8 := Lib.hid (HU7.out.below hx8)
    have HI8 := Lib.hid (HI7.out.below hx8)
    have hK8 := (hx8.block D (Array.getElem?_eq_some_iff.1 hK7).1).trans hK7
    clear HU7 HI7 hK7 hx8
    clear j1 j2 j3 j4
    gi_wp2_with fail
    refine ⟨trivial, (callsIn_wide.2 (tlen_k u 0 _ HU8.out)).mono ?_⟩
    rintro e Y1 ⟨rfl, rfl⟩
    simp only [Int.cast_ofNat_Int]
    gi_wp2_with fail
    refine ⟨trivial, (callsIn_wide.2 (tget_nil ⟨#[97]⟩ _)).mono ?_⟩
    rintro e Y2 ⟨rfl, hy2⟩
    simp only [Tb.getV, Tb.Ent.val, Tb.Ent.zero]
    have c2 := HI8.out.b0.below hy2 HI8.out.b0.lt
    have hK9 := (hy2.block D (Array.getElem?_eq_some_iff.1 hK8).1).trans hK8
    have hB9 := HI8.out.bel.trans (hy2.mono HI8.out.bel.size)
    have hz9 := hB9.size
    clear hy2 HI8 HU8 hK8
    gi_upto_region 30 with (fail)
    have c3 := c2.alloc (.cells #[.string ByteArray.empty, .string ByteArray.empty, .bool false] 36)
    have hK10 := (Below.heap_alloc Y2 (.cells #[.string ByteArray.empty, .string ByteArray.empty, .bool false] 36) D (Array.getElem?_eq_some_iff.1 hK9).1).trans hK9
    have hB10 := hB9.alloc hz9 (.cells #[.string ByteArray.empty, .string ByteArray.empty, .bool false] 36)
    clear c2 hK9 hB9 hz9
    generalize (Y2.alloc (.cells #[.string ByteArray.empty, .string ByteArray.empty, .bool false] 36)) = Y3 at *
    gi_wp2_with fail
    refine ⟨trivial, (callsIn_wide.2 (tends_nil _)).mono ?_⟩
    rintro e Y4 ⟨rfl, rfl⟩
    gi_wp2_with fail
    refine ⟨trivial, (callsIn_wide.2 (tfrom_any none ⟨#[]⟩ _)).mono ?_⟩
    rintro e w' ⟨rfl, rfl⟩
    have hfn := func6_not_nil
    gi_wp2_with fail
    clear hfn
    obtain ⟨W2, hW2⟩ : ∃ W2, ((Y4.alloc (.cells #[.pointer none] 28)).alloc (.cells #[.string ⟨#[]⟩] 9)) = W2 := ⟨_, rfl⟩
    rw [hW2]
    have hz2 : Y4.heap.size + 2 = W2.heap.size := by rw [← hW2]; simp
    have r1 : W2.cell? ⟨Y4.heap.size, 0, none⟩ = some (.pointer none) := by rw [← hW2]; exact ((Bk.new Y4 _ _).alloc _).cell 0
    have hbW2 : Below Y4.heap.size Y4 W2 := by rw [← hW2]; exact ((Below.refl _ Y4).alloc (Nat.le_refl _) _).alloc (by simp) _
    have c4 := c3.below hbW2 c3.lt
    have hDl := (Array.getElem?_eq_some_iff.1 hK10).1
    have hK11 := (hbW2.block D hDl).trans hK10
    have hB11 := hB10.trans (hbW2.mono hB10.size)
    have hz11 := hB10.size
    clear hW2 hbW2 c3 hK10 hB10
    generalize Y4.heap.size = kq at *
    have HZ2 := Lib.hid hz2
    clear hz2
    have hz2 := HZ2.out
    refine range_ownG rfl (by omega) (gf := 34) (lb := #[.pointer (some ⟨kq, 0, none⟩), .pointer (some ⟨kq + 1, 0, none⟩)]) rfl trivial (enters_of Try.func34 (by kernel_rfl) rfl)
      (tfrom1_nil _ (by omega) _ _ w.heap.size W2 r1 0) Tb.keepF_t (keepNil_b (by omega)) (Below.refl _ _) (fun _ => rfl)
      (fun pre W => (Bk W w.heap.size 4 #[.bool false] ∧ W.heap[D]? = some (.deferred (some [])) ∧ W2.heap.size ≤ W.heap.size) ∧ Below w.heap.size w W)
      (fun cd pre W => False)
      (fun s A B row hs hg hr => ⟨⟨bk_kept hs.1.1 hg (fun r e => (hr r e).2), (hg.block D (by have := hs.1.2.2; omega) (fun e => by have := (hr D e.symm).1; omega)).trans hs.1.2.1, Nat.le_trans hs.1.2.2 hg.size⟩, hs.2.grown hg hs.2.size (fun k e => by have := (hr k e).1; omega)⟩)
      (fun cd s A B row hs hg hr => hs)
      ⟨⟨c4, hK11, Nat.le_refl _⟩, hB11⟩ ?ex2 ?done2 ?stop2
    case ex2 =>
      apply Exists.intro
      refine ⟨?assign2, ?body2⟩
      case assign2 =>
        intro l x W K hK
        gi_wp2
        exact hK
      case body2 =>
        rintro lo pre x W _ hpl
        exact absurd hpl (by omega)
    case stop2 =>
      rintro D2 c2 pre W hD hpre hbad hK
      exact hbad.elim
    case done2 =>
      rintro D2 xs W3 hD2 hxs ⟨⟨g0, gD, hz3⟩, hbel⟩ hK2
      have hDD : ¬ D = D2 := by omega
      gi_wp2_with fail
      refine ⟨trivial, (callsIn_wide.2 (awake6_any _)).mono ?_⟩
      rintro e Z1 ⟨rfl, hb1⟩
      have c5 := g0.below hb1 g0.lt
      have e1 := (hb1.block D (Array.getElem?_eq_some_iff.1 gD).1).trans gD
      have e2 := (hb1.block D2 (Array.getElem?_eq_some_iff.1 hK2).1).trans hK2
      have hB12 := hbel.trans (hb1.mono hbel.size)
      obtain ⟨s0, s1⟩ := c5.k1
      gi_wp2_with fail
      refine ⟨trivial, (callsIn_wide.2 (tlen_nil _)).mono ?_⟩
      rintro e Z2 ⟨rfl, rfl⟩
      gi_wp2_with fail
      have f1 := (KeepsOthers.setCell Z1 ⟨w.heap.size, 0, none⟩ (.bool true)).same D _ e1 rfl
      have f2 := (KeepsOthers.setCell Z1 ⟨w.heap.size, 0, none⟩ (.bool true)).same D2 _ e2 rfl
      have p1 : Bk (Z1.setCell ⟨w.heap.size, 0, none⟩ (.bool true)) w.heap.size 4 #[.bool true] := c5.set_ 0 (.bool true)
      have f3 := (World.putObj_heap_other (w := Z1.setCell ⟨w.heap.size, 0, none⟩ (.bool true)) (o := .deferred none) hDD).trans f1
      refine ⟨(by simp), .inl ⟨_, _, rfl, run_takeDeferred f2, ?_⟩⟩
      refine ⟨(by simp), .inl ⟨_, _, rfl, run_takeDeferred f3, ?_⟩⟩
      obtain ⟨q0, _⟩ := (bk_taken (bk_taken p1 f2) f3).k1
      refine ⟨.bool true, ?_, rfl, ((hB12.setCell (p := ⟨w.heap.size, 0, none⟩) (Nat.le_refl _) _).trans (belowK_b (w := w) (Nat.le_refl _) _ D2 _ _ (by omega) f2 rfl rfl)).trans (belowK_b (w := w) (Nat.le_refl _) _ D _ _ (by omega) f3 rfl rfl)⟩
      simp [results, Try.f5, go_sem, q0]
end Go.Proofs.Ytdjccepchleacaa
