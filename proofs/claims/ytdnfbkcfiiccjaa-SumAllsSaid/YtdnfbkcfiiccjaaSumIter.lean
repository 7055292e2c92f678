/- The frames of a text, one behind the other, and the iterator over their bodies: 'All' and its function literal. -/
import Derived.Test.YtdnfbkcfiiccjaaSumLaws
import Derived.RangeFuncNested
import Derived.RangeFuncBound
import Derived.RangeFuncCalls
import Derived.RangeFuncLeaves
import Derived.RangeFuncBox
import Derived.Shelf.Abstract
import Derived.Shelf.RegionOpen
import Derived.OwnWalkIn
import Derived.TacticsInMore
import Derived.LoopNIn
import Derived.LoopIn
set_option linter.unusedVariables false
namespace Go.Proofs.Ytdnfbkcfiiccjaa
open Go.RowKit Go.BigFrame Go.Shelf
attribute [local go_sem] Oper.semAt_some
namespace Sm
abbrev Body := { b : List UInt8 // b.length ≤ 65536 }
/-- From a place on the frames have these bodies, and end there. -/
def Run (s : List UInt8) : Nat → List Body → Nat → Prop
  | n, [], m => m = n ∧ nextR s n = none
  | n, b :: bs, m => nextR s n = some b.1 ∧ Run s (n + 8 + b.1.length) bs m
theorem run_ex (s : List UInt8) : ∀ (f n : Nat), s.length ≤ n + f → n ≤ s.length → ∃ bs m, Run s n bs m := by
  intro f
  induction f with
  | zero =>
    intro n h1 h2
    exact ⟨[], n, rfl, nextR_off (.inr (by omega))⟩
  | succ f ih =>
    intro n h1 h2
    cases h : nextR s n with
    | none => exact ⟨[], n, rfl, h⟩
    | some b =>
      obtain ⟨m, hm, hb1, hb2, _, _⟩ := nextR_some h
      obtain rfl : m = n := by omega
      obtain ⟨bs, m', hr⟩ := ih (m + 8 + b.length) (by omega) (by omega)
      exact ⟨⟨b, hb1⟩ :: bs, m', h, hr⟩
theorem run_le {s : List UInt8} : ∀ {bs : List Body} {n m : Nat}, n ≤ s.length → Run s n bs m → m ≤ s.length ∧ n + 8 * bs.length ≤ m ∧ m = n + (bs.map fun b => 8 + b.1.length).sum
  | [], n, m, hn, h => by obtain ⟨rfl, _⟩ := h; simp; exact hn
  | b :: bs, n, m, hn, h => by
    obtain ⟨h1, h2⟩ := h
    obtain ⟨k, hk, hb1, hb2, _, _⟩ := nextR_some h1
    obtain rfl : k = n := by omega
    obtain ⟨i1, i2, i3⟩ := run_le (by omega) h2
    refine ⟨i1, by rw [List.length_cons]; omega, by rw [List.map_cons, List.sum_cons]; omega⟩
end Sm
/-- What a round keeps: what lay below, and the box of the text. -/
def KeepBox (n₀ Bn : Nat) (s : ByteArray) (W W' : World) : Prop := Below n₀ W W' ∧ (W.cell? ⟨Bn, 0, none⟩ = some (.string s) → W'.cell? ⟨Bn, 0, none⟩ = some (.string s))
theorem keepBox_t {n₀ Bn : Nat} {s : ByteArray} {A B C : World} (h : KeepBox n₀ Bn s A B) (k : KeepBox n₀ Bn s B C) : KeepBox n₀ Bn s A C := ⟨h.1.trans k.1, fun x => k.2 (h.2 x)⟩
theorem keepBox_b {n₀ Bn : Nat} {s : ByteArray} {w : World} (hn : n₀ ≤ w.heap.size) (hB : Bn < w.heap.size) (W : World) (l : Nat) (o o' : Obj) (hl : w.heap.size ≤ l) (h : W.heap[l]? = some o) (hc : o.isCells = false) (hw : o.isWalk = false) :
    KeepBox n₀ Bn s W (W.putObj l o') :=
  ⟨belowK_b hn W l o o' hl h hc hw, fun x => (World.cell?_of_block ((grownBy_putObj' W l o').block Bn (block_lt_of_cell x) (by intro e; injection e with e; omega))).trans x⟩
theorem grown_of_below {a w : World} (h : Below a.heap.size a w) (row : Option Nat) : a.grownBy w row := ⟨h.os, h.tape, h.output, h.size, fun i hi _ => h.block i hi⟩
set_option maxRecDepth 100000 in
set_option maxHeartbeats 2000000 in
theorem all1_stops (n : Nat) (hn : 1 ≤ n) (s : ByteArray) (hs : s.size ≤ 1048576) (m : Nat) (xs : List Sm.Body) (hx : Sm.Run s.data.toList 0 xs m) (Bn n₀ : Nat) (w : World) (h0 : n₀ ≤ w.heap.size) (hlt : Bn < w.heap.size)
    (hBn : w.cell? ⟨Bn, 0, none⟩ = some (.string s)) (N : Nat) (hN : xs.length ≤ N) :
    SeqStopsK Fence.wide n Try.prog 28 #[.pointer (some ⟨Bn, 0, none⟩)] (fun b : Sm.Body => #[Value.string ⟨b.1.toArray⟩]) (KeepBox n₀ Bn s) (fun ys => ys = xs) (fun pre => pre <+: xs ∧ pre ≠ []) N w := by
  intro l J Jx W hW hJ hJx hY hJ0
  have hBn' : W.cell? ⟨Bn, 0, none⟩ = some (.string s) := (hW.cell (p := ⟨Bn, 0, none⟩) (by show Bn < w.heap.size; omega)).trans hBn
  clear hBn
  have hsm : s.size ≤ maxLen := by unfold maxLen; omega
  have Hsm := Lib.hid hsm
  clear hsm
  have HJ := Lib.hid hJ
  have HJx := Lib.hid hJx
  have HY := Lib.hid hY
  clear hJ hJx hY
  refine callsIn_of_wp Try.func28 rfl trivial ?_ rfl
  simp only [Try.ntmps28, List.size_toArray, List.length_cons, List.length_nil, Nat.reduceAdd, Nat.reduceSub, Array.replicate_succ, Array.replicate_zero, List.push_toArray, List.append_toArray, List.nil_append, List.cons_append]
  gi_wp2
  gi_loopw [3] (fun p wr => ∃ (k : Nat) (pre rest : List Sm.Body), p = .int .i64 k ∧ k ≤ s.size ∧ Hid (xs = pre ++ rest) ∧ Sm.Run s.data.toList k rest m ∧ J pre wr ∧ wr.cell? ⟨Bn, 0, none⟩ = some (.string s) ∧ W.heap.size ≤ wr.heap.size)
    (fun p wr => s.size - (intOf p).toNat)
  case atStart => exact ⟨0, [], xs, rfl, by omega, rfl, hx, hJ0, hBn', Nat.le_refl _⟩
  case round =>
    obtain ⟨k, pre, rest, rfl, hk, HX, hr, hJ1, hB1, hbel⟩ := hrel
    clear hx hJ0 hBn'
    cases rest with
    | nil =>
      obtain ⟨hmk, hnone⟩ := hr
      have HNn := Lib.hid hnone
      clear hnone hmk
      gi_wp2_with fail
      refine ⟨trivial, (callsIn_wide.2 (next_any s Hsm.out _ _)).mono ?_⟩
      rintro e w1 ⟨rfl, hb1⟩
      rw [HNn.out]
      simp only [Sm.nextV]
      have hJ2 : J pre w1 := HJ.out pre wr w1 none hJ1 (grown_of_below hb1 none) (fun r e => by cases e)
      clear hJ1
      gi_wp2
      refine ⟨fun _ h => (by cases h), ?_⟩
      gi_wp2
      refine bodyPost_ret (results_none rfl _ _ _) rfl ?_
      exact ⟨⟨_, rfl⟩, .inl ⟨pre, by rw [HX.out, List.append_nil], hJ2⟩⟩
    | cons b rest =>
      obtain ⟨hsome, hr2⟩ := hr
      have hle : k + 8 + b.1.length ≤ s.size := by
        obtain ⟨k2, hk2, _, hb2, _, _⟩ := Sm.nextR_some hsome
        have : s.data.toList.length = s.size := by simp
        omega
      have HNs := Lib.hid hsome
      clear hsome
      have hpl : pre.length < N := by
        have : xs.length = pre.length + (rest.length + 1) := by rw [HX.out]; simp
        omega
      gi_wp2_with fail
      refine ⟨trivial, (callsIn_wide.2 (next_any s Hsm.out _ _)).mono ?_⟩
      rintro e w1 ⟨rfl, hb1⟩
      rw [HNs.out]
      simp only [Sm.nextV]
      have hJ2 : J pre w1 := HJ.out pre wr w1 none hJ1 (grown_of_below hb1 none) (fun r e => by cases e)
      clear hJ1
      obtain ⟨fn, tmps, assign, body, hy, hR⟩ := HY.out pre b w1 hJ2 hpl
      have hB2 : w1.cell? ⟨Bn, 0, none⟩ = some (.string s) := (hb1.cell (p := ⟨Bn, 0, none⟩) (by have := hW.size; show Bn < wr.heap.size; omega)).trans hB1
      have hbel1 : W.heap.size ≤ w1.heap.size := Nat.le_trans hbel hb1.size
      gi_wp2
      refine hR.mono ?_
      rintro e W3 (⟨rfl, hJ3, hk3⟩ | ⟨rfl, hJx3⟩)
      · have hB3 : W3.cell? ⟨Bn, 0, none⟩ = some (.string s) := hk3.2 hB2
        gi_wp2
        go_roundw
        case rel => exact ⟨k + 8 + b.1.length, pre ++ [b], rest, by go_num, hle, by show xs = _; rw [HX.out]; simp, hr2, hJ3, hB3, Nat.le_trans hbel1 hk3.1.size⟩
        case measure => simp [intOf]; omega
      · gi_wp2
        refine bodyPost_ret (results_none rfl _ _ _) rfl ?_
        exact ⟨⟨_, rfl⟩, .inr ⟨pre ++ [b], ⟨⟨rest, by rw [HX.out]; simp⟩, by simp⟩, hJx3⟩⟩
end Go.Proofs.Ytdnfbkcfiiccjaa
