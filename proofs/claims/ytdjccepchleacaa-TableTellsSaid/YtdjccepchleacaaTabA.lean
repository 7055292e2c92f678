/- table.put, table.get, (Entry).text. -/
import Derived.Test.YtdjccepchleacaaTabMath4
import Derived.Test.YtdjccepchleacaaBlk
import Derived.Laws.BitsLemmas
set_option linter.unusedVariables false
namespace Go.Proofs.Ytdjccepchleacaa
open Go.RowKit
set_option maxRecDepth 100000 in
set_option maxHeartbeats 2000000 in
theorem tput_any (n : Nat) (hn : n < 4294967296) (w : World) :
    Calls Try.prog 26 #[.int .i64 n] w fun e w' => e = .returned (.string (Tb.ba (Sm.le4 n))) ∧ Below w.heap.size w w' := by
  have hrun := run_put n hn
  go_enter Try.func26, Try.ntmps26
  go_wp2_with fail
  go_ret
  exact ⟨rfl, by go_grown⟩
theorem i64_or (a b : Nat) (ha : a < 4611686018427387904) (hb : b < 4611686018427387904) : bits .or .i64 (a : Int) (b : Int) = ((a ||| b : Nat) : Int) :=
  (bits_nat .i64 62 (by decide) (fun n h0 h1 => by rw [IntKind.wrap_i64]; omega) a b (by omega) (by omega)).2
theorem tget_val (a b c d : UInt8) : bits .or .i64 (bits .or .i64 (bits .or .i64 (wrap64 (a.toNat : Int)) (wrap64 (wrap64 (b.toNat : Int) * 256))) (wrap64 (wrap64 (c.toNat : Int) * 65536))) (wrap64 (wrap64 (d.toNat : Int) * 16777216)) = ((a.toNat + 256 * b.toNat + 65536 * c.toNat + 16777216 * d.toNat : Nat) : Int) := by
  have b0 := a.toNat_lt
  have b1 := b.toNat_lt
  have b2 := c.toNat_lt
  have b3 := d.toNat_lt
  have w0 : ∀ x : UInt8, wrap64 (x.toNat : Int) = (x.toNat : Int) := fun x => by have := x.toNat_lt; unfold wrap64; omega
  have w1 : wrap64 ((b.toNat : Int) * 256) = ((b.toNat * 256 : Nat) : Int) := by unfold wrap64; omega
  have w2 : wrap64 ((c.toNat : Int) * 65536) = ((c.toNat * 65536 : Nat) : Int) := by unfold wrap64; omega
  have w3 : wrap64 ((d.toNat : Int) * 16777216) = ((d.toNat * 16777216 : Nat) : Int) := by unfold wrap64; omega
  rw [w0, w0, w0, w0, w1, w2, w3, i64_or _ _ (by omega) (by omega), Sm.or_join 8 (by omega) (by omega), i64_or _ _ (by omega) (by omega), Sm.or_join 16 (by omega) (by omega),
    i64_or _ _ (by omega) (by omega), Sm.or_join 24 (by omega) (by omega)]
  congr 1
  omega
set_option maxRecDepth 100000 in
set_option maxHeartbeats 2000000 in
theorem tget_any (s : ByteArray) (hs : s.size ≤ 1000000000) (p : Int) (hp : p ≤ 1000000000) (hp2 : -1000000000 ≤ p) (w : World) :
    Calls Try.prog 30 #[.string s, .int .i64 p] w fun e w' => e = .returned (if 0 ≤ p ∧ p + 4 ≤ s.size then .tuple #[.int .i64 (Sm.val4 (s.data.toList.drop p.toNat)), .bool true] else .tuple #[.int .i64 0, .bool false]) ∧ Below w.heap.size w w' := by
  by_cases h0 : p < 0
  · rw [if_neg (by omega)]
    go_enter Try.func30, Try.ntmps30
    go_wp2_with fail
    go_ret2
    exact ⟨rfl, Below.refl _ _⟩
  · obtain ⟨P, rfl⟩ := Int.eq_ofNat_of_zero_le (show 0 ≤ p by omega)
    by_cases h4 : P + 4 ≤ s.size
    · rw [if_pos ⟨by omega, by omega⟩, Int.toNat_natCast]
      have hn : ¬ (s.size : Int) - (P : Int) < 4 := by omega
      have i0 : P < s.size := by omega
      have i1 : P + 1 < s.size := by omega
      have i2 : P + 2 < s.size := by omega
      have i3 : P + 3 < s.size := by omega
      have j0 : (P : Int) < (s.size : Int) := by omega
      have j1 : (P : Int) + 1 < (s.size : Int) := by omega
      have j2 : (P : Int) + 2 < (s.size : Int) := by omega
      have j3 : (P : Int) + 3 < (s.size : Int) := by omega
      have k1 : ((P : Int) + 1).toNat = P + 1 := by omega
      have k2 : ((P : Int) + 2).toNat = P + 2 := by omega
      have k3 : ((P : Int) + 3).toNat = P + 3 := by omega
      have m1 : (0 : Int) ≤ (P : Int) + 1 := by omega
      have m2 : (0 : Int) ≤ (P : Int) + 2 := by omega
      have m3 : (0 : Int) ≤ (P : Int) + 3 := by omega
      go_enter Try.func30, Try.ntmps30
      go_wp2_with fail
      go_quiet (fail)
      go_wp2_with fail
      go_ret2
      refine ⟨?_, below_drewN (Below.refl _ _) nq⟩
      have e := tget_val s[P] s[P + 1] s[P + 2] s[P + 3]
      have v : Sm.val4 (s.data.toList.drop P) = s[P].toNat + 256 * s[P + 1].toNat + 65536 * s[P + 2].toNat + 16777216 * s[P + 3].toNat := by
        have g : ∀ i, (s.data.toList.drop P).getD i 0 = s.data.toList.getD (P + i) 0 := fun i => by rw [List.getD_eq_getElem?_getD, List.getElem?_drop, List.getD_eq_getElem?_getD]
        unfold Sm.val4
        rw [g, g, g, g, Sm.getD_byte s (P + 0) i0, Sm.getD_byte s (P + 1) i1, Sm.getD_byte s (P + 2) i2, Sm.getD_byte s (P + 3) i3]
        rfl
      rw [v, ← e]
      rfl
    · rw [if_neg (by omega)]
      have hn : (s.size : Int) - (P : Int) < 4 := by omega
      go_enter Try.func30, Try.ntmps30
      go_wp2_with fail
      go_ret2
      exact ⟨rfl, Below.refl _ _⟩
end Go.Proofs.Ytdjccepchleacaa
