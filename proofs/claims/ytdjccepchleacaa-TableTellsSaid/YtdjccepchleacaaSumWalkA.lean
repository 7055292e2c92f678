import Derived.Test.YtdjccepchleacaaSumMath
import Derived.Test.YtdjccepchleacaaBase
set_option linter.unusedVariables false
namespace Go.Proofs.Ytdjccepchleacaa
open Go.RowKit
namespace Sm
def row0 : Array Value := Array.replicate 256 (.int .u32 0)
theorem row0_size : row0.size = 256 := by simp [row0]
theorem and1 {x : Nat} (h : x < 4294967296) : bits .and .u32 (x : Int) 1 = ((x % 2 : Nat) : Int) := by
  have := u32_and_nat x 1 h (by omega)
  rw [nat_mask1] at this
  exact this
theorem xorP {x : Nat} (h : x < 4294967296) : bits .xor .u32 ((x : Int) / 2) 2197175160 = ((x / 2 ^^^ 2197175160 : Nat) : Int) := u32_xor_nat (x / 2) 2197175160 (by omega) (by omega)
theorem step_odd {j k : Nat} (hc : stepN j k < 4294967296) (hb : stepN j k % 2 = 1) : Value.int IntKind.u32 (bits BinOp.xor IntKind.u32 (↑(stepN j k) / 2) 2197175160) = Value.int IntKind.u32 ↑(stepN (j + 1) k) := by
  rw [xorP hc, stepN_succ, step1, if_pos hb]
theorem step_even {j k : Nat} (hb : ¬ stepN j k % 2 = 1) : Value.int IntKind.u32 (↑(stepN j k) / 2) = Value.int IntKind.u32 ↑(stepN (j + 1) k) := by
  rw [stepN_succ, step1, if_neg hb]; rfl
def cellT (k i : Nat) : Value := if i < k then .int .u32 (step8 i) else .int .u32 0
theorem cellT_set (k i : Nat) : (if i = k then Value.int .u32 ↑(stepN 8 k) else cellT k i) = cellT (k + 1) i := by
  unfold cellT
  by_cases h : i = k
  · subst h; simp [step8]
  · by_cases h2 : i < k
    · rw [if_neg h, if_pos h2, if_pos (by omega)]
    · rw [if_neg h, if_neg h2, if_neg (by omega)]
end Sm
theorem zero55 (w : World) : Sem.run Try.prog (zeroValue 89) w = .ok (.agg Sm.row0) w := by kernel_rfl
theorem row0_is (w : World) : (w.alloc (.cells Sm.row0 89)).rowIs w.heap.size 89 256 (Sm.cellT 0) := by
  have := World.rowIs_alloc w Sm.row0 89 (Sm.cellT 0) (fun i hi => by
    rw [Sm.row0_size] at hi
    simp [Sm.row0, Sm.cellT, hi])
  rwa [Sm.row0_size] at this
set_option maxRecDepth 100000 in
set_option maxHeartbeats 400000 in
theorem table_any (w : World) :
    Calls Try.prog 43 #[] w fun e w' => e = .returned (.pointer (some ⟨w.heap.size, 0, none⟩)) ∧ w'.rowIs w.heap.size 89 256 (Sm.cellT 256) ∧ Below w.heap.size w w' := by
  have hz := zero55
  have H0 := Lib.hid (row0_is w)
  have B0 : Below w.heap.size w (w.alloc (.cells Sm.row0 89)) := by go_grown
  go_enter Try.func43, Try.ntmps43
  go_wp2
  clear hz
  go_loopw [4] (fun i wr => ∃ k : Nat, k ≤ 256 ∧ i = .int .i64 k ∧ Hid (wr.rowIs w.heap.size 89 256 (Sm.cellT k)) ∧ Below w.heap.size w wr) (fun i _ => (256 : Nat) - (intOf i).toNat)
  case atStart => exact ⟨0, by omega, rfl, H0, B0⟩
  case round =>
    obtain ⟨k, hk, rfl, HR, HB⟩ := hrel
    clear H0 B0
    by_cases hlt : k < 256
    · go_wp2
      go_loop [3, 9] (fun c i => ∃ j : Nat, j ≤ 8 ∧ i = .int .i64 j ∧ c = .int .u32 (Sm.stepN j k)) (fun _ i => 8 - (intOf i).toNat)
      case atStart => exact ⟨0, by omega, rfl, rfl⟩
      case round =>
        obtain ⟨j, hj, rfl, rfl⟩ := hrel
        have hc := Sm.stepN_lt j (c := k) (by omega)
        by_cases hjl : j < 8
        · by_cases hb : Sm.stepN j k % 2 = 1
          · have ht : (bits BinOp.and IntKind.u32 ↑(Sm.stepN j k) 1 == 1) = true := by rw [Sm.and1 hc, hb]; rfl
            have HS := Lib.hid (Sm.step_odd hc hb)
            clear hb
            go_wp2
            go_round
            case rel => exact ⟨j + 1, by omega, by go_num, HS.out⟩
            case measure => simp [intOf]; omega
          · have ht : (bits BinOp.and IntKind.u32 ↑(Sm.stepN j k) 1 == 1) = false := by
              rw [Sm.and1 hc, show Sm.stepN j k % 2 = 0 from by omega]; rfl
            have HS := Lib.hid (Sm.step_even hb)
            clear hb
            go_wp2
            go_round
            case rel => exact ⟨j + 1, by omega, by go_num, HS.out⟩
            case measure => simp [intOf]; omega
        · obtain rfl : j = 8 := by omega
          clear hjl
          have hcell := HR.out.cell hlt
          have hfr := HR.out.frozen k
          go_wp2
          go_round
          case rel =>
            refine ⟨k + 1, by omega, by go_num, (HR.out.set k _).congr ?_, HB.setCell (Nat.le_refl _) _⟩
            intro i hi
            exact Sm.cellT_set k i
          case measure => simp [intOf]; omega
    · obtain rfl : k = 256 := by omega
      clear hlt
      go_wp2
      go_ret
      exact ⟨rfl, HR.out, HB⟩
namespace Sm
def inv (c : Nat) : Nat := 4294967295 - c
theorem inv_lt {c : Nat} : inv c < 4294967296 := by unfold inv; omega
theorem xor_inv {c : Nat} (h : c < 4294967296) : bits .xor .u32 IntKind.u32.max (c : Int) = ((inv c : Nat) : Int) := by
  have := u32_xor_nat 4294967295 c (by omega) h
  have e : (4294967295 : Nat) ^^^ c = 4294967295 - c := by
    have := BitVec.allOnes_xor (x := BitVec.ofNat 32 c)
    have h2 := congrArg BitVec.toNat this
    simp only [BitVec.toNat_xor, BitVec.toNat_allOnes, BitVec.toNat_ofNat, BitVec.toNat_not] at h2
    rw [Nat.mod_eq_of_lt h] at h2
    exact h2
  rw [e] at this
  exact this
def regTo (c : Nat) (s : ByteArray) (k : Nat) : Nat := reg (inv c) (s.data.toList.take k)
theorem regTo_lt (c : Nat) (s : ByteArray) (k : Nat) : regTo c s k < 4294967296 := reg_lt inv_lt _
theorem take_snoc (s : ByteArray) (k : Nat) (h : k < s.size) : s.data.toList.take (k + 1) = s.data.toList.take k ++ [s[k]] := by
  rw [List.take_succ_eq_append_getElem (by simpa using h)]; rfl
theorem regTo_succ (c : Nat) (s : ByteArray) (k : Nat) (h : k < s.size) : regTo c s (k + 1) = regTo c s k / 256 ^^^ step8 (regTo c s k % 256 ^^^ s[k].toNat) := by
  unfold regTo
  rw [take_snoc s k h, reg_snoc, byte1_table]
theorem regTo_all (c : Nat) (s : ByteArray) : inv (regTo c s s.size) = more c s.data.toList := by
  unfold regTo more inv
  rw [List.take_of_length_le (by simp)]
def pick (X x : Nat) : Nat := X % 256 ^^^ x
theorem pick_lt {X x : Nat} (hx : x < 256) : pick X x < 256 := Nat.xor_lt_two_pow (n := 8) (by omega) (by omega)
theorem xor_pick {X x : Nat} (hx : x < 256) : bits .xor .u8 ((X : Int) % 256) (x : Int) = ((pick X x : Nat) : Int) := u8_xor_nat (X % 256) x (by omega) hx
def next (X x : Nat) : Nat := X / 256 ^^^ step8 (X % 256 ^^^ x)
theorem xor_next {X x : Nat} (hX : X < 4294967296) (hx : x < 256) : bits .xor .u32 ((X : Int) / 256) ((step8 (pick X x) : Nat) : Int) = ((next X x : Nat) : Int) :=
  u32_xor_nat (X / 256) (step8 (pick X x)) (by omega) (step8_lt (by have := @pick_lt X x hx; omega))
end Sm
set_option maxRecDepth 100000 in
set_option maxHeartbeats 400000 in
theorem more_any (c : Nat) (hc : c < 4294967296) (s : ByteArray) (hs : s.size ≤ maxLen) (w : World) :
    Calls Try.prog 38 #[.int .u32 c, .string s] w fun e w' => e = .returned (.int .u32 (Sm.more c s.data.toList)) ∧ Below w.heap.size w w' := by
  unfold maxLen at hs
  have hinv := Sm.xor_inv hc
  go_enter Try.func38, Try.ntmps38
  go_wp2_with fail
  refine (table_any w).mono ?_
  rintro e w1 ⟨rfl, hr, hb⟩
  have HR := Lib.hid hr
  clear hr
  go_wp2_with fail
  go_loopw [0, 12] (fun r i wr => ∃ k : Nat, k ≤ s.size ∧ i = .int .i64 k ∧ r = .int .u32 (Sm.regTo c s k) ∧ Hid (wr.rowIs w.heap.size 89 256 (Sm.cellT 256)) ∧ Below w.heap.size w wr) (fun _ i _ => s.size - (intOf i).toNat)
  case atStart => exact ⟨0, by omega, rfl, rfl, HR, hb⟩
  case round =>
    obtain ⟨k, hk, rfl, rfl, HR2, hb2⟩ := hrel
    clear HR hb
    have hR := Sm.regTo_lt c s k
    by_cases hlt : k < s.size
    · have HS := Lib.hid (Sm.regTo_succ c s k hlt)
      have hx : s[k].toNat < 256 := s[k].toNat_lt
      have hp := Sm.pick_lt (X := Sm.regTo c s k) hx
      have e1 := Sm.xor_pick (X := Sm.regTo c s k) hx
      have e2 := Sm.xor_next hR hx
      have hcell := HR2.out.cell hp
      have hcT : Sm.cellT 256 (Sm.pick (Sm.regTo c s k) s[k].toNat) = .int .u32 (Sm.step8 (Sm.pick (Sm.regTo c s k) s[k].toNat)) := by unfold Sm.cellT; rw [if_pos hp]
      rw [hcT] at hcell
      clear hcT
      go_wp2
      go_quiet (fail)
      go_wp2
      go_roundw
      case rel => exact ⟨k + 1, by omega, by go_num, by rw [HS.out]; rfl, HR2, below_drewN hb2 _⟩
      case measure => simp [intOf]; omega
    · obtain rfl : k = s.size := by omega
      have hinv2 := Sm.xor_inv hR
      have HA := Lib.hid (Sm.regTo_all c s)
      clear hlt
      go_wp2
      go_ret
      exact ⟨by rw [HA.out]; rfl, hb2⟩
end Go.Proofs.Ytdjccepchleacaa
