/- Plain: a text with its sum behind it that is changed within four bytes is no text with its sum any more. -/
import Derived.Test.YtdjccepchleacaaSumWalkC
set_option linter.unusedVariables false
namespace Go.Proofs.Ytdjccepchleacaa
namespace Sm
/-- A text's bytes as one number, the lowest first. -/
def lov : List UInt8 → Nat
  | [] => 0
  | x :: r => x.toNat + 256 * lov r
theorem split_lov (x : UInt8) (v : Nat) : x.toNat + 256 * v = x.toNat ^^^ 256 * v := by
  have hx := x.toNat_lt
  have h := split_byte (x.toNat + 256 * v)
  have e1 : (x.toNat + 256 * v) / 2 ^ 8 = v := by omega
  have e2 : (x.toNat + 256 * v) % 2 ^ 8 = x.toNat := by omega
  rw [e1, e2] at h
  rw [← h, Nat.xor_comm]
theorem stepN_add (a b c : Nat) : stepN (a + b) c = stepN a (stepN b c) := by
  induction a with
  | zero => simp [stepN]
  | succ a ih => rw [show a + 1 + b = (a + b) + 1 from by omega, stepN_succ, ih]; rfl
theorem reg_lov (c : Nat) (l : List UInt8) : reg c l = stepN (8 * l.length) (c ^^^ lov l) := by
  induction l generalizing c with
  | nil => simp [reg, lov, stepN]
  | cons x r ih =>
    have e : reg c (x :: r) = reg (byte1 c x.toNat) r := rfl
    rw [e, ih, List.length_cons, show 8 * (r.length + 1) = 8 * r.length + 8 from by omega, stepN_add]
    congr 1
    have e2 : lov (x :: r) = x.toNat + 256 * lov r := rfl
    show byte1 c x.toNat ^^^ lov r = step8 (c ^^^ lov (x :: r))
    unfold byte1
    rw [e2, split_lov, ← Nat.xor_assoc, step8_xor (c ^^^ x.toNat), step8_shift]
theorem lov_lt : ∀ l : List UInt8, lov l < 256 ^ l.length
  | [] => by simp [lov]
  | x :: r => by
    have := lov_lt r
    have hx := x.toNat_lt
    rw [List.length_cons, Nat.pow_succ]
    unfold lov
    omega
theorem lov_inj : ∀ {a b : List UInt8}, a.length = b.length → lov a = lov b → a = b
  | [], [], _, _ => rfl
  | x :: r, y :: s, hl, h => by
    have hx := x.toNat_lt
    have hy := y.toNat_lt
    unfold lov at h
    have e1 : x.toNat = y.toNat := by omega
    have e2 : lov r = lov s := by omega
    rw [UInt8.toNat_inj.1 e1, lov_inj (by simpa using hl) e2]
theorem reg_burst {c : Nat} (hc : c < 4294967296) {x y : List UInt8} (hl : x.length = y.length) (h4 : x.length ≤ 4) (h : reg c x = reg c y) : x = y := by
  rw [reg_lov, reg_lov, hl] at h
  have p4 : 256 ^ x.length ≤ 4294967296 := by
    have : (256 : Nat) ^ x.length ≤ 256 ^ 4 := Nat.pow_le_pow_right (by decide) h4
    exact this
  have lx : lov x < 4294967296 := Nat.lt_of_lt_of_le (lov_lt x) p4
  have ly : lov y < 4294967296 := Nat.lt_of_lt_of_le (lov_lt y) (hl ▸ p4)
  have h1 := stepN_inj (8 * y.length) (Nat.xor_lt_two_pow (n := 32) hc lx) (Nat.xor_lt_two_pow (n := 32) hc ly) h
  rw [Nat.xor_comm c, Nat.xor_comm c] at h1
  exact lov_inj hl (xor_right_cancel h1)
theorem val4_lov {l : List UInt8} (h : l.length = 4) : val4 l = lov l := by
  match l, h with
  | [a, b, c, d], _ =>
    show a.toNat + 256 * b.toNat + 65536 * c.toNat + 16777216 * d.toNat = _
    unfold lov lov lov lov lov
    omega
theorem not32 {a : Nat} (h : a < 4294967296) : a ^^^ (4294967295 - a) = 4294967295 := by
  have e : (4294967295 - a) = 4294967295 ^^^ a := by
    have e1 : 4294967295 - a = 2 ^ 32 - (a + 1) := by omega
    rw [e1]
    apply Nat.eq_of_testBit_eq
    intro i
    rw [Nat.testBit_two_pow_sub_succ h, Nat.testBit_xor, show (4294967295 : Nat) = 2 ^ 32 - 1 from rfl, Nat.testBit_two_pow_sub_one]
    by_cases hi : i < 32
    · simp [hi]
    · have : a.testBit i = false := Nat.testBit_lt_two_pow (Nat.lt_of_lt_of_le h (Nat.pow_le_pow_right (n := 2) (by decide) (show 32 ≤ i by omega)))
      simp [hi, this]
  rw [e, Nat.xor_comm 4294967295, ← Nat.xor_assoc, Nat.xor_self, Nat.zero_xor]
/-- Behind a text and its sum the register is a number that does not depend on the text. -/
theorem reg_sum {h t : List UInt8} (ht : t.length = 4) (e : crc h = val4 t) : reg 4294967295 (h ++ t) = stepN 32 4294967295 := by
  have hr := reg_lt (c := 4294967295) (by decide) h
  rw [reg_append, reg_lov, ht]
  have e2 : lov t = 4294967295 - reg 4294967295 h := by
    rw [← val4_lov ht, ← e]
    rfl
  rw [e2, not32 hr]
/-- Is the sum behind a text the text's? -/
def sumOk (b : List UInt8) : Bool := decide (4 ≤ b.length) && decide (crc (b.take (b.length - 4)) = val4 (b.drop (b.length - 4)))
theorem sumOk_reg {b : List UInt8} (h : sumOk b = true) : reg 4294967295 b = stepN 32 4294967295 := by
  unfold sumOk at h
  simp only [Bool.and_eq_true, decide_eq_true_eq] at h
  have := reg_sum (h := b.take (b.length - 4)) (t := b.drop (b.length - 4)) (by rw [List.length_drop]; omega) h.2
  rwa [List.take_append_drop] at this
theorem sumOk_make (l : List UInt8) : sumOk (l ++ le4 (crc l)) = true := by
  have hl : (le4 (crc l)).length = 4 := rfl
  have hv := val4_le4 (crc_lt l) []
  rw [List.append_nil] at hv
  unfold sumOk
  rw [List.length_append, hl, Nat.add_sub_cancel, List.take_append_of_le_length (Nat.le_refl _), List.take_length, List.drop_append_of_le_length (Nat.le_refl _), List.drop_length, List.nil_append, hv]
  simp
/-- One byte changed. -/
theorem sumOk_set {b : List UInt8} (h : sumOk b = true) (k : Nat) (hk : k < b.length) (x : UInt8) (hx : x ≠ b[k]) : sumOk (b.set k x) = false := by
  rcases hb : sumOk (b.set k x) with _ | _
  · rfl
  · exfalso
    have e := (sumOk_reg hb).trans (sumOk_reg h).symm
    have s1 : b = b.take k ++ (b[k] :: b.drop (k + 1)) := by rw [← List.drop_eq_getElem_cons hk, List.take_append_drop]
    have s2 : b.set k x = b.take k ++ (x :: b.drop (k + 1)) := by rw [List.set_eq_take_append_cons_drop, if_pos hk]
    rw [s2] at e
    conv at e => rhs; rw [s1]
    have hc := reg_lt (c := 4294967295) (by decide) (b.take k)
    rw [reg_append, reg_append] at e
    have h4 := reg_inj (byte1_lt hc x.toNat_lt) (byte1_lt hc b[k].toNat_lt) (b.drop (k + 1)) e
    exact hx (UInt8.toNat_inj.1 (byte1_inj_byte hc x.toNat_lt b[k].toNat_lt h4))
end Sm
end Go.Proofs.Ytdjccepchleacaa
