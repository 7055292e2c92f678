/- Chapter 17, plain: a number read of bytes. -/
import Derived.Test.YtjhejnhjpjmnmaaDoorEnvMath
set_option linter.unusedVariables false
namespace Go.Proofs.YtjhejnhjpjmnmaaDoor
namespace Ev
/-- What the first bytes of a number tell. -/
def acc (l : List UInt8) : Nat → Nat
  | 0 => 0
  | i + 1 => acc l i ||| ((l.getD i 0).toNat % 128 * 2 ^ (7 * i) % 18446744073709551616)
def getvF (l : List UInt8) : Nat → Nat → Nat × Int
  | 0, _ => (0, 0)
  | f + 1, i => if i < l.length then (if (l.getD i 0).toNat < 128 then (if i = 9 ∧ 1 < (l.getD 9 0).toNat then (0, -1) else (acc l (i + 1), (i : Int) + 1)) else getvF l f (i + 1)) else (0, 0)
/-- The number at the beginning of bytes, and how many they are. -/
def getv (l : List UInt8) : Nat × Int := getvF l 10 0
theorem acc_lt (l : List UInt8) : ∀ i, acc l i < 18446744073709551616
  | 0 => by simp [acc]
  | i + 1 => Nat.or_lt_two_pow (n := 64) (acc_lt l i) (Nat.mod_lt _ (by decide))
theorem getvF_lt (l : List UInt8) : ∀ f i, (getvF l f i).1 < 18446744073709551616 ∧ (getvF l f i).2 ≤ l.length ∧ -1 ≤ (getvF l f i).2
  | 0, i => by simp [getvF]
  | f + 1, i => by
    unfold getvF
    split
    · split
      · split
        · exact ⟨by simp, by simp, by simp⟩
        · have := acc_lt l (i + 1)
          simp only
          omega
      · exact getvF_lt l f (i + 1)
    · simp
theorem or_join {a b : Nat} (i : Nat) (ha : a < 2 ^ i) (hb : b % 2 ^ i = 0) : a ||| b = a + b := by
  have h2 : 2 ^ i * (b / 2 ^ i) = b := by have := Nat.div_add_mod b (2 ^ i); omega
  have h := Nat.two_pow_add_eq_or_of_lt ha (b / 2 ^ i)
  rw [Nat.or_comm, ← h2, ← h, Nat.add_comm]
theorem pow128 (i : Nat) : (2 : Nat) ^ (7 * i) = 128 ^ i := Nat.pow_mul 2 7 i
theorem drop_head {l r : List UInt8} {i : Nat} {c : UInt8} (h : l.drop i = c :: r) : i < l.length ∧ l.getD i 0 = c ∧ l.drop (i + 1) = r := by
  have hi : i < l.length := by
    rcases Nat.lt_or_ge i l.length with h' | h'
    · exact h'
    · rw [List.drop_of_length_le h'] at h; cases h
  rw [List.drop_eq_getElem_cons hi] at h
  injection h with h1 h2
  exact ⟨hi, by rw [List.getD_eq_getElem?_getD, List.getElem?_eq_getElem hi]; exact h1, h2⟩
theorem getvF_var (l r : List UInt8) (y : Nat) (hy : y < 18446744073709551616) : ∀ (g i : Nat), g + i = 9 → l.drop i = varF g (y / 128 ^ i) ++ r → acc l i = y % 128 ^ i → getvF l (g + 1) i = (y, (i : Int) + (varF g (y / 128 ^ i)).length)
  | g, i, hgi, hl, ha => by
    have p0 : 0 < 128 ^ i := Nat.pow_pos (by decide)
    have hdm := Nat.div_add_mod y (128 ^ i)
    have hml : y % 128 ^ i < 2 ^ (7 * i) := by rw [pow128]; exact Nat.mod_lt _ p0
    by_cases hq : y / 128 ^ i < 128
    · have e1 : varF g (y / 128 ^ i) = [UInt8.ofNat (y / 128 ^ i)] := by
        cases g with
        | zero => rfl
        | succ g => rw [varF, if_pos hq]
      rw [e1, List.cons_append, List.nil_append] at hl
      obtain ⟨h1, h2, _⟩ := drop_head hl
      have hc : (l.getD i 0).toNat = y / 128 ^ i := by rw [h2, Sm.ofNat_toNat, Nat.mod_eq_of_lt (by omega)]
      unfold getvF
      rw [if_pos h1, if_pos (by rw [hc]; exact hq), if_neg, e1]
      · simp only [acc]
        rw [ha, hc, Nat.mod_eq_of_lt (a := y / 128 ^ i) hq, pow128]
        have e2 : y / 128 ^ i * 128 ^ i = y - y % 128 ^ i := by rw [Nat.mul_comm]; omega
        rw [Nat.mod_eq_of_lt (a := y / 128 ^ i * 128 ^ i) (by omega), or_join (7 * i) hml (by rw [pow128]; exact Nat.mul_mod_left _ _), e2]
        have := Nat.mod_le y (128 ^ i)
        simp
        omega
      · rintro ⟨hi9, h9⟩
        subst hi9
        rw [hc] at h9
        have : y / 128 ^ 9 < 2 := by rw [Nat.div_lt_iff_lt_mul (by decide)]; omega
        omega
    · cases g with
      | zero =>
        have hi9 : i = 9 := by omega
        subst hi9
        have : y / 128 ^ 9 < 2 := by rw [Nat.div_lt_iff_lt_mul (by decide)]; omega
        omega
      | succ g =>
        have e1 : varF (g + 1) (y / 128 ^ i) = UInt8.ofNat (y / 128 ^ i % 128 + 128) :: varF g (y / 128 ^ (i + 1)) := by
          rw [varF, if_neg hq, Nat.div_div_eq_div_mul, ← Nat.pow_succ]
        rw [e1, List.cons_append] at hl
        obtain ⟨h1, h2, h3⟩ := drop_head hl
        have hc : (l.getD i 0).toNat = y / 128 ^ i % 128 + 128 := by rw [h2, Sm.ofNat_toNat, Nat.mod_eq_of_lt (by omega)]
        have hle : 128 ^ (i + 1) ≤ 128 ^ 9 := Nat.pow_le_pow_right (by decide) (by omega)
        have hps : 128 ^ (i + 1) = 128 ^ i * 128 := Nat.pow_succ ..
        have hp9 : (128 : Nat) ^ 9 = 9223372036854775808 := by decide
        have ha' : acc l (i + 1) = y % 128 ^ (i + 1) := by
          simp only [acc]
          have e3 : (y / 128 ^ i % 128 + 128) % 128 = y / 128 ^ i % 128 := by omega
          rw [ha, hc, e3, pow128]
          have hb : y / 128 ^ i % 128 * 128 ^ i ≤ 127 * 128 ^ i := Nat.mul_le_mul_right _ (by omega)
          rw [Nat.mod_eq_of_lt (a := y / 128 ^ i % 128 * 128 ^ i) (by omega), or_join (7 * i) hml (by rw [pow128]; exact Nat.mul_mod_left _ _), Nat.mod_pow_succ, Nat.mul_comm (y / 128 ^ i % 128)]
        have ih := getvF_var l r y hy g (i + 1) (by omega) h3 ha'
        unfold getvF
        rw [if_pos h1, if_neg (by rw [hc]; omega), ih, e1]
        simp
        omega
/-- What was put is read. -/
theorem getv_var (y : Nat) (hy : y < 18446744073709551616) (r : List UInt8) : getv (var y ++ r) = (y, ((var y).length : Int)) := by
  have h := getvF_var (var y ++ r) r y hy 9 0 rfl (by simp [var]) (by simp [acc, Nat.mod_one])
  simp only [Nat.pow_zero, Nat.div_one] at h
  unfold getv
  rw [h]
  simp [var]
/-- A number of eight bytes, the highest one first. -/
def bigv : Nat → List UInt8 → Nat
  | x, [] => x
  | x, c :: r => bigv (x * 256 % 18446744073709551616 + c.toNat) r
theorem big_low (m x : Nat) : ∀ n, n ≤ m → big x n = big (x % 256 ^ m) n
  | 0, _ => rfl
  | n + 1, h => by
    have ih := big_low m x n (by omega)
    simp only [big]
    rw [← ih]
    congr 1
    apply UInt8.toNat_inj.1
    rw [Sm.ofNat_toNat, Sm.ofNat_toNat]
    have e : 256 ^ m = 256 ^ n * (256 * 256 ^ (m - n - 1)) := by
      rw [← Nat.pow_succ', ← Nat.pow_add]
      congr 1
      omega
    rw [e, Nat.mod_mul_right_div_self, Nat.mod_mul_right_mod]
theorem bigv_big : ∀ (n x y : Nat), y < 256 ^ n → x * 256 ^ n + y < 18446744073709551616 → bigv x (big y n) = x * 256 ^ n + y
  | 0, x, y, hy, hx => by simp at hy; subst hy; simp [bigv, big]
  | n + 1, x, y, hy, hx => by
    have p0 : 0 < 256 ^ n := Nat.pow_pos (by decide)
    have hp : 256 ^ (n + 1) = 256 ^ n * 256 := Nat.pow_succ ..
    have hd : y / 256 ^ n < 256 := by rw [Nat.div_lt_iff_lt_mul p0]; omega
    have hdm := Nat.div_add_mod y (256 ^ n)
    have hx2 : x * 256 ^ (n + 1) = (x * 256) * 256 ^ n := by rw [hp, Nat.mul_assoc, Nat.mul_comm (256 ^ n)]
    have hx3 : x * 256 < 18446744073709551616 := by
      have : x * 256 * 1 ≤ x * 256 * 256 ^ n := Nat.mul_le_mul_left _ p0
      omega
    simp only [big, bigv]
    rw [Sm.ofNat_toNat, Nat.mod_eq_of_lt hd, Nat.mod_eq_of_lt hx3, big_low n y n (Nat.le_refl _)]
    have e : (x * 256 + y / 256 ^ n) * 256 ^ n = x * 256 ^ (n + 1) + 256 ^ n * (y / 256 ^ n) := by rw [Nat.add_mul, hx2, Nat.mul_comm (y / 256 ^ n)]
    rw [bigv_big n _ (y % 256 ^ n) (Nat.mod_lt _ p0) (by omega), e]
    omega
theorem getvF_stop {l : List UInt8} {k c : Nat} (hk : k < 10) (hl : k < l.length) (hc : (l.getD k 0).toNat = c) (h : c < 128) : getvF l (10 - k) k = if k = 9 ∧ 1 < (l.getD 9 0).toNat then (0, -1) else (acc l (k + 1), (k : Int) + 1) := by
  subst hc
  rw [show 10 - k = (9 - k) + 1 from by omega, getvF, if_pos hl, if_pos h]
theorem getvF_go {l : List UInt8} {k c : Nat} (hk : k < 10) (hl : k < l.length) (hc : (l.getD k 0).toNat = c) (h : 128 ≤ c) : getvF l (10 - k) k = getvF l (10 - (k + 1)) (k + 1) := by
  subst hc
  rw [show 10 - k = (10 - (k + 1)) + 1 from by omega, getvF, if_pos hl, if_neg (by omega)]
theorem getvF_end {l : List UInt8} {k : Nat} (h : k = 10 ∨ ¬ k < l.length) : getvF l (10 - k) k = (0, 0) := by
  rcases Nat.eq_zero_or_pos (10 - k) with e | e
  · rw [e]; rfl
  · obtain ⟨g, hg⟩ : ∃ g, 10 - k = g + 1 := ⟨10 - k - 1, by omega⟩
    rw [hg, getvF, if_neg (by omega)]
theorem bigv_snoc : ∀ (l : List UInt8) (x : Nat) (c : UInt8), bigv x (l ++ [c]) = bigv x l * 256 % 18446744073709551616 + c.toNat
  | [], x, c => rfl
  | d :: l, x, c => bigv_snoc l _ c
theorem bigv_lt : ∀ (l : List UInt8) (x : Nat), x < 18446744073709551616 → bigv x l < 18446744073709551616
  | [], x, h => h
  | d :: l, x, h => bigv_lt l _ (by
    have := d.toNat_lt
    omega)
/-- A number of the first bytes, the lowest one first. -/
def lit (l : List UInt8) : Nat → Nat
  | 0 => 0
  | i + 1 => lit l i + (l.getD i 0).toNat * 2 ^ (8 * i)
theorem lit_lt (l : List UInt8) : ∀ i, lit l i < 2 ^ (8 * i)
  | 0 => by simp [lit]
  | i + 1 => by
    have ih := lit_lt l i
    have hc := (l.getD i 0).toNat_lt
    have e : 2 ^ (8 * (i + 1)) = 2 ^ (8 * i) * 256 := by rw [show 8 * (i + 1) = 8 * i + 8 from by omega, Nat.pow_add]
    have hb : (l.getD i 0).toNat * 2 ^ (8 * i) ≤ 255 * 2 ^ (8 * i) := Nat.mul_le_mul_right _ (by omega)
    simp only [lit]
    omega
theorem lit_four (l : List UInt8) : lit l 4 = Sm.val4 l := by
  simp only [lit, Sm.val4]
  omega
end Ev
end Go.Proofs.YtjhejnhjpjmnmaaDoor
