/- Plain laws on sums (CRC-32C, bit by bit and by table) and prints (FNV-1a) over lists of bytes. No program in sight. No condition. -/
namespace Go.Proofs.YtmncppnpppdfkaaDoor.Sm

/-- One bit's step of the sum. -/
def step1 (c : Nat) : Nat := if c % 2 = 1 then c / 2 ^^^ 2197175160 else c / 2
def stepN : Nat → Nat → Nat
  | 0, c => c
  | k + 1, c => step1 (stepN k c)
def step8 (c : Nat) : Nat := stepN 8 c
/-- One byte's step of the sum. -/
def byte1 (c x : Nat) : Nat := step8 (c ^^^ x)
/-- The register behind a text. -/
def reg (c : Nat) (s : List UInt8) : Nat := s.foldl (fun c x => byte1 c x.toNat) c
/-- The sum of a text that goes on. -/
def more (c : Nat) (s : List UInt8) : Nat := 4294967295 - reg (4294967295 - c) s
def crc (s : List UInt8) : Nat := more 0 s

theorem stepN_succ (k c : Nat) : stepN (k + 1) c = step1 (stepN k c) := rfl

theorem xor_div_two (a b : Nat) : (a ^^^ b) / 2 = a / 2 ^^^ b / 2 := by
  have := Nat.shiftRight_xor_distrib (a := a) (b := b) (i := 1)
  simpa [Nat.shiftRight_eq_div_pow] using this
theorem xor_mod_two (a b : Nat) : (a ^^^ b) % 2 = (a % 2 + b % 2) % 2 := by
  have h : ∀ x y : Nat, x < 2 → y < 2 → x ^^^ y = (x + y) % 2 := by
    intro x y hx hy
    have hx' : x = 0 ∨ x = 1 := by omega
    have hy' : y = 0 ∨ y = 1 := by omega
    rcases hx' with rfl | rfl <;> rcases hy' with rfl | rfl <;> rfl
  have h2 := Nat.xor_mod_two_pow (a := a) (b := b) (n := 1)
  simp only [Nat.pow_one] at h2
  rw [h2, h _ _ (Nat.mod_lt _ (by decide)) (Nat.mod_lt _ (by decide))]

theorem step1_xor (a b : Nat) : step1 (a ^^^ b) = step1 a ^^^ step1 b := by
  unfold step1
  rw [xor_div_two, xor_mod_two]
  have ha : a % 2 = 0 ∨ a % 2 = 1 := by omega
  have hb : b % 2 = 0 ∨ b % 2 = 1 := by omega
  rcases ha with ha | ha <;> rcases hb with hb | hb <;> simp [ha, hb]
  · ac_rfl
  · ac_rfl
  · have : ∀ p x y : Nat, x ^^^ y = x ^^^ p ^^^ (y ^^^ p) := by
      intro p x y
      have e : x ^^^ p ^^^ (y ^^^ p) = x ^^^ y ^^^ (p ^^^ p) := by ac_rfl
      rw [e, Nat.xor_self, Nat.xor_zero]
    exact this _ _ _
theorem stepN_xor (k a b : Nat) : stepN k (a ^^^ b) = stepN k a ^^^ stepN k b := by
  induction k with
  | zero => rfl
  | succ k ih => rw [stepN_succ, ih, step1_xor]; rfl
theorem step8_xor (a b : Nat) : step8 (a ^^^ b) = step8 a ^^^ step8 b := stepN_xor 8 a b

theorem step1_even (h : Nat) : step1 (2 * h) = h := by
  unfold step1
  rw [if_neg (by omega)]
  omega
theorem stepN_shift (k h : Nat) : stepN k (2 ^ k * h) = h := by
  induction k generalizing h with
  | zero => simp [stepN]
  | succ k ih =>
    rw [stepN_succ, show 2 ^ (k + 1) * h = 2 ^ k * (2 * h) from by rw [Nat.pow_succ]; ac_rfl, ih, step1_even]
theorem step8_shift (h : Nat) : step8 (256 * h) = h := stepN_shift 8 h

theorem step1_lt {c : Nat} (h : c < 4294967296) : step1 c < 4294967296 := by
  unfold step1
  split
  · exact Nat.xor_lt_two_pow (n := 32) (by omega) (by decide)
  · omega
theorem stepN_lt (k : Nat) {c : Nat} (h : c < 4294967296) : stepN k c < 4294967296 := by
  induction k with
  | zero => exact h
  | succ k ih => exact step1_lt ih
theorem step8_lt {c : Nat} (h : c < 4294967296) : step8 c < 4294967296 := stepN_lt 8 h
theorem xor_byte_lt {c x : Nat} (h : c < 4294967296) (hx : x < 256) : c ^^^ x < 4294967296 := Nat.xor_lt_two_pow (n := 32) h (by omega)
theorem byte1_lt {c x : Nat} (h : c < 4294967296) (hx : x < 256) : byte1 c x < 4294967296 := step8_lt (xor_byte_lt h hx)
theorem reg_lt {c : Nat} (h : c < 4294967296) (s : List UInt8) : reg c s < 4294967296 := by
  induction s generalizing c with
  | nil => exact h
  | cons x s ih => exact ih (byte1_lt h x.toNat_lt)

/-- The table's way: the low byte picks a word, the rest is shifted. -/
theorem split_byte (c : Nat) : 2 ^ 8 * (c / 2 ^ 8) ^^^ c % 2 ^ 8 = c := by
  apply Nat.eq_of_testBit_eq
  intro i
  rw [Nat.testBit_xor, Nat.testBit_two_pow_mul, Nat.testBit_mod_two_pow, Nat.testBit_div_two_pow]
  by_cases hi : i < 8
  · have h : ¬ 8 ≤ i := by omega
    simp [hi, h]
  · have h : 8 ≤ i := by omega
    have e : i - 8 + 8 = i := by omega
    simp [hi, h, e]
theorem byte1_table (c x : Nat) : byte1 c x = c / 256 ^^^ step8 (c % 256 ^^^ x) := by
  unfold byte1
  have h1 : c ^^^ x = 256 * (c / 256) ^^^ (c % 256 ^^^ x) := by
    have h : 256 * (c / 256) ^^^ c % 256 = c := split_byte c
    rw [← Nat.xor_assoc, h]
  rw [h1, step8_xor, step8_shift]

theorem reg_nil (c : Nat) : reg c [] = c := rfl
theorem reg_snoc (c : Nat) (s : List UInt8) (x : UInt8) : reg c (s ++ [x]) = byte1 (reg c s) x.toNat := by
  unfold reg; rw [List.foldl_append, List.foldl_cons, List.foldl_nil]
theorem reg_append (c : Nat) (s t : List UInt8) : reg c (s ++ t) = reg (reg c s) t := by
  unfold reg; rw [List.foldl_append]
theorem more_lt (c : Nat) (s : List UInt8) : more c s < 4294967296 := by unfold more; omega
theorem crc_lt (s : List UInt8) : crc s < 4294967296 := more_lt 0 s
theorem more_append {c : Nat} (s t : List UInt8) : more (more c s) t = more c (s ++ t) := by
  unfold more
  have := reg_lt (c := 4294967295 - c) (by omega) s
  rw [show 4294967295 - (4294967295 - reg (4294967295 - c) s) = reg (4294967295 - c) s from by omega, reg_append]
theorem crc_more (s t : List UInt8) : more (crc s) t = crc (s ++ t) := more_append s t
theorem more_nil {c : Nat} (h : c < 4294967296) : more c [] = c := by unfold more; rw [reg_nil]; omega

/-- A step can be taken back: the word's top bit tells which way it went. -/
theorem step1_top {c : Nat} (h : c < 4294967296) : (step1 c).testBit 31 = decide (c % 2 = 1) := by
  unfold step1
  have h0 : (c / 2).testBit 31 = false := by
    apply Nat.testBit_lt_two_pow
    omega
  split
  · rename_i hc
    rw [Nat.testBit_xor, h0]
    simp [hc]
    decide
  · rename_i hc
    rw [h0]; simp [hc]
theorem xor_right_cancel {a b p : Nat} (h : a ^^^ p = b ^^^ p) : a = b := by
  have := congrArg (fun n => n ^^^ p) h
  simpa [Nat.xor_assoc, Nat.xor_self] using this
theorem step1_inj {a b : Nat} (ha : a < 4294967296) (hb : b < 4294967296) (h : step1 a = step1 b) : a = b := by
  have ht := congrArg (fun n => n.testBit 31) h
  simp only [step1_top ha, step1_top hb] at ht
  unfold step1 at h
  by_cases h1 : a % 2 = 1
  · have h2 : b % 2 = 1 := by simpa [h1] using ht
    rw [if_pos h1, if_pos h2] at h
    have := xor_right_cancel h
    omega
  · have h2 : ¬ b % 2 = 1 := by simpa [h1] using ht
    rw [if_neg h1, if_neg h2] at h
    omega
theorem stepN_inj (k : Nat) {a b : Nat} (ha : a < 4294967296) (hb : b < 4294967296) (h : stepN k a = stepN k b) : a = b := by
  induction k with
  | zero => exact h
  | succ k ih => exact ih (step1_inj (stepN_lt k ha) (stepN_lt k hb) h)
theorem byte1_inj {c d x : Nat} (hc : c < 4294967296) (hd : d < 4294967296) (hx : x < 256) (h : byte1 c x = byte1 d x) : c = d :=
  xor_right_cancel (stepN_inj 8 (xor_byte_lt hc hx) (xor_byte_lt hd hx) h)
theorem byte1_inj_byte {c x y : Nat} (hc : c < 4294967296) (hx : x < 256) (hy : y < 256) (h : byte1 c x = byte1 c y) : x = y := by
  have h1 := stepN_inj 8 (xor_byte_lt hc hx) (xor_byte_lt hc hy) h
  rw [Nat.xor_comm c x, Nat.xor_comm c y] at h1
  exact xor_right_cancel h1
theorem reg_inj {c d : Nat} (hc : c < 4294967296) (hd : d < 4294967296) (s : List UInt8) (h : reg c s = reg d s) : c = d := by
  induction s generalizing c d with
  | nil => exact h
  | cons x s ih => exact byte1_inj hc hd x.toNat_lt (ih (byte1_lt hc x.toNat_lt) (byte1_lt hd x.toNat_lt) h)
theorem more_inj_byte {c : Nat} (hc : c < 4294967296) (p : List UInt8) (x y : UInt8) (q : List UInt8) (h : more c (p ++ x :: q) = more c (p ++ y :: q)) : x = y := by
  unfold more at h
  have h1 := reg_lt (c := 4294967295 - c) (by omega) (p ++ x :: q)
  have h2 := reg_lt (c := 4294967295 - c) (by omega) (p ++ y :: q)
  have h3 : reg (4294967295 - c) (p ++ x :: q) = reg (4294967295 - c) (p ++ y :: q) := by omega
  rw [reg_append, reg_append] at h3
  have hp := reg_lt (c := 4294967295 - c) (by omega) p
  have h4 := reg_inj (byte1_lt hp x.toNat_lt) (byte1_lt hp y.toNat_lt) q h3
  exact UInt8.toNat_inj.1 (byte1_inj_byte hp x.toNat_lt y.toNat_lt h4)
theorem more_inj {c d : Nat} (hc : c < 4294967296) (hd : d < 4294967296) (s : List UInt8) (h : more c s = more d s) : c = d := by
  unfold more at h
  have h1 := reg_lt (c := 4294967295 - c) (by omega) s
  have h2 := reg_lt (c := 4294967295 - d) (by omega) s
  have := reg_inj (c := 4294967295 - c) (d := 4294967295 - d) (by omega) (by omega) s (by omega)
  omega

/-- The print. -/
def print1 (h x : Nat) : Nat := (h ^^^ x) * 1099511628211 % 18446744073709551616
def printOn (h : Nat) (s : List UInt8) : Nat := s.foldl (fun h x => print1 h x.toNat) h
def print (s : List UInt8) : Nat := printOn 14695981039346656037 s
theorem print1_lt (h x : Nat) : print1 h x < 18446744073709551616 := Nat.mod_lt _ (by decide)
theorem printOn_lt {h : Nat} (hh : h < 18446744073709551616) (s : List UInt8) : printOn h s < 18446744073709551616 := by
  induction s generalizing h with
  | nil => exact hh
  | cons x s ih => exact ih (print1_lt _ _)
theorem print_lt (s : List UInt8) : print s < 18446744073709551616 := printOn_lt (by decide) s
theorem printOn_append (h : Nat) (s t : List UInt8) : printOn h (s ++ t) = printOn (printOn h s) t := by
  unfold printOn; rw [List.foldl_append]
theorem printOn_snoc (h : Nat) (s : List UInt8) (x : UInt8) : printOn h (s ++ [x]) = print1 (printOn h s) x.toNat := by
  unfold printOn; rw [List.foldl_append, List.foldl_cons, List.foldl_nil]
theorem xor64_lt {h x : Nat} (hh : h < 18446744073709551616) (hx : x < 256) : h ^^^ x < 18446744073709551616 := Nat.xor_lt_two_pow (n := 64) hh (by omega)
theorem mul_inj_of {m p q a b : Nat} (hpq : p * q % m = 1) (ha : a < m) (hb : b < m) (h : a * p % m = b * p % m) : a = b := by
  have h1 : a * p % m * q % m = b * p % m * q % m := by rw [h]
  have e : ∀ c : Nat, c < m → c * p % m * q % m = c := by
    intro c hc
    rw [Nat.mod_mul_mod, Nat.mul_assoc, Nat.mul_mod, hpq, Nat.mul_one, Nat.mod_mod, Nat.mod_eq_of_lt hc]
  rw [e a ha, e b hb] at h1
  exact h1
theorem mul_inj {a b : Nat} (ha : a < 18446744073709551616) (hb : b < 18446744073709551616) (h : a * 1099511628211 % 18446744073709551616 = b * 1099511628211 % 18446744073709551616) : a = b :=
  mul_inj_of (q := 14886173955864302971) (by decide +kernel) ha hb h
theorem print1_inj {a b x : Nat} (ha : a < 18446744073709551616) (hb : b < 18446744073709551616) (hx : x < 256) (h : print1 a x = print1 b x) : a = b :=
  xor_right_cancel (mul_inj (xor64_lt ha hx) (xor64_lt hb hx) h)
theorem print1_inj_byte {a x y : Nat} (ha : a < 18446744073709551616) (hx : x < 256) (hy : y < 256) (h : print1 a x = print1 a y) : x = y := by
  have h1 := mul_inj (xor64_lt ha hx) (xor64_lt ha hy) h
  rw [Nat.xor_comm a x, Nat.xor_comm a y] at h1
  exact xor_right_cancel h1
theorem printOn_inj {a b : Nat} (ha : a < 18446744073709551616) (hb : b < 18446744073709551616) (s : List UInt8) (h : printOn a s = printOn b s) : a = b := by
  induction s generalizing a b with
  | nil => exact h
  | cons x s ih => exact print1_inj ha hb x.toNat_lt (ih (print1_lt _ _) (print1_lt _ _) h)
theorem print_inj_byte (p : List UInt8) (x y : UInt8) (q : List UInt8) (h : print (p ++ x :: q) = print (p ++ y :: q)) : x = y := by
  unfold print at h
  rw [printOn_append, printOn_append] at h
  have h4 := printOn_inj (print1_lt _ _) (print1_lt _ _) q h
  exact UInt8.toNat_inj.1 (print1_inj_byte (printOn_lt (by decide) p) x.toNat_lt y.toNat_lt h4)
end Go.Proofs.YtmncppnpppdfkaaDoor.Sm
