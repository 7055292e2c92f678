/- Chapter 17, plain: a letter's bytes, and that no two right letters have the same. -/
import Derived.Test.YtjhejnhjpjmnmaaDoorTokNames2
import Derived.Test.YtjhejnhjpjmnmaaDoorSumWalkC
set_option linter.unusedVariables false
namespace Go.Proofs.YtjhejnhjpjmnmaaDoor
namespace Ev
/-- A number's bytes, seven bits a byte. -/
def varF : Nat → Nat → List UInt8
  | 0, x => [UInt8.ofNat x]
  | f + 1, x => if x < 128 then [UInt8.ofNat x] else UInt8.ofNat (x % 128 + 128) :: varF f (x / 128)
def var (x : Nat) : List UInt8 := varF 9 x
/-- A number's lowest bytes, the highest one first. -/
def big (x : Nat) : Nat → List UInt8
  | 0 => []
  | n + 1 => UInt8.ofNat (x / 256 ^ n) :: big x n
def txt (s : ByteArray) : List UInt8 := var s.size ++ s.data.toList
structure Letter where
  kind : Nat
  from_ : Int
  to_ : Int
  seq : Nat
  key : ByteArray
  print : Nat
  svc : ByteArray
  mth : ByteArray
  code : Int
  body : ByteArray
def Letter.zero : Letter := ⟨0, 0, 0, 0, ByteArray.empty, 0, ByteArray.empty, ByteArray.empty, 0, ByteArray.empty⟩
def Letter.cells (l : Letter) : List Value := [.int .u8 l.kind, .int .i64 l.from_, .int .i64 l.to_, .int .u64 l.seq, .string l.key, .int .u64 l.print, .string l.svc, .string l.mth, .int .i64 l.code, .string l.body]
def Letter.val (l : Letter) : Value := .agg #[.int .u8 l.kind, .int .i64 l.from_, .int .i64 l.to_, .int .u64 l.seq, .string l.key, .int .u64 l.print, .string l.svc, .string l.mth, .int .i64 l.code, .string l.body]
/-- Its numbers are such as their kinds hold. -/
def Letter.ok (l : Letter) : Prop := l.kind < 256 ∧ l.seq < 18446744073709551616 ∧ l.print < 18446744073709551616
def peer (n : Int) : Bool := decide (0 ≤ n) && decide (n < 4)
/-- Is a letter right? -/
def right (l : Letter) : Bool :=
  peer l.from_ && peer l.to_ && decide (1 ≤ l.key.size) && decide (l.key.size ≤ 64) && decide (l.body.size ≤ 4096) &&
  (if l.kind = 1 ∨ l.kind = 3 then Tk.isName l.svc && Tk.isName l.mth && decide (l.code = 0) && (decide (l.kind = 1) || l.body.toList.isEmpty)
   else if l.kind = 2 ∨ l.kind = 4 then l.svc.toList.isEmpty && l.mth.toList.isEmpty && decide (0 ≤ l.code) && decide (l.code ≤ 999) else false)
/-- A letter's bytes without the sum. -/
def head (l : Letter) : List UInt8 :=
  [UInt8.ofNat l.kind, UInt8.ofNat l.from_.toNat, UInt8.ofNat l.to_.toNat] ++ var l.seq ++ txt l.key ++ big l.print 8 ++ txt l.svc ++ txt l.mth ++ var l.code.toNat ++ txt l.body
def bytes (l : Letter) : List UInt8 := head l ++ Sm.le4 (Sm.crc (head l))
def pack (l : Letter) : ByteArray × Nat := if right l then (⟨(bytes l).toArray⟩, 0) else (ByteArray.empty, 1)
theorem big_len (x : Nat) : ∀ n, (big x n).length = n
  | 0 => rfl
  | n + 1 => by simp [big, big_len x n]
theorem varF_len : ∀ f x, 1 ≤ (varF f x).length ∧ (varF f x).length ≤ f + 1
  | 0, x => by simp [varF]
  | f + 1, x => by
    have := varF_len f (x / 128)
    unfold varF
    split
    · simp
    · simp only [List.length_cons]; omega
theorem var_len (x : Nat) : 1 ≤ (var x).length ∧ (var x).length ≤ 10 := varF_len 9 x
theorem ofNat_inj {a b : Nat} (ha : a < 256) (hb : b < 256) (h : UInt8.ofNat a = UInt8.ofNat b) : a = b := by
  have := congrArg UInt8.toNat h
  rw [Sm.ofNat_toNat, Sm.ofNat_toNat] at this
  omega
theorem varF_inj : ∀ (f x y : Nat) (r s : List UInt8), x < 2 * 128 ^ f → y < 2 * 128 ^ f → varF f x ++ r = varF f y ++ s → x = y ∧ r = s
  | 0, x, y, r, s, hx, hy, h => by
    simp only [varF, List.cons_append, List.nil_append, List.cons.injEq] at h
    exact ⟨ofNat_inj (by omega) (by omega) h.1, h.2⟩
  | f + 1, x, y, r, s, hx, hy, h => by
    have hp : (128 : Nat) ^ (f + 1) = 128 ^ f * 128 := Nat.pow_succ ..
    unfold varF at h
    by_cases h1 : x < 128 <;> by_cases h2 : y < 128
    · rw [if_pos h1, if_pos h2] at h
      simp only [List.cons_append, List.nil_append, List.cons.injEq] at h
      exact ⟨ofNat_inj (by omega) (by omega) h.1, h.2⟩
    · rw [if_pos h1, if_neg h2] at h
      simp only [List.cons_append, List.nil_append, List.cons.injEq] at h
      have := ofNat_inj (by omega) (by omega) h.1
      omega
    · rw [if_neg h1, if_pos h2] at h
      simp only [List.cons_append, List.nil_append, List.cons.injEq] at h
      have := ofNat_inj (by omega) (by omega) h.1
      omega
    · rw [if_neg h1, if_neg h2] at h
      simp only [List.cons_append, List.cons.injEq] at h
      have e := ofNat_inj (by omega) (by omega) h.1
      have ih := varF_inj f (x / 128) (y / 128) r s (by omega) (by omega) h.2
      exact ⟨by omega, ih.2⟩
theorem var_inj {x y : Nat} {r s : List UInt8} (hx : x < 18446744073709551616) (hy : y < 18446744073709551616) (h : var x ++ r = var y ++ s) : x = y ∧ r = s :=
  varF_inj 9 x y r s (by simpa using hx) (by simpa using hy) h
theorem big_inj : ∀ (n x y : Nat) (r s : List UInt8), x < 256 ^ n → y < 256 ^ n → big x n ++ r = big y n ++ s → x = y ∧ r = s
  | 0, x, y, r, s, hx, hy, h => ⟨by simp at hx hy; omega, h⟩
  | n + 1, x, y, r, s, hx, hy, h => by
    simp only [big, List.cons_append, List.cons.injEq] at h
    have hp : (256 : Nat) ^ (n + 1) = 256 ^ n * 256 := Nat.pow_succ ..
    have p0 : 0 < 256 ^ n := Nat.pow_pos (by decide)
    have e := ofNat_inj (by rw [Nat.div_lt_iff_lt_mul p0]; omega) (by rw [Nat.div_lt_iff_lt_mul p0]; omega) h.1
    have hb : ∀ (x : Nat), big x n = big (x % 256 ^ n) n := fun x => big_mod n x n (Nat.le_refl _)
    rw [hb x, hb y] at h
    have ih := big_inj n (x % 256 ^ n) (y % 256 ^ n) r s (Nat.mod_lt _ p0) (Nat.mod_lt _ p0) h.2
    have d1 := Nat.div_add_mod x (256 ^ n)
    have d2 := Nat.div_add_mod y (256 ^ n)
    exact ⟨by rw [← d1, ← d2, e, ih.1], ih.2⟩
where
  big_mod (m x : Nat) : ∀ n, n ≤ m → big x n = big (x % 256 ^ m) n
    | 0, _ => rfl
    | n + 1, h => by
      have ih := big_mod m x n (by omega)
      simp only [big]
      rw [← ih]
      congr 1
      apply UInt8.toNat_inj.1
      rw [Sm.ofNat_toNat, Sm.ofNat_toNat]
      have e : 256 ^ m = 256 ^ n * (256 * 256 ^ (m - n - 1)) := by
        rw [← Nat.pow_succ', ← Nat.pow_add]
        congr 1
        omega
      rw [e, Nat.mod_mul_right_div_self, Nat.mod_mul_right_mod]
theorem txt_inj {a b : ByteArray} {r s : List UInt8} (ha : a.size < 18446744073709551616) (hb : b.size < 18446744073709551616) (h : txt a ++ r = txt b ++ s) : a = b ∧ r = s := by
  unfold txt at h
  rw [List.append_assoc, List.append_assoc] at h
  obtain ⟨h1, h2⟩ := var_inj ha hb h
  have h3 : a.data.toList.length = b.data.toList.length := by simpa using h1
  have h4 := List.append_inj h2 h3
  exact ⟨by cases a; cases b; simpa using h4.1, h4.2⟩
end Ev
end Go.Proofs.YtjhejnhjpjmnmaaDoor
