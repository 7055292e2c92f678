import Derived.Test.YtdjccepchleacaaSumWalkA
set_option linter.unusedVariables false
namespace Go.Proofs.Ytdjccepchleacaa
open Go.BigFrame
open Go.RowKit
theorem more_int (c : Int) (h0 : 0 ≤ c) (hc : c < 4294967296) (s : ByteArray) (hs : s.size ≤ maxLen) (w : World) :
    Calls Try.prog 38 #[.int .u32 c, .string s] w fun e w' => e = .returned (.int .u32 (Sm.more c.toNat s.data.toList)) ∧ Below w.heap.size w w' := by
  obtain ⟨n, rfl⟩ := Int.eq_ofNat_of_zero_le h0
  rw [Int.toNat_natCast]
  exact more_any n (by omega) s hs w
set_option maxHeartbeats 400000 in
theorem crc_any (s : ByteArray) (hs : s.size ≤ maxLen) (w : World) :
    Calls Try.prog 29 #[.string s] w fun e w' => e = .returned (.int .u32 (Sm.crc s.data.toList)) ∧ Below w.heap.size w w' := by
  go_enter Try.func29, Try.ntmps29
  go_wp2_with fail
  refine (more_int _ (by omega) (by omega) _ hs _).mono ?_
  rintro e w1 ⟨rfl, hb⟩
  go_wp2
  go_ret
  exact ⟨rfl, hb⟩
namespace Sm
def base : Nat := 14695981039346656037
def prime : Nat := 1099511628211
theorem base_lt : base < 18446744073709551616 := by unfold base; omega
def printTo (s : ByteArray) (k : Nat) : Nat := printOn base (s.data.toList.take k)
theorem printTo_lt (s : ByteArray) (k : Nat) : printTo s k < 18446744073709551616 := printOn_lt base_lt _
theorem printTo_succ (s : ByteArray) (k : Nat) (h : k < s.size) : printTo s (k + 1) = print1 (printTo s k) s[k].toNat := by
  unfold printTo
  rw [take_snoc s k h, printOn_snoc]
theorem print_step {h x : Nat} (hh : h < 18446744073709551616) (hx : x < 256) :
    IntKind.u64.wrap (bits BinOp.xor IntKind.u64 (h : Int) (IntKind.u64.wrap (x : Int)) * 1099511628211) = ((print1 h x : Nat) : Int) := by
  have e1 : IntKind.u64.wrap (x : Int) = (x : Int) := by rw [IntKind.wrap_u64]; omega
  rw [e1, u64_xor_nat h x hh (by omega), IntKind.wrap_u64, print1]
  rfl
theorem printTo_all (s : ByteArray) : printTo s s.size = print s.data.toList := by
  unfold printTo print base
  rw [List.take_of_length_le (by simp)]
end Sm
namespace Sm
def le4 (n : Nat) : List UInt8 := [UInt8.ofNat n, UInt8.ofNat (n / 256), UInt8.ofNat (n / 65536), UInt8.ofNat (n / 16777216)]
theorem ofNat_toNat (n : Nat) : (UInt8.ofNat n).toNat = n % 256 := by simp
end Sm
theorem run_put (n : Nat) (hn : n < 4294967296) (w : World) :
    Sem.run Try.prog (convert 40 9 (.slice (some ⟨w.heap.size, 0, none⟩) 4 4)) (w.alloc (.cells #[.int .u8 (↑n % 256), .int .u8 (↑n / 256 % 256), .int .u8 (↑n / 65536 % 256), .int .u8 (↑n / 16777216)] 5)) =
      .ok (.string ⟨(Sm.le4 n).toArray⟩) (w.alloc (.cells #[.int .u8 (↑n % 256), .int .u8 (↑n / 256 % 256), .int .u8 (↑n / 65536 % 256), .int .u8 (↑n / 16777216)] 5)) := by
  refine run_convert_bytes_back (P := Try.prog) _ 40 9 5 ⟨w.heap.size, 0, none⟩ 4 (Sm.le4 n) Try.underlying40 Try.underlying5 Try.underlying9 ?_
  intro j hj
  have hj : j < 4 := hj
  have hj' : j = 0 ∨ j = 1 ∨ j = 2 ∨ j = 3 := by omega
  rcases hj' with rfl | rfl | rfl | rfl
  · simp [Sm.le4, go_sem, Addr.add]
  · simp [Sm.le4, go_sem, Addr.add]
  · simp [Sm.le4, go_sem, Addr.add]
  · simp [Sm.le4, go_sem, Addr.add]; omega
namespace Sm
def val4 (l : List UInt8) : Nat := (l.getD 0 0).toNat + 256 * (l.getD 1 0).toNat + 65536 * (l.getD 2 0).toNat + 16777216 * (l.getD 3 0).toNat
theorem val4_lt (l : List UInt8) : val4 l < 4294967296 := by
  have h0 := (l.getD 0 0).toNat_lt
  have h1 := (l.getD 1 0).toNat_lt
  have h2 := (l.getD 2 0).toNat_lt
  have h3 := (l.getD 3 0).toNat_lt
  unfold val4
  omega
theorem val4_le4 {n : Nat} (hn : n < 4294967296) (r : List UInt8) : val4 (le4 n ++ r) = n := by
  unfold val4 le4
  simp
  omega
theorem le4_val4 {l : List UInt8} (h : 4 ≤ l.length) : le4 (val4 l) = l.take 4 := by
  match l, h with
  | a :: b :: c :: d :: r, _ =>
    have h0 := a.toNat_lt
    have h1 := b.toNat_lt
    have h2 := c.toNat_lt
    have h3 := d.toNat_lt
    have hv : val4 (a :: b :: c :: d :: r) = a.toNat + 256 * b.toNat + 65536 * c.toNat + 16777216 * d.toNat := rfl
    have e : ∀ (x : UInt8) (m : Nat), m % 256 = x.toNat → UInt8.ofNat m = x := by
      intro x m hm
      apply UInt8.toNat_inj.1
      rw [ofNat_toNat, hm]
    have e0 := e a (val4 (a :: b :: c :: d :: r)) (by rw [hv]; omega)
    have e1 := e b (val4 (a :: b :: c :: d :: r) / 256) (by rw [hv]; omega)
    have e2 := e c (val4 (a :: b :: c :: d :: r) / 65536) (by rw [hv]; omega)
    have e3 := e d (val4 (a :: b :: c :: d :: r) / 16777216) (by rw [hv]; omega)
    unfold le4
    rw [e0, e1, e2, e3]
    rfl
theorem getD_byte (s : ByteArray) (i : Nat) (h : i < s.size) : s.data.toList.getD i 0 = s[i] := by
  rw [List.getD_eq_getElem?_getD, List.getElem?_eq_getElem (by simpa using h)]
  rfl
theorem or_join {a b : Nat} (i : Nat) (ha : a < 2 ^ i) (hb : b % 2 ^ i = 0) : a ||| b = a + b := by
  rw [Nat.or_comm, nat_join i b a hb ha, Nat.add_comm]
theorem get_val (s : ByteArray) (h0 : 0 < s.size) (h1 : 1 < s.size) (h2 : 2 < s.size) (h3 : 3 < s.size) :
    bits BinOp.or IntKind.u32 (bits BinOp.or IntKind.u32 (bits BinOp.or IntKind.u32 (↑s[0].toNat % 4294967296) (↑s[1].toNat % 4294967296 * 256 % 4294967296)) (↑s[2].toNat % 4294967296 * 65536 % 4294967296))
      (↑s[3].toNat % 4294967296 * 16777216 % 4294967296) = ((val4 s.data.toList : Nat) : Int) := by
  have b0 := s[0].toNat_lt
  have b1 := s[1].toNat_lt
  have b2 := s[2].toNat_lt
  have b3 := s[3].toNat_lt
  have e0 : ((s[0].toNat : Int) % (4294967296 : Int)) = (s[0].toNat : Int) := by omega
  have e1 : ((s[1].toNat : Int) % (4294967296 : Int) * (256 : Int) % (4294967296 : Int)) = ((s[1].toNat * 256 : Nat) : Int) := by omega
  have e2 : ((s[2].toNat : Int) % (4294967296 : Int) * (65536 : Int) % (4294967296 : Int)) = ((s[2].toNat * 65536 : Nat) : Int) := by omega
  have e3 : ((s[3].toNat : Int) % (4294967296 : Int) * (16777216 : Int) % (4294967296 : Int)) = ((s[3].toNat * 16777216 : Nat) : Int) := by omega
  rw [e0, e1, e2, e3, u32_or_nat _ _ (by omega) (by omega), or_join 8 (by omega) (by omega), u32_or_nat _ _ (by omega) (by omega), or_join 16 (by omega) (by omega),
    u32_or_nat _ _ (by omega) (by omega), or_join 24 (by omega) (by omega)]
  unfold val4
  rw [getD_byte s 0 h0, getD_byte s 1 h1, getD_byte s 2 h2, getD_byte s 3 h3]
  congr 1
  omega
end Sm
namespace Sm
/-- The frame at a place of a text, or none: the length's four bytes, the sum's, the body. -/
def nextAt (s : List UInt8) (n : Nat) : Option (List UInt8) :=
  if s.length < n + 8 then none else
  let k := val4 (s.drop n)
  if 65536 < k ∨ s.length < n + 8 + k then none else
  if more (crc ((s.drop n).take 4)) ((s.drop (n + 8)).take k) = val4 (s.drop (n + 4)) then some ((s.drop (n + 8)).take k) else none
end Sm
attribute [local go_sem] bl_imp
end Go.Proofs.Ytdjccepchleacaa
