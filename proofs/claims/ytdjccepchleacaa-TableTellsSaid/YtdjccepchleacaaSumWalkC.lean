import Derived.Test.YtdjccepchleacaaSumWalkB
set_option linter.unusedVariables false
namespace Go.Proofs.Ytdjccepchleacaa
open Go.RowKit Go.BigFrame
theorem info_u8 : (Try.prog.info? 5).map (fun i => (i.zero, i.size, i.bytes)) = some (some (.int .u8 0), 1, 1) := by kernel_rfl
namespace Sm
def byteV (x : UInt8) : Value := .int .u8 x.toNat
theorem le4_snoc {n k : Nat} (hk : k < 4) : (le4 n).take (k + 1) = (le4 n).take k ++ [UInt8.ofNat (n / 256 ^ k)] := by
  have hk' : k = 0 ∨ k = 1 ∨ k = 2 ∨ k = 3 := by omega
  rcases hk' with rfl | rfl | rfl | rfl <;> simp [le4]
theorem byteV_ofNat (n : Nat) : byteV (UInt8.ofNat n) = .int .u8 ((n : Int) % 256) := by unfold byteV; rw [ofNat_toNat]; rfl
def divs (n k : Nat) : Nat := n / 256 ^ k
theorem divs_succ (n k : Nat) : divs n (k + 1) = divs n k / 256 := by unfold divs; rw [Nat.pow_succ, Nat.div_div_eq_div_mul]
theorem divs_lt {n : Nat} (k : Nat) (h : n < 4294967296) : divs n k < 4294967296 := by
  unfold divs; exact Nat.lt_of_le_of_lt (Nat.div_le_self _ _) h
end Sm
namespace Sm
def xreg (s : ByteArray) (k : Nat) : Nat := reg 4294967295 (s.data.toList.take k)
theorem xreg_lt (s : ByteArray) (k : Nat) : xreg s k < 4294967296 := reg_lt (by omega) _
theorem xreg_succ (s : ByteArray) (k : Nat) (h : k < s.size) : xreg s (k + 1) = stepN 8 (xreg s k ^^^ s[k].toNat) := by
  unfold xreg
  rw [take_snoc s k h, reg_snoc]
  rfl
theorem xreg_all (s : ByteArray) : 4294967295 - xreg s s.size = crc s.data.toList := by
  unfold xreg crc more
  rw [List.take_of_length_le (by simp)]
theorem xor_in {X x : Nat} (hX : X < 4294967296) (hx : x < 256) : bits .xor .u32 (X : Int) (x : Int) = ((X ^^^ x : Nat) : Int) := u32_xor_nat X x hX (by omega)
end Sm
end Go.Proofs.Ytdjccepchleacaa
