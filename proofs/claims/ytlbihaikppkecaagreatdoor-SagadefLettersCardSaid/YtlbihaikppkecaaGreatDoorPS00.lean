/- Plain laws on sums (CRC-32C, bit by bit and by table) and prints (FNV-1a) over lists of bytes. No program in sight. No condition. -/
namespace Go.Proofs.YtlbihaikppkecaaGreatDoor.Sm
/-- One bit's step of the sum. -/
def step1 (c:Nat):Nat:=if c % 2=1 then c / 2 ^^^ 2197175160 else c / 2
def stepN:Nat→Nat→Nat
 | 0,c=>c
 | k+1,c=>step1 (stepN k c)
def step8 (c:Nat):Nat:=stepN 8 c
/-- One byte's step of the sum. -/
def byte1 (c x:Nat):Nat:=step8 (c ^^^ x)
/-- The register behind a text. -/
def reg (c:Nat) (s:List UInt8):Nat:=s.foldl (fun c x=>byte1 c x.toNat) c
/-- The sum of a text that goes on. -/
def more (c:Nat) (s:List UInt8):Nat:=4294967295 - reg (4294967295 - c) s
def crc (s:List UInt8):Nat:=more 0 s
theorem stepN_succ (k c:Nat):stepN (k+1) c=step1 (stepN k c):=rfl
theorem xor_div_two (a b:Nat):(a ^^^ b) / 2=a / 2 ^^^ b / 2:=by
 have:=Nat.shiftRight_xor_distrib (a:=a) (b:=b) (i:=1)
 simpa [Nat.shiftRight_eq_div_pow] using this
theorem xor_mod_two (a b:Nat):(a ^^^ b) % 2=(a % 2+b % 2) % 2:=by
 have h:∀ x y:Nat,x<2→y<2→x ^^^ y=(x+y) % 2:=by
  intro x y hx hy
  have hx':x=0∨x=1:=by omega
  have hy':y=0∨y=1:=by omega
  rcases hx' with rfl | rfl <;> rcases hy' with rfl | rfl <;> rfl
 have h2:=Nat.xor_mod_two_pow (a:=a) (b:=b) (n:=1)
 simp only [Nat.pow_one] at h2
 rw [h2,h _ _ (Nat.mod_lt _ (by decide)) (Nat.mod_lt _ (by decide))]
theorem step1_xor (a b:Nat):step1 (a ^^^ b)=step1 a ^^^ step1 b:=by
 unfold step1
 rw [xor_div_two,xor_mod_two]
 have ha:a % 2=0∨a % 2=1:=by omega
 have hb:b % 2=0∨b % 2=1:=by omega
 rcases ha with ha | ha <;> rcases hb with hb | hb <;> simp [ha,hb]
 ·ac_rfl
 ·ac_rfl
 ·have:∀ p x y:Nat,x ^^^ y=x ^^^ p ^^^ (y ^^^ p):=by
   intro p x y
   have e:x ^^^ p ^^^ (y ^^^ p)=x ^^^ y ^^^ (p ^^^ p):=by ac_rfl
   rw [e,Nat.xor_self,Nat.xor_zero]
  exact this _ _ _
theorem stepN_xor (k a b:Nat):stepN k (a ^^^ b)=stepN k a ^^^ stepN k b:=by
 induction k with
 | zero=>rfl
 | succ k ih=>rw [stepN_succ,ih,step1_xor];rfl
theorem step8_xor (a b:Nat):step8 (a ^^^ b)=step8 a ^^^ step8 b:=stepN_xor 8 a b
theorem step1_even (h:Nat):step1 (2 * h)=h:=by
 unfold step1
 rw [if_neg (by omega)]
 omega
theorem stepN_shift (k h:Nat):stepN k (2 ^ k * h)=h:=by
 induction k generalizing h with
 | zero=>simp [stepN]
 | succ k ih =>
  rw [stepN_succ,show 2 ^ (k+1) * h=2 ^ k * (2 * h) from by rw [Nat.pow_succ];ac_rfl,ih,step1_even]
theorem step8_shift (h:Nat):step8 (256 * h)=h:=stepN_shift 8 h
theorem step1_lt {c:Nat} (h:c<4294967296):step1 c<4294967296:=by
 unfold step1
 split
 ·exact Nat.xor_lt_two_pow (n:=32) (by omega) (by decide)
 ·omega
theorem stepN_lt (k:Nat) {c:Nat} (h:c<4294967296):stepN k c<4294967296:=by
 induction k with
 | zero=>exact h
 | succ k ih=>exact step1_lt ih
theorem step8_lt {c:Nat} (h:c<4294967296):step8 c<4294967296:=stepN_lt 8 h
theorem xor_byte_lt {c x:Nat} (h:c<4294967296) (hx:x<256):c ^^^ x<4294967296:=Nat.xor_lt_two_pow (n:=32) h (by omega)
theorem byte1_lt {c x:Nat} (h:c<4294967296) (hx:x<256):byte1 c x<4294967296:=step8_lt (xor_byte_lt h hx)
theorem reg_lt {c:Nat} (h:c<4294967296) (s:List UInt8):reg c s<4294967296:=by
 induction s generalizing c with
 | nil=>exact h
 | cons x s ih=>exact ih (byte1_lt h x.toNat_lt)
/-- The table's way: the low byte picks a word, the rest is shifted. -/
theorem split_byte (c:Nat):2 ^ 8 * (c / 2 ^ 8) ^^^ c % 2 ^ 8=c:=by
 apply Nat.eq_of_testBit_eq
 intro i
 rw [Nat.testBit_xor,Nat.testBit_two_pow_mul,Nat.testBit_mod_two_pow,Nat.testBit_div_two_pow]
 by_cases hi:i<8
 ·have h:¬8≤i:=by omega
  simp [hi,h]
 ·have h:8≤i:=by omega
  have e:i - 8+8=i:=by omega
  simp [hi,h,e]
theorem byte1_table (c x:Nat):byte1 c x=c / 256 ^^^ step8 (c % 256 ^^^ x):=by
 unfold byte1
 have h1:c ^^^ x=256 * (c / 256) ^^^ (c % 256 ^^^ x):=by
  have h:256 * (c / 256) ^^^ c % 256=c:=split_byte c
  rw [←Nat.xor_assoc,h]
 rw [h1,step8_xor,step8_shift]
theorem reg_snoc (c:Nat) (s:List UInt8) (x:UInt8):reg c (s++[x])=byte1 (reg c s) x.toNat:=by
 unfold reg;rw [List.foldl_append,List.foldl_cons,List.foldl_nil]
theorem more_lt (c:Nat) (s:List UInt8):more c s<4294967296:=by unfold more;omega
theorem crc_lt (s:List UInt8):crc s<4294967296:=more_lt 0 s
/-- The print. -/
def print1 (h x:Nat):Nat:=(h ^^^ x) * 1099511628211 % 18446744073709551616
def printOn (h:Nat) (s:List UInt8):Nat:=s.foldl (fun h x=>print1 h x.toNat) h
def print (s:List UInt8):Nat:=printOn 14695981039346656037 s
theorem print1_lt (h x:Nat):print1 h x<18446744073709551616:=Nat.mod_lt _ (by decide)
theorem printOn_lt {h:Nat} (hh:h<18446744073709551616) (s:List UInt8):printOn h s<18446744073709551616:=by
 induction s generalizing h with
 | nil=>exact hh
 | cons x s ih=>exact ih (print1_lt _ _)
theorem print_lt (s:List UInt8):print s<18446744073709551616:=printOn_lt (by decide) s
theorem printOn_snoc (h:Nat) (s:List UInt8) (x:UInt8):printOn h (s++[x])=print1 (printOn h s) x.toNat:=by
 unfold printOn;rw [List.foldl_append,List.foldl_cons,List.foldl_nil]
end Go.Proofs.YtlbihaikppkecaaGreatDoor.Sm
