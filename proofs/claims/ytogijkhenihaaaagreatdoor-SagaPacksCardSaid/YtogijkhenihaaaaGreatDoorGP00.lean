/- Plain laws on sums (CRC-32C, bit by bit and by table) and prints (FNV-1a) over lists of bytes. No program in sight. No condition. -/
namespace Go.Proofs.YtogijkhenihaaaaGreatDoor.Sm
/-- One bit's step of the sum. -/
def step1 (c:Nat):Nat:=if c % 2=1 then c / 2 ^^^ 2197175160 else c / 2
def stepN:Nat→Nat→Nat
 | 0,c=>c
 | k+1,c=>step1 (stepN k c)
def step8 (c:Nat):Nat:=stepN 8 c
/-- One byte's step of the sum. -/
def byte1 (c x:Nat):Nat:=step8 (c ^^^ x)
/-- The register behind a text. -/
def reg (c:Nat) (s:List UInt8):Nat:=s.foldl (fun c x=>byte1 c x.toNat) c
/-- The sum of a text that goes on. -/
def more (c:Nat) (s:List UInt8):Nat:=4294967295 - reg (4294967295 - c) s
def crc (s:List UInt8):Nat:=more 0 s
/-- The print. -/
def print1 (h x:Nat):Nat:=(h ^^^ x) * 1099511628211 % 18446744073709551616
def printOn (h:Nat) (s:List UInt8):Nat:=s.foldl (fun h x=>print1 h x.toNat) h
def print (s:List UInt8):Nat:=printOn 14695981039346656037 s
theorem print1_lt (h x:Nat):print1 h x<18446744073709551616:=Nat.mod_lt _ (by decide)
theorem printOn_lt {h:Nat} (hh:h<18446744073709551616) (s:List UInt8):printOn h s<18446744073709551616:=by
 induction s generalizing h with
 | nil=>exact hh
 | cons x s ih=>exact ih (print1_lt _ _)
theorem printOn_snoc (h:Nat) (s:List UInt8) (x:UInt8):printOn h (s++[x])=print1 (printOn h s) x.toNat:=by
 unfold printOn;rw [List.foldl_append,List.foldl_cons,List.foldl_nil]
end Go.Proofs.YtogijkhenihaaaaGreatDoor.Sm
