/- No condition. -/
import Derived.Test.YtlbihaikppkecaaGreatDoorPS00
import Derived.Test.YtlbihaikppkecaaGreatDoorPS01
import Derived.Test.YtlbihaikppkecaaGreatDoorPS02
import Derived.Test.YtlbihaikppkecaaGreatDoorPS03
import Derived.Deep.RegionHeld3
import Derived.Lib.ItoaMem
set_option linter.unusedVariables false
namespace Go.Proofs.YtlbihaikppkecaaGreatDoor
open Go.RowKit
namespace Sm
def row0:Array Value:=Array.replicate 256 (.int .u32 0)
theorem row0_size:row0.size=256:=by simp [row0]
theorem and1 {x:Nat} (h:x<4294967296):bits .and .u32 (x:Int) 1=((x % 2:Nat):Int):=by
 have:=u32_and_nat x 1 h (by omega)
 rw [nat_mask1] at this
 exact this
theorem xorP {x:Nat} (h:x<4294967296):bits .xor .u32 ((x:Int) / 2) 2197175160=((x / 2 ^^^ 2197175160:Nat):Int):=u32_xor_nat (x / 2) 2197175160 (by omega) (by omega)
theorem step_odd {j k:Nat} (hc:stepN j k<4294967296) (hb:stepN j k % 2=1):Value.int IntKind.u32 (bits BinOp.xor IntKind.u32 (↑(stepN j k) / 2) 2197175160)=Value.int IntKind.u32 ↑(stepN (j+1) k):=by
 rw [xorP hc,stepN_succ,step1,if_pos hb]
theorem step_even {j k:Nat} (hb:¬stepN j k % 2=1):Value.int IntKind.u32 (↑(stepN j k) / 2)=Value.int IntKind.u32 ↑(stepN (j+1) k):=by
 rw [stepN_succ,step1,if_neg hb];rfl
def cellT (k i:Nat):Value:=if i<k then .int .u32 (step8 i) else .int .u32 0
theorem cellT_set (k i:Nat):(if i=k then Value.int .u32 ↑(stepN 8 k) else cellT k i)=cellT (k+1) i:=by
 unfold cellT
 by_cases h:i=k
 ·subst h;simp [step8]
 ·by_cases h2:i<k
  ·rw [if_neg h,if_pos h2,if_pos (by omega)]
  ·rw [if_neg h,if_neg h2,if_neg (by omega)]
end Sm
theorem zero55 (w:World):Sem.run Tryz.prog (zeroValue 141) w=.ok (.agg Sm.row0) w:=by kernel_rfl
theorem row0_is (w:World):(w.alloc (.cells Sm.row0 141)).rowIs w.heap.size 141 256 (Sm.cellT 0):=by
 have:=World.rowIs_alloc w Sm.row0 141 (Sm.cellT 0) (fun i hi=>by
  rw [Sm.row0_size] at hi
  simp [Sm.row0,Sm.cellT,hi])
 rwa [Sm.row0_size] at this
set_option maxRecDepth 100000 in
set_option maxHeartbeats 400000 in
theorem table_any (w:World) :
  Calls Tryz.prog 63 #[] w fun e w'=>e=.returned (.pointer (some ⟨w.heap.size,0,none⟩))∧w'.rowIs w.heap.size 141 256 (Sm.cellT 256)∧Below w.heap.size w w':=by
 have hz:=zero55
 have H0:=Lib.hid (row0_is w)
 have B0:Below w.heap.size w (w.alloc (.cells Sm.row0 141)):=by go_grown
 go_enter Tryz.func63,Tryz.ntmps63
 go_wp2
 clear hz
 go_loopw [4] (fun i wr=>∃ k:Nat,k≤256∧i=.int .i64 k∧Hid (wr.rowIs w.heap.size 141 256 (Sm.cellT k))∧Below w.heap.size w wr) (fun i _=>(256:Nat) - (intOf i).toNat)
 case atStart=>exact ⟨0,by omega,rfl,H0,B0⟩
 case round =>
  obtain ⟨k,hk,rfl,HR,HB⟩:=hrel
  clear H0 B0
  by_cases hlt:k<256
  ·go_wp2
   go_loop [3,9] (fun c i=>∃ j:Nat,j≤8∧i=.int .i64 j∧c=.int .u32 (Sm.stepN j k)) (fun _ i=>8 - (intOf i).toNat)
   case atStart=>exact ⟨0,by omega,rfl,rfl⟩
   case round =>
    obtain ⟨j,hj,rfl,rfl⟩:=hrel
    have hc:=Sm.stepN_lt j (c:=k) (by omega)
    by_cases hjl:j<8
    ·by_cases hb:Sm.stepN j k % 2=1
     ·have ht:(bits BinOp.and IntKind.u32 ↑(Sm.stepN j k) 1==1)=true:=by rw [Sm.and1 hc,hb];rfl
      have HS:=Lib.hid (Sm.step_odd hc hb)
      clear hb
      go_wp2
      go_round
      case rel=>exact ⟨j+1,by omega,by go_num,HS.out⟩
      case measure=>simp [intOf];omega
     ·have ht:(bits BinOp.and IntKind.u32 ↑(Sm.stepN j k) 1==1)=false:=by
       rw [Sm.and1 hc,show Sm.stepN j k % 2=0 from by omega];rfl
      have HS:=Lib.hid (Sm.step_even hb)
      clear hb
      go_wp2
      go_round
      case rel=>exact ⟨j+1,by omega,by go_num,HS.out⟩
      case measure=>simp [intOf];omega
    ·obtain rfl:j=8:=by omega
     clear hjl
     have hcell:=HR.out.cell hlt
     have hfr:=HR.out.frozen k
     go_wp2
     go_round
     case rel =>
      refine ⟨k+1,by omega,by go_num,(HR.out.set k _).congr ?_,HB.setCell (Nat.le_refl _) _⟩
      intro i hi
      exact Sm.cellT_set k i
     case measure=>simp [intOf];omega
  ·obtain rfl:k=256:=by omega
   clear hlt
   go_wp2
   go_ret
   exact ⟨rfl,HR.out,HB⟩
namespace Sm
def inv (c:Nat):Nat:=4294967295 - c
theorem inv_lt {c:Nat}:inv c<4294967296:=by unfold inv;omega
theorem xor_inv {c:Nat} (h:c<4294967296):bits .xor .u32 IntKind.u32.max (c:Int)=((inv c:Nat):Int):=by
 have:=u32_xor_nat 4294967295 c (by omega) h
 have e:(4294967295:Nat) ^^^ c=4294967295 - c:=by
  have:=BitVec.allOnes_xor (x:=BitVec.ofNat 32 c)
  have h2:=congrArg BitVec.toNat this
  simp only [BitVec.toNat_xor,BitVec.toNat_allOnes,BitVec.toNat_ofNat,BitVec.toNat_not] at h2
  rw [Nat.mod_eq_of_lt h] at h2
  exact h2
 rw [e] at this
 exact this
def regTo (c:Nat) (s:ByteArray) (k:Nat):Nat:=reg (inv c) (s.data.toList.take k)
theorem regTo_lt (c:Nat) (s:ByteArray) (k:Nat):regTo c s k<4294967296:=reg_lt inv_lt _
theorem regTo_succ (c:Nat) (s:ByteArray) (k:Nat) (h:k<s.size):regTo c s (k+1)=regTo c s k / 256 ^^^ step8 (regTo c s k % 256 ^^^ s[k].toNat):=by
 unfold regTo
 rw [take_snoc s k h,reg_snoc,byte1_table]
theorem regTo_all (c:Nat) (s:ByteArray):inv (regTo c s s.size)=more c s.data.toList:=by
 unfold regTo more inv
 rw [List.take_of_length_le (by simp)]
def pick (X x:Nat):Nat:=X % 256 ^^^ x
theorem pick_lt {X x:Nat} (hx:x<256):pick X x<256:=Nat.xor_lt_two_pow (n:=8) (by omega) (by omega)
theorem xor_pick {X x:Nat} (hx:x<256):bits .xor .u8 ((X:Int) % 256) (x:Int)=((pick X x:Nat):Int):=u8_xor_nat (X % 256) x (by omega) hx
def next (X x:Nat):Nat:=X / 256 ^^^ step8 (X % 256 ^^^ x)
theorem xor_next {X x:Nat} (hX:X<4294967296) (hx:x<256):bits .xor .u32 ((X:Int) / 256) ((step8 (pick X x):Nat):Int)=((next X x:Nat):Int) :=
 u32_xor_nat (X / 256) (step8 (pick X x)) (by omega) (step8_lt (by have:=@pick_lt X x hx;omega))
end Sm
set_option maxRecDepth 100000 in
set_option maxHeartbeats 400000 in
theorem more_any (c:Nat) (hc:c<4294967296) (s:ByteArray) (hs:s.size≤maxLen) (w:World) :
  Calls Tryz.prog 47 #[.int .u32 c,.string s] w fun e w'=>e=.returned (.int .u32 (Sm.more c s.data.toList))∧Below w.heap.size w w':=by
 unfold maxLen at hs
 have hinv:=Sm.xor_inv hc
 go_enter Tryz.func47,Tryz.ntmps47
 go_wp2_with fail
 refine (table_any w).mono ?_
 rintro e w1 ⟨rfl,hr,hb⟩
 have HR:=Lib.hid hr
 clear hr
 go_wp2_with fail
 go_loopw [0,12] (fun r i wr=>∃ k:Nat,k≤s.size∧i=.int .i64 k∧r=.int .u32 (Sm.regTo c s k)∧Hid (wr.rowIs w.heap.size 141 256 (Sm.cellT 256))∧Below w.heap.size w wr) (fun _ i _=>s.size - (intOf i).toNat)
 case atStart=>exact ⟨0,by omega,rfl,rfl,HR,hb⟩
 case round =>
  obtain ⟨k,hk,rfl,rfl,HR2,hb2⟩:=hrel
  clear HR hb
  have hR:=Sm.regTo_lt c s k
  by_cases hlt:k<s.size
  ·have HS:=Lib.hid (Sm.regTo_succ c s k hlt)
   have hx:s[k].toNat<256:=s[k].toNat_lt
   have hp:=Sm.pick_lt (X:=Sm.regTo c s k) hx
   have e1:=Sm.xor_pick (X:=Sm.regTo c s k) hx
   have e2:=Sm.xor_next hR hx
   have hcell:=HR2.out.cell hp
   have hcT:Sm.cellT 256 (Sm.pick (Sm.regTo c s k) s[k].toNat)=.int .u32 (Sm.step8 (Sm.pick (Sm.regTo c s k) s[k].toNat)):=by unfold Sm.cellT;rw [if_pos hp]
   rw [hcT] at hcell
   clear hcT
   go_wp2
   go_quiet (fail)
   go_wp2
   go_roundw
   case rel=>exact ⟨k+1,by omega,by go_num,by rw [HS.out];rfl,HR2,below_drewN hb2 _⟩
   case measure=>simp [intOf];omega
  ·obtain rfl:k=s.size:=by omega
   have hinv2:=Sm.xor_inv hR
   have HA:=Lib.hid (Sm.regTo_all c s)
   clear hlt
   go_wp2
   go_ret
   exact ⟨by rw [HA.out];rfl,hb2⟩
end Go.Proofs.YtlbihaikppkecaaGreatDoor
set_option linter.unusedVariables false
namespace Go.Proofs.YtlbihaikppkecaaGreatDoor
open Go.BigFrame
open Go.RowKit
theorem more_int (c:Int) (h0:0≤c) (hc:c<4294967296) (s:ByteArray) (hs:s.size≤maxLen) (w:World) :
  Calls Tryz.prog 47 #[.int .u32 c,.string s] w fun e w'=>e=.returned (.int .u32 (Sm.more c.toNat s.data.toList))∧Below w.heap.size w w':=by
 obtain ⟨n,rfl⟩:=Int.eq_ofNat_of_zero_le h0
 rw [Int.toNat_natCast]
 exact more_any n (by omega) s hs w
set_option maxHeartbeats 400000 in
theorem crc_any (s:ByteArray) (hs:s.size≤maxLen) (w:World) :
  Calls Tryz.prog 38 #[.string s] w fun e w'=>e=.returned (.int .u32 (Sm.crc s.data.toList))∧Below w.heap.size w w':=by
 go_enter Tryz.func38,Tryz.ntmps38
 go_wp2_with fail
 refine (more_int _ (by omega) (by omega) _ hs _).mono ?_
 rintro e w1 ⟨rfl,hb⟩
 go_wp2
 go_ret
 exact ⟨rfl,hb⟩
namespace Sm
end Sm
namespace Sm
end Sm
namespace Sm
end Sm
namespace Sm
end Sm
end Go.Proofs.YtlbihaikppkecaaGreatDoor
set_option linter.unusedVariables false
namespace Go.Proofs.YtlbihaikppkecaaGreatDoor
open Go.RowKit Go.BigFrame
theorem info_u8:(Tryz.prog.info? 5).map (fun i=>(i.zero,i.size,i.bytes))=some (some (.int .u8 0),1,1):=by kernel_rfl
namespace Sm
def byteV (x:UInt8):Value:=.int .u8 x.toNat
theorem le4_snoc {n k:Nat} (hk:k<4):(le4 n).take (k+1)=(le4 n).take k++[UInt8.ofNat (n / 256 ^ k)]:=by
 have hk':k=0∨k=1∨k=2∨k=3:=by omega
 rcases hk' with rfl | rfl | rfl | rfl <;> simp [le4]
theorem byteV_ofNat (n:Nat):byteV (UInt8.ofNat n)=.int .u8 ((n:Int) % 256):=by unfold byteV;rw [ofNat_toNat];rfl
end Sm
namespace Sm
end Sm
end Go.Proofs.YtlbihaikppkecaaGreatDoor
set_option linter.unusedVariables false
namespace Go.Proofs.YtlbihaikppkecaaGreatDoor
namespace Ev
/-- A number's bytes, seven bits a byte. -/
def varF:Nat→Nat→List UInt8
 | 0,x=>[UInt8.ofNat x]
 | f+1,x=>if x<128 then [UInt8.ofNat x] else UInt8.ofNat (x % 128+128)::varF f (x / 128)
def var (x:Nat):List UInt8:=varF 9 x
/-- A number's lowest bytes, the highest one first. -/
def big (x:Nat):Nat→List UInt8
 | 0=>[]
 | n+1=>UInt8.ofNat (x / 256 ^ n)::big x n
def txt (s:ByteArray):List UInt8:=var s.size++s.data.toList
structure Letter where
 kind:Nat
 from_:Int
 to_:Int
 seq:Nat
 key:ByteArray
 print:Nat
 svc:ByteArray
 mth:ByteArray
 code:Int
 body:ByteArray
def Letter.zero:Letter:=⟨0,0,0,0,ByteArray.empty,0,ByteArray.empty,ByteArray.empty,0,ByteArray.empty⟩
def Letter.cells (l:Letter):List Value:=[.int .u8 l.kind,.int .i64 l.from_,.int .i64 l.to_,.int .u64 l.seq,.string l.key,.int .u64 l.print,.string l.svc,.string l.mth,.int .i64 l.code,.string l.body]
def Letter.val (l:Letter):Value:=.agg #[.int .u8 l.kind,.int .i64 l.from_,.int .i64 l.to_,.int .u64 l.seq,.string l.key,.int .u64 l.print,.string l.svc,.string l.mth,.int .i64 l.code,.string l.body]
/-- Its numbers are such as their kinds hold. -/
def Letter.ok (l:Letter):Prop:=l.kind<256∧l.seq<18446744073709551616∧l.print<18446744073709551616
def peer (n:Int):Bool:=decide (0≤n)&&decide (n<4)
/-- Is a letter right? -/
def right (l:Letter):Bool :=
 peer l.from_&&peer l.to_&&decide (1≤l.key.size)&&decide (l.key.size≤64)&&decide (l.body.size≤4096) &&
 (if l.kind=1∨l.kind=3 then Tk.isName l.svc&&Tk.isName l.mth&&decide (l.code=0)&&(decide (l.kind=1)||l.body.toList.isEmpty)
  else if l.kind=2∨l.kind=4 then l.svc.toList.isEmpty&&l.mth.toList.isEmpty&&decide (0≤l.code)&&decide (l.code≤999) else false)
/-- A letter's bytes without the sum. -/
def head (l:Letter):List UInt8 :=
 [UInt8.ofNat l.kind,UInt8.ofNat l.from_.toNat,UInt8.ofNat l.to_.toNat]++var l.seq++txt l.key++big l.print 8++txt l.svc++txt l.mth++var l.code.toNat++txt l.body
def bytes (l:Letter):List UInt8:=head l++Sm.le4 (Sm.crc (head l))
def pack (l:Letter):ByteArray × Nat:=if right l then (⟨(bytes l).toArray⟩,0) else (ByteArray.empty,1)
theorem big_len (x:Nat):∀ n,(big x n).length=n
 | 0=>rfl
 | n+1=>by simp [big,big_len x n]
theorem varF_len:∀ f x,1≤(varF f x).length∧(varF f x).length≤f+1
 | 0,x=>by simp [varF]
 | f+1,x=>by
  have:=varF_len f (x / 128)
  unfold varF
  split
  ·simp
  ·simp only [List.length_cons];omega
theorem var_len (x:Nat):1≤(var x).length∧(var x).length≤10:=varF_len 9 x
end Ev
end Go.Proofs.YtlbihaikppkecaaGreatDoor
set_option linter.unusedVariables false
namespace Go.Proofs.YtlbihaikppkecaaGreatDoor
namespace Id
abbrev St:=List Tk.Tok × Bool
def is (s:St) (text:ByteArray):Bool:=!s.2&&(match s.1 with
 | []=>false
 | t::_=>!(t.kind==2)&&(t.text.toList==text.toList))
def take (s:St) (text:ByteArray):Bool × St:=if is s text then (true,(s.1.tail,s.2)) else (false,s)
def want (s:St) (text:ByteArray):St:=if is s text then (s.1.tail,s.2) else (s.1,true)
def one (s:St) (kind:Nat) (right:Tk.Tok→Bool):Tk.Tok × St:=match s with
 | (t::r,false)=>if t.kind=kind∧right t=true then (t,(r,false)) else (⟨0,⟨#[]⟩,0,0⟩,(t::r,true))
 | (l,_)=>(⟨0,⟨#[]⟩,0,0⟩,(l,true))
end Id
end Go.Proofs.YtlbihaikppkecaaGreatDoor
set_option linter.unusedVariables false
set_option linter.unusedSimpArgs false
namespace Go.Proofs.YtlbihaikppkecaaGreatDoor
open Go.RowKit
/-- A block of tokens. -/
def Id.Typed (w:World) (g:Nat):Prop:=∃ cs fr,w.heap[g]?=some (.cells cs 113 fr)
theorem Id.Typed.lt {w:World} {g:Nat} (h:Id.Typed w g):g<w.heap.size:=by
 obtain ⟨cs,fr,h⟩:=h
 exact (Array.getElem?_eq_some_iff.1 h).1
theorem Id.Typed.below {w w':World} {g:Nat} (h:Id.Typed w g) (hb:Below w.heap.size w w'):Id.Typed w' g:=by
 have hl:=h.lt
 obtain ⟨cs,fr,h⟩:=h
 exact ⟨cs,fr,(hb.block g hl).trans h⟩
theorem Id.is_cons {s:Id.St} {text:ByteArray} (h:Id.is s text=true):∃ t r,s=(t::r,false):=by
 obtain ⟨l,bad⟩:=s
 cases bad
 ·cases l with
  | nil=>cases h
  | cons t r=>exact ⟨t,r,rfl⟩
 ·cases h
end Go.Proofs.YtlbihaikppkecaaGreatDoor
set_option linter.unusedVariables false
set_option linter.unusedSimpArgs false
namespace Go.Proofs.YtlbihaikppkecaaGreatDoor
open Go.RowKit
end Go.Proofs.YtlbihaikppkecaaGreatDoor
set_option linter.unusedVariables false
set_option linter.unusedSimpArgs false
namespace Go.Proofs.YtlbihaikppkecaaGreatDoor
open Go.RowKit
def Id.name (s:Id.St):ByteArray × Id.St:=((Id.one s 1 (fun t=>Tk.isName t.text)).1.text,(Id.one s 1 (fun t=>Tk.isName t.text)).2)
/-- What a word that ends a type says. -/
def Id.endW (s:ByteArray):Nat:=if s.toList=[110,111,110,101] then 1 else if s.toList=[98,111,111,108] then 2 else if s.toList=[105,110,116] then 3 else if s.toList=[116,101,120,116] then 4 else 0
end Go.Proofs.YtlbihaikppkecaaGreatDoor
set_option linter.unusedVariables false
set_option linter.unusedSimpArgs false
namespace Go.Proofs.YtlbihaikppkecaaGreatDoor
open Go.RowKit
def Id.among (some:List ByteArray) (t:Tk.Tok):Bool:=some.any fun x=>t.text.toList==x.toList
end Go.Proofs.YtlbihaikppkecaaGreatDoor
set_option linter.unusedVariables false
set_option linter.unusedSimpArgs false
namespace Go.Proofs.YtlbihaikppkecaaGreatDoor
open Go.RowKit
end Go.Proofs.YtlbihaikppkecaaGreatDoor
set_option linter.unusedVariables false
set_option linter.unusedSimpArgs false
namespace Go.Proofs.YtlbihaikppkecaaGreatDoor
open Go.RowKit
end Go.Proofs.YtlbihaikppkecaaGreatDoor
set_option linter.unusedVariables false
set_option linter.unusedSimpArgs false
namespace Go.Proofs.YtlbihaikppkecaaGreatDoor
open Go.RowKit
def Id.words (ws:List ByteArray) (s:Id.St):ByteArray × Id.St:=((Id.one s 1 (Id.among ws)).1.text,(Id.one s 1 (Id.among ws)).2)
end Go.Proofs.YtlbihaikppkecaaGreatDoor
set_option linter.unusedVariables false
set_option linter.unusedSimpArgs false
namespace Go.Proofs.YtlbihaikppkecaaGreatDoor
open Go.RowKit
theorem Tk.KW.grown {w w':World} {b:Nat} (h:Tk.KW w) (hg:w.grownBy w' (some b)) (hb:1<b):Tk.KW w' :=
 ⟨Nat.lt_of_lt_of_le h.1 hg.size,fun j hj=>(World.cell?_of_block (hg.block 1 h.1 (by intro e;injection e with e;omega))).trans (h.2 j hj)⟩
namespace Id
structure Srt where
 kind:Nat
 name:ByteArray
def Srt.cells (x:Srt):List Value:=[.int .u8 x.kind,.string x.name]
def SortE (w:World) (cs:List Value) (x:Srt):Prop:=cs=x.cells
def SortsR (w:World) (B:Option Nat) (v:Value) (l:List Srt):Prop:=ERow w B 59 2 SortE v l
def wList:ByteArray:=⟨#[108,105,115,116]⟩
def wOpt:ByteArray:=⟨#[111,112,116]⟩
def ends (s:St):Bool:=match s.1 with
 | []=>false
 | t::_=>(t.kind==1)&&!(endW t.text==0)
def head (s:St):ByteArray:=match s.1 with
 | []=>⟨#[]⟩
 | t::_=>t.text
def sortsF:Nat→St→List Srt→List Srt × St
 | 0,s,acc=>([],s)
 | f+1,s,acc=>if s.2 then ([],s) else
  if is s wList then sortsF f (s.1.tail,s.2) (acc++[⟨5,⟨#[]⟩⟩]) else
  if is s wOpt then sortsF f (s.1.tail,s.2) (acc++[⟨6,⟨#[]⟩⟩]) else
  if ends s then (acc++[⟨endW (head s),⟨#[]⟩⟩],(s.1.tail,s.2)) else
  (acc++[⟨7,(name s).1⟩],(name s).2)
def sorts (s:St):List Srt × St:=sortsF (s.1.length+1) s []
end Id
theorem Id.info_sort:(Tryz.prog.info? 59).map (fun i=>(i.zero,i.size,i.bytes))=some (some (.agg #[.int .u8 0,.string ByteArray.empty]),2,24):=by kernel_rfl
end Go.Proofs.YtlbihaikppkecaaGreatDoor
set_option linter.unusedVariables false
set_option linter.unusedSimpArgs false
namespace Go.Proofs.YtlbihaikppkecaaGreatDoor
open Go.RowKit
namespace Id
structure Fld where
 name:ByteArray
 type:List Srt
def FldE (B:Option Nat) (w:World) (cs:List Value) (x:Fld):Prop:=∃ u,cs=[.string x.name,u]∧SortsR w B u x.type
def FldsR (w:World) (B:Option Nat) (v:Value) (l:List Fld):Prop:=ERow w B 57 2 (FldE B) v l
def sColon:ByteArray:=⟨#[58]⟩
def sSemi:ByteArray:=⟨#[59]⟩
def field (s:St):Fld × St:=(⟨(name s).1,(sorts (want (name s).2 sColon)).1⟩,want (sorts (want (name s).2 sColon)).2 sSemi)
theorem one_le (s:St) (k:Nat) (p:Tk.Tok→Bool):(one s k p).2.1.length≤s.1.length:=by
 obtain ⟨l,bad⟩:=s
 unfold one
 split
 ·rename_i h;injection h with h1 h2;subst h1
  split <;> simp
 ·rename_i h;injection h with h1 h2;subst h1;simp
theorem name_le (s:St):(name s).2.1.length≤s.1.length:=one_le s _ _
theorem want_le (s:St) (x:ByteArray):(want s x).1.length≤s.1.length:=by
 unfold want;split <;> simp
theorem take_le (s:St) (x:ByteArray):(take s x).2.1.length≤s.1.length:=by
 unfold take;split <;> simp
theorem sortsF_le:∀ (f:Nat) (s:St) (acc:List Srt),(sortsF f s acc).2.1.length≤s.1.length
 | 0,s,acc=>Nat.le_refl _
 | f+1,s,acc=>by
  unfold sortsF
  split
  ·exact Nat.le_refl _
  ·split
   ·exact Nat.le_trans (sortsF_le f _ _) (by simp)
   ·split
    ·exact Nat.le_trans (sortsF_le f _ _) (by simp)
    ·split
     ·simp
     ·exact name_le s
theorem sorts_le (s:St):(sorts s).2.1.length≤s.1.length:=sortsF_le _ _ _
theorem field_le (s:St):(field s).2.1.length≤s.1.length:=Nat.le_trans (want_le _ _) (Nat.le_trans (sorts_le _) (Nat.le_trans (want_le _ _) (name_le _)))
end Id
end Go.Proofs.YtlbihaikppkecaaGreatDoor
set_option linter.unusedVariables false
set_option linter.unusedSimpArgs false
namespace Go.Proofs.YtlbihaikppkecaaGreatDoor
open Go.RowKit
namespace Id.PW
end Id.PW
/-- A block of the call's own, behind a call. -/
theorem Bk.call {w w':World} {b g:Nat} {t:TypeId} {cs:Array Value} (h:Bk w g t cs) (hg:w.grownBy w' (some b)) (hb:b<g):Bk w' g t cs:=h.grown hg (by intro e;injection e with e;omega)
namespace Id
def sOpen:ByteArray:=⟨#[40]⟩
def sClose:ByteArray:=⟨#[41]⟩
def arg (s:St):ByteArray × St:=((name (want s sOpen)).1,want (name (want s sOpen)).2 sClose)
theorem arg_le (s:St):(arg s).2.1.length≤s.1.length:=Nat.le_trans (want_le _ _) (Nat.le_trans (name_le _) (want_le _ _))
structure Stp where
 service:ByteArray
 method:ByteArray
 at_:Int
def Stp.cells (x:Stp):List Value:=[.string x.service,.string x.method,.int .i64 x.at_]
def StpE (w:World) (cs:List Value) (x:Stp):Prop:=cs=x.cells
def wDo:ByteArray:=⟨#[100,111]⟩
def sDot:ByteArray:=⟨#[46]⟩
def wAt:ByteArray:=⟨#[97,116]⟩
def num (s:St):Nat × St:=((one s 2 (fun _=>true)).1.num,(one s 2 (fun _=>true)).2)
def step (s:St):Stp × St :=
 let a:=name (want s wDo)
 let c:=name (want a.2 sDot)
 let d:=num (want c.2 wAt)
 (⟨a.1,c.1,d.1⟩,want d.2 sSemi)
theorem num_le (s:St):(num s).2.1.length≤s.1.length:=one_le s _ _
theorem step_le (s:St):(step s).2.1.length≤s.1.length:=Nat.le_trans (want_le _ _) (Nat.le_trans (num_le _) (Nat.le_trans (want_le _ _) (Nat.le_trans (name_le _) (Nat.le_trans (want_le _ _) (Nat.le_trans (name_le _) (want_le _ _))))))
end Id
end Go.Proofs.YtlbihaikppkecaaGreatDoor
set_option linter.unusedVariables false
set_option linter.unusedSimpArgs false
namespace Go.Proofs.YtlbihaikppkecaaGreatDoor
open Go.RowKit
namespace Id
structure Mth where
 name:ByteArray
 arg:ByteArray
 result:Nat
 effect:ByteArray
 undo:ByteArray
def Mth.cells (x:Mth):List Value:=[.string x.name,.string x.arg,.int .u8 x.result,.string x.effect,.string x.undo]
def MthE (w:World) (cs:List Value) (x:Mth):Prop:=cs=x.cells
def wGive:ByteArray:=⟨#[103,105,118,101]⟩
def wTake:ByteArray:=⟨#[116,97,107,101]⟩
def wNote:ByteArray:=⟨#[110,111,116,101]⟩
def wInt:ByteArray:=⟨#[105,110,116]⟩
def wNone:ByteArray:=⟨#[110,111,110,101]⟩
def wUndo:ByteArray:=⟨#[117,110,100,111]⟩
def sArrow:ByteArray:=⟨#[45,62]⟩
def method (s:St):Mth × St :=
 let a:=words [wGive,wTake,wNote] s
 let b:=name a.2
 let c:=arg b.2
 let d:=words [wInt,wNone] (want c.2 sArrow)
 let t:=take d.2 wUndo
 let u:=if t.1 then name t.2 else (⟨#[]⟩,t.2)
 (⟨b.1,c.1,endW d.1,a.1,u.1⟩,want u.2 sSemi)
theorem words_le (ws:List ByteArray) (s:St):(words ws s).2.1.length≤s.1.length:=one_le s _ _
theorem method_le (s:St):(method s).2.1.length≤s.1.length:=by
 unfold method
 dsimp only
 have h1:=words_le [wGive,wTake,wNote] s
 generalize words [wGive,wTake,wNote] s=a at *
 have h2:=name_le a.2
 generalize name a.2=b at *
 have h3:=arg_le b.2
 generalize arg b.2=c at *
 have h4:=want_le c.2 sArrow
 generalize want c.2 sArrow=s4 at *
 have h5:=words_le [wInt,wNone] s4
 generalize words [wInt,wNone] s4=d at *
 have h6:=take_le d.2 wUndo
 generalize take d.2 wUndo=t at *
 have h7:=name_le t.2
 refine Nat.le_trans (want_le _ _) ?_
 split
 ·omega
 ·simp only
  omega
end Id
end Go.Proofs.YtlbihaikppkecaaGreatDoor
set_option linter.unusedVariables false
set_option linter.unusedSimpArgs false
namespace Go.Proofs.YtlbihaikppkecaaGreatDoor
open Go.RowKit
namespace Id
def sLeft:ByteArray:=⟨#[123]⟩
def sRight:ByteArray:=⟨#[125]⟩
def withinF {α:Type} (read:St→α × St):Nat→St→List α→List α × St
 | 0,s,acc=>(acc,s)
 | f+1,s,acc=>if s.2 then (acc,s) else if is s sRight then (acc,(s.1.tail,s.2)) else withinF read f (read s).2 (if (read s).2.2 then acc else acc++[(read s).1])
def within {α:Type} (read:St→α × St) (s:St):List α × St:=withinF read ((want s sLeft).1.length+2) (want s sLeft) []
theorem one_good {s:St} {k:Nat} {p:Tk.Tok→Bool} (h:(one s k p).2.2=false):s.2=false∧(one s k p).2.1.length+1=s.1.length:=by
 obtain ⟨l,bad⟩:=s
 cases bad
 ·cases l with
  | nil=>cases h
  | cons t r =>
   unfold one at h ⊢
   by_cases hc:t.kind=k∧p t=true
   ·simp only [if_pos hc];simp
   ·simp only [if_neg hc] at h;cases h
 ·cases l <;> cases h
theorem name_good {s:St} (h:(name s).2.2=false):s.2=false∧(name s).2.1.length+1=s.1.length:=one_good h
theorem want_good {s:St} {x:ByteArray} (h:(want s x).2=false):s.2=false∧(want s x).1.length+1=s.1.length:=by
 unfold want at h ⊢
 by_cases hi:is s x=true
 ·obtain ⟨t,r,rfl⟩:=is_cons hi
  simp only [if_pos hi] at h ⊢
  simp
 ·simp only [if_neg hi] at h;cases h
theorem sortsF_good:∀ (f:Nat) (s:St) (acc:List Srt),s.1.length<f→(sortsF f s acc).2.2=false→s.2=false
 | 0,s,acc,hf,h=>by omega
 | f+1,s,acc,hf,h=>by
  obtain ⟨l,bad⟩:=s
  cases bad
  ·rfl
  ·simp [sortsF] at h
theorem sorts_good {s:St} (h:(sorts s).2.2=false):s.2=false:=sortsF_good _ _ _ (Nat.lt_succ_self _) h
theorem field_good {s:St} (h:(field s).2.2=false):(field s).2.1.length<s.1.length:=by
 have h1:=want_good h
 have h2:=sorts_good h1.1
 have h3:=want_good h2
 have h4:=name_good h3.1
 have h5:=sorts_le (want (name s).2 sColon)
 have e:(field s).2=want (sorts (want (name s).2 sColon)).2 sSemi:=rfl
 rw [e]
 omega
theorem step_good {s:St} (h:(step s).2.2=false):(step s).2.1.length<s.1.length:=by
 have h1:=want_good (s:=(num (want (name (want (name (want s wDo)).2 sDot)).2 wAt)).2) h
 have h2:=num_le (want (name (want (name (want s wDo)).2 sDot)).2 wAt)
 have h3:=want_le (name (want (name (want s wDo)).2 sDot)).2 wAt
 have h4:=name_le (want (name (want s wDo)).2 sDot)
 have h5:=want_le (name (want s wDo)).2 sDot
 have h6:=name_le (want s wDo)
 have h7:=want_le s wDo
 have e:(step s).2=want (num (want (name (want (name (want s wDo)).2 sDot)).2 wAt)).2 sSemi:=rfl
 rw [e]
 omega
theorem method_good {s:St} (h:(method s).2.2=false):(method s).2.1.length<s.1.length:=by
 unfold method at h ⊢
 dsimp only at h ⊢
 have h1:=words_le [wGive,wTake,wNote] s
 generalize words [wGive,wTake,wNote] s=a at *
 have h2:=name_le a.2
 generalize name a.2=b at *
 have h3:=arg_le b.2
 generalize arg b.2=c at *
 have h4:=want_le c.2 sArrow
 generalize want c.2 sArrow=s4 at *
 have h5:=words_le [wInt,wNone] s4
 generalize words [wInt,wNone] s4=d at *
 have h6:=take_le d.2 wUndo
 generalize take d.2 wUndo=t at *
 have h7:=name_le t.2
 have h8:=want_good h
 refine Nat.lt_of_lt_of_le (Nat.lt_of_succ_le (Nat.le_of_eq h8.2)) ?_
 split
 ·omega
 ·simp only
  omega
theorem withinF_le {α:Type} {read:St→α × St} (hr:∀ s,(read s).2.1.length≤s.1.length):∀ (f:Nat) (s:St) (acc:List α),(withinF read f s acc).2.1.length≤s.1.length
 | 0,s,acc=>Nat.le_refl _
 | f+1,s,acc=>by
  unfold withinF
  split
  ·exact Nat.le_refl _
  ·split
   ·simp
   ·exact Nat.le_trans (withinF_le hr f _ _) (hr s)
theorem within_le {α:Type} {read:St→α × St} (hr:∀ s,(read s).2.1.length≤s.1.length) (s:St):(within read s).2.1.length≤s.1.length:=Nat.le_trans (withinF_le hr _ _ _) (want_le _ _)
theorem Srt.e_kp {base b:Nat} {T:List TypeId} {w w':World} (h:Kp base T w w') (hb:base≤b) (ht:59∈T) {v:Value} {l:List Srt} (hs:SortsR w (some b) v l):SortsR w' (some b) v l:=ERow.kp hs h hb ht (fun _ _ h=>h)
theorem FldE.kp {base b:Nat} {T:List TypeId} {w w':World} (h:Kp base T w w') (hb:base≤b) (ht:59∈T) (cs:List Value) (x:Fld) (he:FldE (some b) w cs x):FldE (some b) w' cs x:=by
 obtain ⟨u,e,hs⟩:=he
 exact ⟨u,e,Srt.e_kp h hb ht hs⟩
theorem MthE.kp {w w':World} (cs:List Value) (x:Mth) (he:MthE w cs x):MthE w' cs x:=he
theorem StpE.kp {w w':World} (cs:List Value) (x:Stp) (he:StpE w cs x):StpE w' cs x:=he
end Id
theorem Id.info_field:(Tryz.prog.info? 57).map (fun i=>(i.zero,i.size,i.bytes))=some (some (.agg #[.string ByteArray.empty,.slice none 0 0]),2,40):=by kernel_rfl
theorem Id.info_method:(Tryz.prog.info? 70).map (fun i=>(i.zero,i.size,i.bytes))=some (some (.agg #[.string ByteArray.empty,.string ByteArray.empty,.int .u8 0,.string ByteArray.empty,.string ByteArray.empty]),5,72):=by kernel_rfl
theorem Id.info_step:(Tryz.prog.info? 85).map (fun i=>(i.zero,i.size,i.bytes))=some (some (.agg #[.string ByteArray.empty,.string ByteArray.empty,.int .i64 0]),3,40):=by kernel_rfl
end Go.Proofs.YtlbihaikppkecaaGreatDoor
set_option linter.unusedVariables false
set_option linter.unusedSimpArgs false
namespace Go.Proofs.YtlbihaikppkecaaGreatDoor
open Go.RowKit
namespace Id
structure Rec where
 name:ByteArray
 choice:Bool
 fields:List Fld
structure Svc where
 name:ByteArray
 methods:List Mth
structure Sag where
 name:ByteArray
 arg:ByteArray
 steps:List Stp
structure Sch where
 name:ByteArray
 records:List Rec
 services:List Svc
 sagas:List Sag
def RecE (B:Option Nat) (w:World) (cs:List Value) (x:Rec):Prop:=∃ u,cs=[.string x.name,.bool x.choice,u]∧FldsR w B u x.fields
def SvcE (B:Option Nat) (w:World) (cs:List Value) (x:Svc):Prop:=∃ u,cs=[.string x.name,u]∧ERow w B 70 5 MthE u x.methods
def SagE (B:Option Nat) (w:World) (cs:List Value) (x:Sag):Prop:=∃ u,cs=[.string x.name,.string x.arg,u]∧ERow w B 85 3 StpE u x.steps
def RecsR (w:World) (B:Option Nat) (v:Value) (l:List Rec):Prop:=ERow w B 54 3 (RecE B) v l
def SvcsR (w:World) (B:Option Nat) (v:Value) (l:List Svc):Prop:=ERow w B 83 2 (SvcE B) v l
def SagsR (w:World) (B:Option Nat) (v:Value) (l:List Sag):Prop:=ERow w B 62 3 (SagE B) v l
def schT:List TypeId:=[54,57,59,83,70,62,85]
def wModule:ByteArray:=⟨#[109,111,100,117,108,101]⟩
def wRecord:ByteArray:=⟨#[114,101,99,111,114,100]⟩
def wChoice:ByteArray:=⟨#[99,104,111,105,99,101]⟩
def wService:ByteArray:=⟨#[115,101,114,118,105,99,101]⟩
def wSaga:ByteArray:=⟨#[115,97,103,97]⟩
def decls:List ByteArray:=[wRecord,wChoice,wService,wSaga]
def record (c:Bool) (s:St):Rec × St:=(⟨(name s).1,c,(within field (name s).2).1⟩,(within field (name s).2).2)
def service (s:St):Svc × St:=(⟨(name s).1,(within method (name s).2).1⟩,(within method (name s).2).2)
def saga (s:St):Sag × St:=(⟨(name s).1,(arg (name s).2).1,(within step (arg (name s).2).2).1⟩,(within step (arg (name s).2).2).2)
def schemaF:Nat→St→Sch→Sch × St
 | 0,s,x=>(x,s)
 | f+1,s,x=>if s.2=true∨s.1=[] then (x,s) else
  if (words decls s).1.toList=[114,101,99,111,114,100] then schemaF f (record false (words decls s).2).2 { x with records:=x.records++[(record false (words decls s).2).1] } else
  if (words decls s).1.toList=[99,104,111,105,99,101] then schemaF f (record true (words decls s).2).2 { x with records:=x.records++[(record true (words decls s).2).1] } else
  if (words decls s).1.toList=[115,101,114,118,105,99,101] then schemaF f (service (words decls s).2).2 { x with services:=x.services++[(service (words decls s).2).1] } else
  if (words decls s).1.toList=[115,97,103,97] then schemaF f (saga (words decls s).2).2 { x with sagas:=x.sagas++[(saga (words decls s).2).1] } else
  schemaF f (words decls s).2 x
def schema (s:St):Sch × St :=
 let a:=name (want s wModule)
 let s1:=want a.2 sSemi
 schemaF (s1.1.length+2) s1 ⟨a.1,[],[],[]⟩
theorem record_le (c:Bool) (s:St):(record c s).2.1.length≤s.1.length:=Nat.le_trans (within_le field_le _) (name_le s)
theorem service_le (s:St):(service s).2.1.length≤s.1.length:=Nat.le_trans (within_le method_le _) (name_le s)
theorem saga_le (s:St):(saga s).2.1.length≤s.1.length:=Nat.le_trans (within_le step_le _) (Nat.le_trans (arg_le _) (name_le s))
/-- The word told, or a fault. -/
theorem words_cases (ws:List ByteArray) (s:St) (h:s.2=false):((words ws s).2.2=false∧(words ws s).2.1.length+1=s.1.length)∨((words ws s).2.2=true∧(words ws s).1=⟨#[]⟩):=by
 obtain ⟨l,bad⟩:=s
 simp only at h
 subst h
 cases l with
 | nil=>exact .inr ⟨rfl,rfl⟩
 | cons t r =>
  unfold words one
  by_cases hc:t.kind=1∧among ws t=true
  ·simp only [if_pos hc];simp
  ·simp only [if_neg hc];simp
theorem RecE.kp {base b:Nat} {T:List TypeId} {w w':World} (h:Kp base T w w') (hb:base≤b) (h1:57∈T) (h2:59∈T) (cs:List Value) (x:Rec) (he:RecE (some b) w cs x):RecE (some b) w' cs x:=by
 obtain ⟨u,e,hs⟩:=he
 exact ⟨u,e,ERow.kp hs h hb h1 (FldE.kp h hb h2)⟩
theorem SvcE.kp {base b:Nat} {T:List TypeId} {w w':World} (h:Kp base T w w') (hb:base≤b) (h1:70∈T) (cs:List Value) (x:Svc) (he:SvcE (some b) w cs x):SvcE (some b) w' cs x:=by
 obtain ⟨u,e,hs⟩:=he
 exact ⟨u,e,ERow.kp hs h hb h1 MthE.kp⟩
theorem SagE.kp {base b:Nat} {T:List TypeId} {w w':World} (h:Kp base T w w') (hb:base≤b) (h1:85∈T) (cs:List Value) (x:Sag) (he:SagE (some b) w cs x):SagE (some b) w' cs x:=by
 obtain ⟨u,e,hs⟩:=he
 exact ⟨u,e,ERow.kp hs h hb h1 StpE.kp⟩
theorem RecsR.kp {base b:Nat} {T:List TypeId} {w w':World} {v:Value} {l:List Rec} (hr:RecsR w (some b) v l) (h:Kp base T w w') (hb:base≤b) (h0:54∈T) (h1:57∈T) (h2:59∈T):RecsR w' (some b) v l:=ERow.kp hr h hb h0 (RecE.kp h hb h1 h2)
theorem SvcsR.kp {base b:Nat} {T:List TypeId} {w w':World} {v:Value} {l:List Svc} (hr:SvcsR w (some b) v l) (h:Kp base T w w') (hb:base≤b) (h0:83∈T) (h1:70∈T):SvcsR w' (some b) v l:=ERow.kp hr h hb h0 (SvcE.kp h hb h1)
theorem SagsR.kp {base b:Nat} {T:List TypeId} {w w':World} {v:Value} {l:List Sag} (hr:SagsR w (some b) v l) (h:Kp base T w w') (hb:base≤b) (h0:62∈T) (h1:85∈T):SagsR w' (some b) v l:=ERow.kp hr h hb h0 (SagE.kp h hb h1)
theorem info_rec:(Tryz.prog.info? 54).map (fun i=>(i.zero,i.size,i.bytes))=some (some (.agg #[.string ByteArray.empty,.bool false,.slice none 0 0]),3,48):=by kernel_rfl
theorem info_svc:(Tryz.prog.info? 83).map (fun i=>(i.zero,i.size,i.bytes))=some (some (.agg #[.string ByteArray.empty,.slice none 0 0]),2,40):=by kernel_rfl
theorem info_sag:(Tryz.prog.info? 62).map (fun i=>(i.zero,i.size,i.bytes))=some (some (.agg #[.string ByteArray.empty,.string ByteArray.empty,.slice none 0 0]),3,56):=by kernel_rfl
/-- What has been read lies there. -/
def SchB (w:World) (g:Nat) (base:Nat) (x:Sch):Prop:=∃ A1 n1 c1 A2 n2 c2 A3 n3 c3,Bk w g 33 #[.string x.name,.slice A1 n1 c1,.slice A2 n2 c2,.slice A3 n3 c3]∧RecsR w (some base) (.slice A1 n1 c1) x.records∧SvcsR w (some base) (.slice A2 n2 c2) x.services∧SagsR w (some base) (.slice A3 n3 c3) x.sagas
theorem SchB.kp {w w':World} {g base:Nat} {x:Sch} (h:SchB w g base x) (hb:Bk w' g 33=Bk w g 33) (hk:Kp base schT w w'):SchB w' g base x:=by
 obtain ⟨A1,n1,c1,A2,n2,c2,A3,n3,c3,k,r1,r2,r3⟩:=h
 exact ⟨A1,n1,c1,A2,n2,c2,A3,n3,c3,by rw [hb];exact k,r1.kp hk (Nat.le_refl _) (by decide) (by decide) (by decide),r2.kp hk (Nat.le_refl _) (by decide) (by decide),r3.kp hk (Nat.le_refl _) (by decide) (by decide)⟩
theorem SchB.call {w w':World} {b g base:Nat} {x:Sch} (h:SchB w g base x) (hg:w.grownBy w' (some b)) (h1:b<g) (h2:b<base):SchB w' g base x:=by
 have hk:Kp base schT w w':=Kp.grown hg h2
 obtain ⟨A1,n1,c1,A2,n2,c2,A3,n3,c3,k,r1,r2,r3⟩:=h
 exact ⟨A1,n1,c1,A2,n2,c2,A3,n3,c3,k.call hg h1,r1.kp hk (Nat.le_refl _) (by decide) (by decide) (by decide),r2.kp hk (Nat.le_refl _) (by decide) (by decide),r3.kp hk (Nat.le_refl _) (by decide) (by decide)⟩
theorem SchB.below {w w':World} {g base:Nat} {x:Sch} (h:SchB w g base x) (hb:Below w.heap.size w w'):SchB w' g base x:=by
 have hk:Kp base schT w w':=Kp.below hb
 obtain ⟨A1,n1,c1,A2,n2,c2,A3,n3,c3,k,r1,r2,r3⟩:=h
 exact ⟨A1,n1,c1,A2,n2,c2,A3,n3,c3,k.below hb k.lt,r1.kp hk (Nat.le_refl _) (by decide) (by decide) (by decide),r2.kp hk (Nat.le_refl _) (by decide) (by decide),r3.kp hk (Nat.le_refl _) (by decide) (by decide)⟩
theorem SchB.rec {w:World} {g base:Nat} {x:Sch} {y:Rec} {A1 A2 A3 A7:Option Addr} {n1 c1 n2 c2 n3 c3 n7 c7:Nat} (hq:Bk w g 33 #[.string x.name,.slice A1 n1 c1,.slice A2 n2 c2,.slice A3 n3 c3]) (h1:RecsR w (some base) (.slice A7 n7 c7) (x.records++[y])) (h2:SvcsR w (some base) (.slice A2 n2 c2) x.services) (h3:SagsR w (some base) (.slice A3 n3 c3) x.sagas) :
  SchB (w.setCell ⟨g,1,none⟩ (.slice A7 n7 c7)) g base { x with records:=x.records++[y] }:=by
 have hk:Kp base schT w (w.setCell ⟨g,1,none⟩ (.slice A7 n7 c7)):=(Only.set hq 1 _).kp base (by decide)
 exact ⟨A7,n7,c7,A2,n2,c2,A3,n3,c3,hq.set_ 1 _,h1.kp hk (Nat.le_refl _) (by decide) (by decide) (by decide),h2.kp hk (Nat.le_refl _) (by decide) (by decide),h3.kp hk (Nat.le_refl _) (by decide) (by decide)⟩
theorem SchB.svc {w:World} {g base:Nat} {x:Sch} {y:Svc} {A1 A2 A3 A7:Option Addr} {n1 c1 n2 c2 n3 c3 n7 c7:Nat} (hq:Bk w g 33 #[.string x.name,.slice A1 n1 c1,.slice A2 n2 c2,.slice A3 n3 c3]) (h1:RecsR w (some base) (.slice A1 n1 c1) x.records) (h2:SvcsR w (some base) (.slice A7 n7 c7) (x.services++[y])) (h3:SagsR w (some base) (.slice A3 n3 c3) x.sagas) :
  SchB (w.setCell ⟨g,2,none⟩ (.slice A7 n7 c7)) g base { x with services:=x.services++[y] }:=by
 have hk:Kp base schT w (w.setCell ⟨g,2,none⟩ (.slice A7 n7 c7)):=(Only.set hq 2 _).kp base (by decide)
 exact ⟨A1,n1,c1,A7,n7,c7,A3,n3,c3,hq.set_ 2 _,h1.kp hk (Nat.le_refl _) (by decide) (by decide) (by decide),h2.kp hk (Nat.le_refl _) (by decide) (by decide),h3.kp hk (Nat.le_refl _) (by decide) (by decide)⟩
theorem SchB.sag {w:World} {g base:Nat} {x:Sch} {y:Sag} {A1 A2 A3 A7:Option Addr} {n1 c1 n2 c2 n3 c3 n7 c7:Nat} (hq:Bk w g 33 #[.string x.name,.slice A1 n1 c1,.slice A2 n2 c2,.slice A3 n3 c3]) (h1:RecsR w (some base) (.slice A1 n1 c1) x.records) (h2:SvcsR w (some base) (.slice A2 n2 c2) x.services) (h3:SagsR w (some base) (.slice A7 n7 c7) (x.sagas++[y])) :
  SchB (w.setCell ⟨g,3,none⟩ (.slice A7 n7 c7)) g base { x with sagas:=x.sagas++[y] }:=by
 have hk:Kp base schT w (w.setCell ⟨g,3,none⟩ (.slice A7 n7 c7)):=(Only.set hq 3 _).kp base (by decide)
 exact ⟨A1,n1,c1,A2,n2,c2,A7,n7,c7,hq.set_ 3 _,h1.kp hk (Nat.le_refl _) (by decide) (by decide) (by decide),h2.kp hk (Nat.le_refl _) (by decide) (by decide),h3.kp hk (Nat.le_refl _) (by decide) (by decide)⟩
theorem empty_toList:(⟨#[]⟩:ByteArray).toList=[]:=by unfold ByteArray.toList ByteArray.toList.loop;rfl
end Id
end Go.Proofs.YtlbihaikppkecaaGreatDoor
set_option linter.unusedVariables false
set_option linter.unusedSimpArgs false
namespace Go.Proofs.YtlbihaikppkecaaGreatDoor
namespace Prn
open Go.Proofs.YtlbihaikppkecaaGreatDoor.Id
def wBool:ByteArray:=⟨#[98,111,111,108]⟩
def wText:ByteArray:=⟨#[116,101,120,116]⟩
def sortW (x:Srt):ByteArray:=if x.kind=1 then wNone else if x.kind=2 then wBool else if x.kind=3 then wInt else if x.kind=4 then wText else if x.kind=5 then wList else if x.kind=6 then wOpt else x.name
def numW (n:Int):ByteArray:=⟨(Lib.itoa n).toArray⟩
def fldW (f:Fld):List ByteArray:=f.name::sColon::(f.type.map sortW++[sSemi])
def recW (r:Rec):List ByteArray:=(if r.choice then wChoice else wRecord)::r.name::sLeft::(r.fields.flatMap fldW++[sRight])
def undoW (m:Mth):List ByteArray:=if m.undo.toList.isEmpty then [] else [wUndo,m.undo]
def mthW (m:Mth):List ByteArray:=m.effect::m.name::sOpen::m.arg::sClose::sArrow::sortW ⟨m.result,⟨#[]⟩⟩::(undoW m++[sSemi])
def svcW (v:Svc):List ByteArray:=wService::v.name::sLeft::(v.methods.flatMap mthW++[sRight])
def stpW (p:Stp):List ByteArray:=[wDo,p.service,sDot,p.method,wAt,numW p.at_,sSemi]
def sagW (g:Sag):List ByteArray:=wSaga::g.name::sOpen::g.arg::sClose::sLeft::(g.steps.flatMap stpW++[sRight])
def schW (x:Sch):List ByteArray:=wModule::x.name::sSemi::(x.records.flatMap recW++(x.services.flatMap svcW++x.sagas.flatMap sagW))
/-- Words, a blank between any two. -/
def jl:List ByteArray→List UInt8
 | []=>[]
 | w::l=>w.data.toList++l.flatMap fun u=>32::u.data.toList
def jn (l:List ByteArray):ByteArray:=⟨(jl l).toArray⟩
end Prn
end Go.Proofs.YtlbihaikppkecaaGreatDoor
