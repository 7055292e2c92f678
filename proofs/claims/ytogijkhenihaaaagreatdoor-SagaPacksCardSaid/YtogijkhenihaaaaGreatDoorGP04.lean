/- No condition. -/
import Derived.Test.YtogijkhenihaaaaGreatDoorGP00
import Derived.Test.YtogijkhenihaaaaGreatDoorGP01
import Derived.Test.YtogijkhenihaaaaGreatDoorGP02
import Derived.Test.YtogijkhenihaaaaGreatDoorGP03
import Derived.Deep.RegionHeld3
import Derived.Lib.ItoaMem
set_option linter.unusedVariables false
namespace Go.Proofs.YtogijkhenihaaaaGreatDoor
open Go.RowKit
namespace Sm
end Sm
namespace Sm
def next (X x:Nat):Nat:=X / 256 ^^^ step8 (X % 256 ^^^ x)
end Sm
end Go.Proofs.YtogijkhenihaaaaGreatDoor
set_option linter.unusedVariables false
namespace Go.Proofs.YtogijkhenihaaaaGreatDoor
open Go.BigFrame
open Go.RowKit
namespace Sm
end Sm
namespace Sm
end Sm
namespace Sm
theorem getD_byte (s:ByteArray) (i:Nat) (h:i<s.size):s.data.toList.getD i 0=s[i]:=by
 rw [List.getD_eq_getElem?_getD,List.getElem?_eq_getElem (by simpa using h)]
 rfl
end Sm
namespace Sm
end Sm
end Go.Proofs.YtogijkhenihaaaaGreatDoor
set_option linter.unusedVariables false
namespace Go.Proofs.YtogijkhenihaaaaGreatDoor
open Go.RowKit Go.BigFrame
namespace Sm
def byteV (x:UInt8):Value:=.int .u8 x.toNat
end Sm
namespace Sm
end Sm
end Go.Proofs.YtogijkhenihaaaaGreatDoor
set_option linter.unusedVariables false
namespace Go.Proofs.YtogijkhenihaaaaGreatDoor
namespace Ev
/-- A number's bytes, seven bits a byte. -/
def varF:Nat→Nat→List UInt8
 | 0,x=>[UInt8.ofNat x]
 | f+1,x=>if x<128 then [UInt8.ofNat x] else UInt8.ofNat (x % 128+128)::varF f (x / 128)
def var (x:Nat):List UInt8:=varF 9 x
/-- A number's lowest bytes, the highest one first. -/
def big (x:Nat):Nat→List UInt8
 | 0=>[]
 | n+1=>UInt8.ofNat (x / 256 ^ n)::big x n
def txt (s:ByteArray):List UInt8:=var s.size++s.data.toList
structure Letter where
 kind:Nat
 from_:Int
 to_:Int
 seq:Nat
 key:ByteArray
 print:Nat
 svc:ByteArray
 mth:ByteArray
 code:Int
 body:ByteArray
def Letter.zero:Letter:=⟨0,0,0,0,ByteArray.empty,0,ByteArray.empty,ByteArray.empty,0,ByteArray.empty⟩
def Letter.cells (l:Letter):List Value:=[.int .u8 l.kind,.int .i64 l.from_,.int .i64 l.to_,.int .u64 l.seq,.string l.key,.int .u64 l.print,.string l.svc,.string l.mth,.int .i64 l.code,.string l.body]
def Letter.val (l:Letter):Value:=.agg #[.int .u8 l.kind,.int .i64 l.from_,.int .i64 l.to_,.int .u64 l.seq,.string l.key,.int .u64 l.print,.string l.svc,.string l.mth,.int .i64 l.code,.string l.body]
/-- Its numbers are such as their kinds hold. -/
def Letter.ok (l:Letter):Prop:=l.kind<256∧l.seq<18446744073709551616∧l.print<18446744073709551616
def peer (n:Int):Bool:=decide (0≤n)&&decide (n<4)
/-- Is a letter right? -/
def right (l:Letter):Bool :=
 peer l.from_&&peer l.to_&&decide (1≤l.key.size)&&decide (l.key.size≤64)&&decide (l.body.size≤4096) &&
 (if l.kind=1∨l.kind=3 then Tk.isName l.svc&&Tk.isName l.mth&&decide (l.code=0)&&(decide (l.kind=1)||l.body.toList.isEmpty)
  else if l.kind=2∨l.kind=4 then l.svc.toList.isEmpty&&l.mth.toList.isEmpty&&decide (0≤l.code)&&decide (l.code≤999) else false)
/-- A letter's bytes without the sum. -/
def head (l:Letter):List UInt8 :=
 [UInt8.ofNat l.kind,UInt8.ofNat l.from_.toNat,UInt8.ofNat l.to_.toNat]++var l.seq++txt l.key++big l.print 8++txt l.svc++txt l.mth++var l.code.toNat++txt l.body
def bytes (l:Letter):List UInt8:=head l++Sm.le4 (Sm.crc (head l))
end Ev
end Go.Proofs.YtogijkhenihaaaaGreatDoor
set_option linter.unusedVariables false
namespace Go.Proofs.YtogijkhenihaaaaGreatDoor
namespace Id
abbrev St:=List Tk.Tok × Bool
def is (s:St) (text:ByteArray):Bool:=!s.2&&(match s.1 with
 | []=>false
 | t::_=>!(t.kind==2)&&(t.text.toList==text.toList))
def take (s:St) (text:ByteArray):Bool × St:=if is s text then (true,(s.1.tail,s.2)) else (false,s)
def want (s:St) (text:ByteArray):St:=if is s text then (s.1.tail,s.2) else (s.1,true)
def one (s:St) (kind:Nat) (right:Tk.Tok→Bool):Tk.Tok × St:=match s with
 | (t::r,false)=>if t.kind=kind∧right t=true then (t,(r,false)) else (⟨0,⟨#[]⟩,0,0⟩,(t::r,true))
 | (l,_)=>(⟨0,⟨#[]⟩,0,0⟩,(l,true))
end Id
end Go.Proofs.YtogijkhenihaaaaGreatDoor
set_option linter.unusedVariables false
set_option linter.unusedSimpArgs false
namespace Go.Proofs.YtogijkhenihaaaaGreatDoor
open Go.RowKit
/-- A block of tokens. -/
def Id.Typed (w:World) (g:Nat):Prop:=∃ cs fr,w.heap[g]?=some (.cells cs 171 fr)
theorem Id.Typed.lt {w:World} {g:Nat} (h:Id.Typed w g):g<w.heap.size:=by
 obtain ⟨cs,fr,h⟩:=h
 exact (Array.getElem?_eq_some_iff.1 h).1
theorem Id.Typed.below {w w':World} {g:Nat} (h:Id.Typed w g) (hb:Below w.heap.size w w'):Id.Typed w' g:=by
 have hl:=h.lt
 obtain ⟨cs,fr,h⟩:=h
 exact ⟨cs,fr,(hb.block g hl).trans h⟩
theorem Id.Typed.far {w:World} {g:Nat} (h:Id.Typed w g) {p:Addr} (hp:g≠p.block) (u:Value):Id.Typed (w.setCell p u) g:=by
 obtain ⟨cs,fr,h⟩:=h
 exact ⟨cs,fr,(Below.heap_setCell w p u g hp).trans h⟩
/-- The parser's block. -/
structure Id.Ps (w:World) (b:Nat) (s:Id.St):Prop where
 lies:∃ A c,Bk w b 169 #[.slice A s.1.length c,.bool s.2]∧Tk.ReadT w A s.1∧s.1.length≤c∧c≤9223372036854775807∧(∀ ad,A=some ad→ad.block≠b)
 typ:∀ g off n c bd,Bk w b 169 #[.slice (some ⟨g,off,none⟩) n c,.bool bd]→Id.Typed w g
theorem Id.typ_of {w:World} {b n c:Nat} {A:Option Addr} {bd:Bool} (hk:Bk w b 169 #[.slice A n c,.bool bd]) (ht:∀ g off,A=some ⟨g,off,none⟩→Id.Typed w g):∀ g off n c bd,Bk w b 169 #[.slice (some ⟨g,off,none⟩) n c,.bool bd]→Id.Typed w g:=by
 intro g off n' c' bd' h
 unfold Bk at hk h
 rw [hk] at h
 simp only [Option.some.injEq,Obj.cells.injEq,Array.mk.injEq,List.cons.injEq,Value.slice.injEq] at h
 exact ht g off h.1.1.1
theorem Id.is_cons {s:Id.St} {text:ByteArray} (h:Id.is s text=true):∃ t r,s=(t::r,false):=by
 obtain ⟨l,bad⟩:=s
 cases bad
 ·cases l with
  | nil=>cases h
  | cons t r=>exact ⟨t,r,rfl⟩
 ·cases h
theorem Id.Ps.below {w w':World} {b:Nat} {s:Id.St} (h:Id.Ps w b s) (hb:Below w.heap.size w w'):Id.Ps w' b s:=by
 obtain ⟨A,c,h1,h2,h3⟩:=h.lies
 exact ⟨⟨A,c,h1.below hb h1.lt,h2.below hb,h3⟩,Id.typ_of (h1.below hb h1.lt) (fun g off e=>by subst e;exact (h.typ _ _ _ _ _ h1).below hb)⟩
theorem Id.Ps.lt {w:World} {b:Nat} {s:Id.St} (h:Id.Ps w b s):b<w.heap.size:=by
 obtain ⟨A,c,h1,h2,h3⟩:=h.lies
 exact h1.lt
theorem Tk.ReadT.set' {w:World} {A:Option Addr} {ls:List Tk.Tok} (h:Tk.ReadT w A ls) {b j:Nat} (hne:∀ ad,A=some ad→ad.block≠b) (v:Value):Tk.ReadT (w.setCell ⟨b,j,none⟩ v) A ls:=fun h0=>by
 obtain ⟨g,off,rfl,hc⟩:=h h0
 have hb:g≠b:=hne _ rfl
 have k:∀ o,(w.setCell ⟨b,j,none⟩ v).cell? ⟨g,o,none⟩=w.cell? ⟨g,o,none⟩:=fun o=>World.cell?_setCell_other _ _ _ _ (by intro e;injection e with e1;exact hb e1.symm)
 exact ⟨g,off,rfl,fun j hj=>by rw [k,k,k,k];exact hc j hj⟩
theorem Tk.ReadT.tail' {w:World} {g off:Nat} {t:Tk.Tok} {r:List Tk.Tok} (h:Tk.ReadT w (some ⟨g,off,none⟩) (t::r)):Tk.ReadT w (some ⟨g,off+4,none⟩) r:=fun h0=>by
 obtain ⟨g',off',e,hc⟩:=h (by simp)
 injection e with e
 injection e with e1 e2
 subst e1 e2
 refine ⟨_,_,rfl,fun j hj=>?_⟩
 have:=hc (j+1) (by simpa using hj)
 rw [show off+(j+1) * 4=off+4+j * 4 by omega] at this
 simpa using this
theorem Id.Ps.next {w:World} {b g off off' c c' m:Nat} {t:Tk.Tok} {r:List Tk.Tok} (hk:Bk w b 169 #[.slice (some ⟨g,off,none⟩) (m+1) c,.bool false]) (hr:Tk.ReadT w (some ⟨g,off,none⟩) (t::r)) (hm:m=r.length) (hne:∀ ad,some (⟨g,off,none⟩:Addr)=some ad→ad.block≠b)
  (hty:Id.Typed w g) (hc:c≤9223372036854775807) (hmc:m+1≤c) (h:(off'=off+4∧c'=c - 1)∨(m=0∧c'=0)):Id.Ps (w.setCell ⟨b,0,none⟩ (.slice (some ⟨g,off',none⟩) m c')) b (r,false):=by
 have hb:g≠b:=hne _ rfl
 refine ⟨⟨some ⟨g,off',none⟩,c',?_,?_,?_,?_,fun ad e=>by injection e with e;subst e;exact hb⟩,Id.typ_of (hk.set_ 0 (.slice (some ⟨g,off',none⟩) m c')) (fun g2 off2 e=>by injection e with e;injection e with e1 e2;subst e1;exact hty.far hb _)⟩
 ·have:=hk.set_ 0 (.slice (some ⟨g,off',none⟩) m c')
  rw [←hm]
  exact this
 ·rcases h with ⟨rfl,_⟩ | ⟨h0,_⟩
  ·exact hr.tail'.set' (fun ad e=>by injection e with e;subst e;exact hb) _
  ·intro h1
   simp only at h1
   omega
 ·simp only
  omega
 ·omega
theorem Id.Ps.fault {w:World} {b:Nat} {s:Id.St} (h:Id.Ps w b s):Id.Ps (w.setCell ⟨b,1,none⟩ (.bool true)) b (s.1,true):=by
 obtain ⟨A,c,h1,h2,h3,h4,h5⟩:=h.lies
 exact ⟨⟨A,c,h1.set_ 1 (.bool true),h2.set' h5 _,h3,h4,h5⟩,Id.typ_of (h1.set_ 1 (.bool true)) (fun g off e=>by subst e;exact (h.typ _ _ _ _ _ h1).far (h5 _ rfl) _)⟩
end Go.Proofs.YtogijkhenihaaaaGreatDoor
set_option linter.unusedVariables false
set_option linter.unusedSimpArgs false
namespace Go.Proofs.YtogijkhenihaaaaGreatDoor
open Go.RowKit
end Go.Proofs.YtogijkhenihaaaaGreatDoor
set_option linter.unusedVariables false
set_option linter.unusedSimpArgs false
namespace Go.Proofs.YtogijkhenihaaaaGreatDoor
open Go.RowKit
def Id.name (s:Id.St):ByteArray × Id.St:=((Id.one s 1 (fun t=>Tk.isName t.text)).1.text,(Id.one s 1 (fun t=>Tk.isName t.text)).2)
/-- What a word that ends a type says. -/
def Id.endW (s:ByteArray):Nat:=if s.toList=[110,111,110,101] then 1 else if s.toList=[98,111,111,108] then 2 else if s.toList=[105,110,116] then 3 else if s.toList=[116,101,120,116] then 4 else 0
end Go.Proofs.YtogijkhenihaaaaGreatDoor
set_option linter.unusedVariables false
set_option linter.unusedSimpArgs false
namespace Go.Proofs.YtogijkhenihaaaaGreatDoor
open Go.RowKit
def Id.among (some:List ByteArray) (t:Tk.Tok):Bool:=some.any fun x=>t.text.toList==x.toList
end Go.Proofs.YtogijkhenihaaaaGreatDoor
set_option linter.unusedVariables false
set_option linter.unusedSimpArgs false
namespace Go.Proofs.YtogijkhenihaaaaGreatDoor
open Go.RowKit
end Go.Proofs.YtogijkhenihaaaaGreatDoor
set_option linter.unusedVariables false
set_option linter.unusedSimpArgs false
namespace Go.Proofs.YtogijkhenihaaaaGreatDoor
open Go.RowKit
end Go.Proofs.YtogijkhenihaaaaGreatDoor
set_option linter.unusedVariables false
set_option linter.unusedSimpArgs false
namespace Go.Proofs.YtogijkhenihaaaaGreatDoor
open Go.RowKit
def Id.words (ws:List ByteArray) (s:Id.St):ByteArray × Id.St:=((Id.one s 1 (Id.among ws)).1.text,(Id.one s 1 (Id.among ws)).2)
end Go.Proofs.YtogijkhenihaaaaGreatDoor
set_option linter.unusedVariables false
set_option linter.unusedSimpArgs false
namespace Go.Proofs.YtogijkhenihaaaaGreatDoor
open Go.RowKit
theorem Tk.KW.grown {w w':World} {b:Nat} (h:Tk.KW w) (hg:w.grownBy w' (some b)) (hb:0<b):Tk.KW w' :=
 ⟨Nat.lt_of_lt_of_le h.1 hg.size,fun j hj=>(World.cell?_of_block (hg.block 0 h.1 (by intro e;injection e with e;omega))).trans (h.2 j hj)⟩
namespace Id
structure Srt where
 kind:Nat
 name:ByteArray
def Srt.cells (x:Srt):List Value:=[.int .u8 x.kind,.string x.name]
def SortE (w:World) (cs:List Value) (x:Srt):Prop:=cs=x.cells
def SortsR (w:World) (B:Option Nat) (v:Value) (l:List Srt):Prop:=ERow w B 44 2 SortE v l
def wList:ByteArray:=⟨#[108,105,115,116]⟩
def wOpt:ByteArray:=⟨#[111,112,116]⟩
def ends (s:St):Bool:=match s.1 with
 | []=>false
 | t::_=>(t.kind==1)&&!(endW t.text==0)
def head (s:St):ByteArray:=match s.1 with
 | []=>⟨#[]⟩
 | t::_=>t.text
def sortsF:Nat→St→List Srt→List Srt × St
 | 0,s,acc=>([],s)
 | f+1,s,acc=>if s.2 then ([],s) else
  if is s wList then sortsF f (s.1.tail,s.2) (acc++[⟨5,⟨#[]⟩⟩]) else
  if is s wOpt then sortsF f (s.1.tail,s.2) (acc++[⟨6,⟨#[]⟩⟩]) else
  if ends s then (acc++[⟨endW (head s),⟨#[]⟩⟩],(s.1.tail,s.2)) else
  (acc++[⟨7,(name s).1⟩],(name s).2)
def sorts (s:St):List Srt × St:=sortsF (s.1.length+1) s []
end Id
theorem Id.info_sort:(Tryz.prog.info? 44).map (fun i=>(i.zero,i.size,i.bytes))=some (some (.agg #[.int .u8 0,.string ByteArray.empty]),2,24):=by kernel_rfl
theorem Id.Ps.only {w w':World} {b:Nat} {s:Id.St} (h:Id.Ps w b s) {e:TypeId} (hg:Only e w w') (h1:171≠e) (h2:169≠e):Id.Ps w' b s:=by
 obtain ⟨A,c,k1,k2,k3,k4,k5⟩:=h.lies
 have key:∀ g off,A=some ⟨g,off,none⟩→w'.heap[g]?=w.heap[g]?∧Id.Typed w g:=fun g off e=>by
  subst e
  obtain ⟨cs,fr,hh⟩:=h.typ _ _ _ _ _ k1
  exact ⟨(hg.typed hh h1).trans hh.symm,⟨cs,fr,hh⟩⟩
 refine ⟨⟨A,c,hg.bk k1 h2,fun h0=>?_,k3,k4,k5⟩,Id.typ_of (hg.bk k1 h2) (fun g off e=>?_)⟩
 ·obtain ⟨g,off,e,hc⟩:=k2 h0
  refine ⟨g,off,e,fun j hj=>?_⟩
  have hk:=(key g off e).1
  have kc:∀ o,w'.cell? ⟨g,o,none⟩=w.cell? ⟨g,o,none⟩:=fun o=>World.cell?_of_block (a:=⟨g,o,none⟩) hk
  rw [kc,kc,kc,kc]
  exact hc j hj
 ·obtain ⟨hk,cs,fr,hh⟩:=key g off e
  exact ⟨cs,fr,hk.trans hh⟩
/-- A round's head. -/
structure Id.SortsAt (w:World) (b:Nat) (R:List Id.Srt × Id.St) (n:Nat) (v:Value) (wr:World) (s:Id.St) (acc:List Id.Srt):Prop where
 fu:s.1.length+1≤n
 ln:acc.length+s.1.length≤1000000
 ps:Id.Ps wr b s
 kw:Tk.KW wr
 gb:w.grownBy wr (some b)
 row:Id.SortsR wr (some w.heap.size) v acc
 out:Id.sortsF n s acc=R
theorem Id.SortsAt.put {w wr w':World} {b n:Nat} {R:List Id.Srt × Id.St} {v v':Value} {s s':Id.St} {acc:List Id.Srt} {x:Id.Srt} (hbw:b<w.heap.size) (hb0:0<b) (h:Id.SortsAt w b R n v wr s acc) {w1:World} (hg:wr.grownBy w1 (some b)) (hp:Id.Ps w1 b s')
  (hrow:(∀ cs x,Id.SortE w1 cs x→Id.SortE w' cs x)→Id.SortE w' x.cells x→ERow w' (some w.heap.size) 44 2 Id.SortE v' (acc++[x])) (hb:Below w.heap.size w1 w') (ho:Only 44 w1 w') :
  Id.Ps w' b s'∧Tk.KW w'∧w.grownBy w' (some b)∧Id.SortsR w' (some w.heap.size) v' (acc++[x]) :=
 have hg1:=gb_trans h.gb hg
 have hk1:=h.kw.grown hg hb0
 ⟨hp.only ho (by decide) (by decide),⟨Nat.lt_of_lt_of_le hk1.1 hb.size,fun j hj=>(hb.cell (p:=⟨0,0+j,none⟩) (by simp;omega)).trans (hk1.2 j hj)⟩,gb_join hg1 hb,hrow (fun _ _ h=>h) rfl⟩
end Go.Proofs.YtogijkhenihaaaaGreatDoor
set_option linter.unusedVariables false
set_option linter.unusedSimpArgs false
namespace Go.Proofs.YtogijkhenihaaaaGreatDoor
open Go.RowKit
namespace Id
structure Fld where
 name:ByteArray
 type:List Srt
def FldE (B:Option Nat) (w:World) (cs:List Value) (x:Fld):Prop:=∃ u,cs=[.string x.name,u]∧SortsR w B u x.type
def FldsR (w:World) (B:Option Nat) (v:Value) (l:List Fld):Prop:=ERow w B 176 2 (FldE B) v l
def sColon:ByteArray:=⟨#[58]⟩
def sSemi:ByteArray:=⟨#[59]⟩
def field (s:St):Fld × St:=(⟨(name s).1,(sorts (want (name s).2 sColon)).1⟩,want (sorts (want (name s).2 sColon)).2 sSemi)
theorem one_le (s:St) (k:Nat) (p:Tk.Tok→Bool):(one s k p).2.1.length≤s.1.length:=by
 obtain ⟨l,bad⟩:=s
 unfold one
 split
 ·rename_i h;injection h with h1 h2;subst h1
  split <;> simp
 ·rename_i h;injection h with h1 h2;subst h1;simp
theorem name_le (s:St):(name s).2.1.length≤s.1.length:=one_le s _ _
theorem want_le (s:St) (x:ByteArray):(want s x).1.length≤s.1.length:=by
 unfold want;split <;> simp
theorem take_le (s:St) (x:ByteArray):(take s x).2.1.length≤s.1.length:=by
 unfold take;split <;> simp
theorem sortsF_le:∀ (f:Nat) (s:St) (acc:List Srt),(sortsF f s acc).2.1.length≤s.1.length
 | 0,s,acc=>Nat.le_refl _
 | f+1,s,acc=>by
  unfold sortsF
  split
  ·exact Nat.le_refl _
  ·split
   ·exact Nat.le_trans (sortsF_le f _ _) (by simp)
   ·split
    ·exact Nat.le_trans (sortsF_le f _ _) (by simp)
    ·split
     ·simp
     ·exact name_le s
theorem sorts_le (s:St):(sorts s).2.1.length≤s.1.length:=sortsF_le _ _ _
theorem field_le (s:St):(field s).2.1.length≤s.1.length:=Nat.le_trans (want_le _ _) (Nat.le_trans (sorts_le _) (Nat.le_trans (want_le _ _) (name_le _)))
end Id
end Go.Proofs.YtogijkhenihaaaaGreatDoor
set_option linter.unusedVariables false
set_option linter.unusedSimpArgs false
namespace Go.Proofs.YtogijkhenihaaaaGreatDoor
open Go.RowKit
/-- How far a parser's function has come. -/
structure Id.PW (w0 w:World) (b:Nat) (s:Id.St):Prop where
 ps:Id.Ps w b s
 kw:Tk.KW w
 gb:w0.grownBy w (some b)
namespace Id.PW
theorem below {w0 w w':World} {b:Nat} {s:Id.St} (h:Id.PW w0 w b s) (hb:Below w.heap.size w w'):Id.PW w0 w' b s:=⟨h.ps.below hb,h.kw.below hb,gb_trans h.gb (gb_below hb _)⟩
theorem alloc {w0 w:World} {b:Nat} {s:Id.St} (h:Id.PW w0 w b s) (o:Obj):Id.PW w0 (w.alloc o) b s:=h.below ((Below.refl _ _).alloc (Nat.le_refl _) _)
theorem call {w0 w w':World} {b:Nat} {s s':Id.St} (h:Id.PW w0 w b s) (hb:0<b) (hg:w.grownBy w' (some b)) (hp:Id.Ps w' b s'):Id.PW w0 w' b s':=⟨hp,h.kw.grown hg hb,gb_trans h.gb hg⟩
theorem lt {w0 w:World} {b:Nat} {s:Id.St} (h:Id.PW w0 w b s):b<w.heap.size:=h.ps.lt
end Id.PW
/-- A block of the call's own, behind a call. -/
theorem Bk.call {w w':World} {b g:Nat} {t:TypeId} {cs:Array Value} (h:Bk w g t cs) (hg:w.grownBy w' (some b)) (hb:b<g):Bk w' g t cs:=h.grown hg (by intro e;injection e with e;omega)
namespace Id
def sOpen:ByteArray:=⟨#[40]⟩
def sClose:ByteArray:=⟨#[41]⟩
def arg (s:St):ByteArray × St:=((name (want s sOpen)).1,want (name (want s sOpen)).2 sClose)
theorem arg_le (s:St):(arg s).2.1.length≤s.1.length:=Nat.le_trans (want_le _ _) (Nat.le_trans (name_le _) (want_le _ _))
structure Stp where
 service:ByteArray
 method:ByteArray
 at_:Int
def Stp.cells (x:Stp):List Value:=[.string x.service,.string x.method,.int .i64 x.at_]
def StpE (w:World) (cs:List Value) (x:Stp):Prop:=cs=x.cells
def wDo:ByteArray:=⟨#[100,111]⟩
def sDot:ByteArray:=⟨#[46]⟩
def wAt:ByteArray:=⟨#[97,116]⟩
def num (s:St):Nat × St:=((one s 2 (fun _=>true)).1.num,(one s 2 (fun _=>true)).2)
def step (s:St):Stp × St :=
 let a:=name (want s wDo)
 let c:=name (want a.2 sDot)
 let d:=num (want c.2 wAt)
 (⟨a.1,c.1,d.1⟩,want d.2 sSemi)
theorem num_le (s:St):(num s).2.1.length≤s.1.length:=one_le s _ _
theorem step_le (s:St):(step s).2.1.length≤s.1.length:=Nat.le_trans (want_le _ _) (Nat.le_trans (num_le _) (Nat.le_trans (want_le _ _) (Nat.le_trans (name_le _) (Nat.le_trans (want_le _ _) (Nat.le_trans (name_le _) (want_le _ _))))))
end Id
end Go.Proofs.YtogijkhenihaaaaGreatDoor
set_option linter.unusedVariables false
set_option linter.unusedSimpArgs false
namespace Go.Proofs.YtogijkhenihaaaaGreatDoor
open Go.RowKit
namespace Id
structure Mth where
 name:ByteArray
 arg:ByteArray
 result:Nat
 effect:ByteArray
 undo:ByteArray
def Mth.cells (x:Mth):List Value:=[.string x.name,.string x.arg,.int .u8 x.result,.string x.effect,.string x.undo]
def MthE (w:World) (cs:List Value) (x:Mth):Prop:=cs=x.cells
def wGive:ByteArray:=⟨#[103,105,118,101]⟩
def wTake:ByteArray:=⟨#[116,97,107,101]⟩
def wNote:ByteArray:=⟨#[110,111,116,101]⟩
def wInt:ByteArray:=⟨#[105,110,116]⟩
def wNone:ByteArray:=⟨#[110,111,110,101]⟩
def wUndo:ByteArray:=⟨#[117,110,100,111]⟩
def sArrow:ByteArray:=⟨#[45,62]⟩
def method (s:St):Mth × St :=
 let a:=words [wGive,wTake,wNote] s
 let b:=name a.2
 let c:=arg b.2
 let d:=words [wInt,wNone] (want c.2 sArrow)
 let t:=take d.2 wUndo
 let u:=if t.1 then name t.2 else (⟨#[]⟩,t.2)
 (⟨b.1,c.1,endW d.1,a.1,u.1⟩,want u.2 sSemi)
theorem words_le (ws:List ByteArray) (s:St):(words ws s).2.1.length≤s.1.length:=one_le s _ _
theorem method_le (s:St):(method s).2.1.length≤s.1.length:=by
 unfold method
 dsimp only
 have h1:=words_le [wGive,wTake,wNote] s
 generalize words [wGive,wTake,wNote] s=a at *
 have h2:=name_le a.2
 generalize name a.2=b at *
 have h3:=arg_le b.2
 generalize arg b.2=c at *
 have h4:=want_le c.2 sArrow
 generalize want c.2 sArrow=s4 at *
 have h5:=words_le [wInt,wNone] s4
 generalize words [wInt,wNone] s4=d at *
 have h6:=take_le d.2 wUndo
 generalize take d.2 wUndo=t at *
 have h7:=name_le t.2
 refine Nat.le_trans (want_le _ _) ?_
 split
 ·omega
 ·simp only
  omega
end Id
end Go.Proofs.YtogijkhenihaaaaGreatDoor
set_option linter.unusedVariables false
set_option linter.unusedSimpArgs false
namespace Go.Proofs.YtogijkhenihaaaaGreatDoor
open Go.RowKit
namespace Id
def sLeft:ByteArray:=⟨#[123]⟩
def sRight:ByteArray:=⟨#[125]⟩
def withinF {α:Type} (read:St→α × St):Nat→St→List α→List α × St
 | 0,s,acc=>(acc,s)
 | f+1,s,acc=>if s.2 then (acc,s) else if is s sRight then (acc,(s.1.tail,s.2)) else withinF read f (read s).2 (if (read s).2.2 then acc else acc++[(read s).1])
def within {α:Type} (read:St→α × St) (s:St):List α × St:=withinF read ((want s sLeft).1.length+2) (want s sLeft) []
theorem one_good {s:St} {k:Nat} {p:Tk.Tok→Bool} (h:(one s k p).2.2=false):s.2=false∧(one s k p).2.1.length+1=s.1.length:=by
 obtain ⟨l,bad⟩:=s
 cases bad
 ·cases l with
  | nil=>cases h
  | cons t r =>
   unfold one at h ⊢
   by_cases hc:t.kind=k∧p t=true
   ·simp only [if_pos hc];simp
   ·simp only [if_neg hc] at h;cases h
 ·cases l <;> cases h
theorem name_good {s:St} (h:(name s).2.2=false):s.2=false∧(name s).2.1.length+1=s.1.length:=one_good h
theorem want_good {s:St} {x:ByteArray} (h:(want s x).2=false):s.2=false∧(want s x).1.length+1=s.1.length:=by
 unfold want at h ⊢
 by_cases hi:is s x=true
 ·obtain ⟨t,r,rfl⟩:=is_cons hi
  simp only [if_pos hi] at h ⊢
  simp
 ·simp only [if_neg hi] at h;cases h
theorem sortsF_good:∀ (f:Nat) (s:St) (acc:List Srt),s.1.length<f→(sortsF f s acc).2.2=false→s.2=false
 | 0,s,acc,hf,h=>by omega
 | f+1,s,acc,hf,h=>by
  obtain ⟨l,bad⟩:=s
  cases bad
  ·rfl
  ·simp [sortsF] at h
theorem sorts_good {s:St} (h:(sorts s).2.2=false):s.2=false:=sortsF_good _ _ _ (Nat.lt_succ_self _) h
theorem field_good {s:St} (h:(field s).2.2=false):(field s).2.1.length<s.1.length:=by
 have h1:=want_good h
 have h2:=sorts_good h1.1
 have h3:=want_good h2
 have h4:=name_good h3.1
 have h5:=sorts_le (want (name s).2 sColon)
 have e:(field s).2=want (sorts (want (name s).2 sColon)).2 sSemi:=rfl
 rw [e]
 omega
theorem step_good {s:St} (h:(step s).2.2=false):(step s).2.1.length<s.1.length:=by
 have h1:=want_good (s:=(num (want (name (want (name (want s wDo)).2 sDot)).2 wAt)).2) h
 have h2:=num_le (want (name (want (name (want s wDo)).2 sDot)).2 wAt)
 have h3:=want_le (name (want (name (want s wDo)).2 sDot)).2 wAt
 have h4:=name_le (want (name (want s wDo)).2 sDot)
 have h5:=want_le (name (want s wDo)).2 sDot
 have h6:=name_le (want s wDo)
 have h7:=want_le s wDo
 have e:(step s).2=want (num (want (name (want (name (want s wDo)).2 sDot)).2 wAt)).2 sSemi:=rfl
 rw [e]
 omega
theorem method_good {s:St} (h:(method s).2.2=false):(method s).2.1.length<s.1.length:=by
 unfold method at h ⊢
 dsimp only at h ⊢
 have h1:=words_le [wGive,wTake,wNote] s
 generalize words [wGive,wTake,wNote] s=a at *
 have h2:=name_le a.2
 generalize name a.2=b at *
 have h3:=arg_le b.2
 generalize arg b.2=c at *
 have h4:=want_le c.2 sArrow
 generalize want c.2 sArrow=s4 at *
 have h5:=words_le [wInt,wNone] s4
 generalize words [wInt,wNone] s4=d at *
 have h6:=take_le d.2 wUndo
 generalize take d.2 wUndo=t at *
 have h7:=name_le t.2
 have h8:=want_good h
 refine Nat.lt_of_lt_of_le (Nat.lt_of_succ_le (Nat.le_of_eq h8.2)) ?_
 split
 ·omega
 ·simp only
  omega
theorem withinF_le {α:Type} {read:St→α × St} (hr:∀ s,(read s).2.1.length≤s.1.length):∀ (f:Nat) (s:St) (acc:List α),(withinF read f s acc).2.1.length≤s.1.length
 | 0,s,acc=>Nat.le_refl _
 | f+1,s,acc=>by
  unfold withinF
  split
  ·exact Nat.le_refl _
  ·split
   ·simp
   ·exact Nat.le_trans (withinF_le hr f _ _) (hr s)
theorem within_le {α:Type} {read:St→α × St} (hr:∀ s,(read s).2.1.length≤s.1.length) (s:St):(within read s).2.1.length≤s.1.length:=Nat.le_trans (withinF_le hr _ _ _) (want_le _ _)
theorem Srt.e_kp {base b:Nat} {T:List TypeId} {w w':World} (h:Kp base T w w') (hb:base≤b) (ht:44∈T) {v:Value} {l:List Srt} (hs:SortsR w (some b) v l):SortsR w' (some b) v l:=ERow.kp hs h hb ht (fun _ _ h=>h)
theorem FldE.kp {base b:Nat} {T:List TypeId} {w w':World} (h:Kp base T w w') (hb:base≤b) (ht:44∈T) (cs:List Value) (x:Fld) (he:FldE (some b) w cs x):FldE (some b) w' cs x:=by
 obtain ⟨u,e,hs⟩:=he
 exact ⟨u,e,Srt.e_kp h hb ht hs⟩
theorem MthE.kp {w w':World} (cs:List Value) (x:Mth) (he:MthE w cs x):MthE w' cs x:=he
theorem StpE.kp {w w':World} (cs:List Value) (x:Stp) (he:StpE w cs x):StpE w' cs x:=he
end Id
theorem Id.info_field:(Tryz.prog.info? 176).map (fun i=>(i.zero,i.size,i.bytes))=some (some (.agg #[.string ByteArray.empty,.slice none 0 0]),2,40):=by kernel_rfl
/-- A round's head. -/
structure Id.FieldsAt (w:World) (b:Nat) (R:List Id.Fld × Id.St) (n:Nat) (v:Value) (wr:World) (s:Id.St) (acc:List Id.Fld):Prop where
 fu:s.2=false→s.1.length+2≤n
 fo:1≤n
 ln:acc.length+s.1.length≤1000000
 pw:Id.PW w wr b s
 row:ERow wr (some w.heap.size) 176 2 (Id.FldE (some w.heap.size)) v acc
 out:Id.withinF Id.field n s acc=R
theorem Id.info_method:(Tryz.prog.info? 180).map (fun i=>(i.zero,i.size,i.bytes))=some (some (.agg #[.string ByteArray.empty,.string ByteArray.empty,.int .u8 0,.string ByteArray.empty,.string ByteArray.empty]),5,72):=by kernel_rfl
/-- A round's head. -/
structure Id.MethodsAt (w:World) (b:Nat) (R:List Id.Mth × Id.St) (n:Nat) (v:Value) (wr:World) (s:Id.St) (acc:List Id.Mth):Prop where
 fu:s.2=false→s.1.length+2≤n
 fo:1≤n
 ln:acc.length+s.1.length≤1000000
 pw:Id.PW w wr b s
 row:ERow wr (some w.heap.size) 180 5 Id.MthE v acc
 out:Id.withinF Id.method n s acc=R
theorem Id.info_step:(Tryz.prog.info? 184).map (fun i=>(i.zero,i.size,i.bytes))=some (some (.agg #[.string ByteArray.empty,.string ByteArray.empty,.int .i64 0]),3,40):=by kernel_rfl
/-- A round's head. -/
structure Id.StepsAt (w:World) (b:Nat) (R:List Id.Stp × Id.St) (n:Nat) (v:Value) (wr:World) (s:Id.St) (acc:List Id.Stp):Prop where
 fu:s.2=false→s.1.length+2≤n
 fo:1≤n
 ln:acc.length+s.1.length≤1000000
 pw:Id.PW w wr b s
 row:ERow wr (some w.heap.size) 184 3 Id.StpE v acc
 out:Id.withinF Id.step n s acc=R
end Go.Proofs.YtogijkhenihaaaaGreatDoor
set_option linter.unusedVariables false
set_option linter.unusedSimpArgs false
namespace Go.Proofs.YtogijkhenihaaaaGreatDoor
open Go.RowKit
namespace Id
structure Rec where
 name:ByteArray
 choice:Bool
 fields:List Fld
structure Svc where
 name:ByteArray
 methods:List Mth
structure Sag where
 name:ByteArray
 arg:ByteArray
 steps:List Stp
structure Sch where
 name:ByteArray
 records:List Rec
 services:List Svc
 sagas:List Sag
def RecE (B:Option Nat) (w:World) (cs:List Value) (x:Rec):Prop:=∃ u,cs=[.string x.name,.bool x.choice,u]∧FldsR w B u x.fields
def SvcE (B:Option Nat) (w:World) (cs:List Value) (x:Svc):Prop:=∃ u,cs=[.string x.name,u]∧ERow w B 180 5 MthE u x.methods
def SagE (B:Option Nat) (w:World) (cs:List Value) (x:Sag):Prop:=∃ u,cs=[.string x.name,.string x.arg,u]∧ERow w B 184 3 StpE u x.steps
def RecsR (w:World) (B:Option Nat) (v:Value) (l:List Rec):Prop:=ERow w B 42 3 (RecE B) v l
def SvcsR (w:World) (B:Option Nat) (v:Value) (l:List Svc):Prop:=ERow w B 101 2 (SvcE B) v l
def SagsR (w:World) (B:Option Nat) (v:Value) (l:List Sag):Prop:=ERow w B 105 3 (SagE B) v l
def schT:List TypeId:=[42,176,44,101,180,105,184]
def wModule:ByteArray:=⟨#[109,111,100,117,108,101]⟩
def wRecord:ByteArray:=⟨#[114,101,99,111,114,100]⟩
def wChoice:ByteArray:=⟨#[99,104,111,105,99,101]⟩
def wService:ByteArray:=⟨#[115,101,114,118,105,99,101]⟩
def wSaga:ByteArray:=⟨#[115,97,103,97]⟩
def decls:List ByteArray:=[wRecord,wChoice,wService,wSaga]
def record (c:Bool) (s:St):Rec × St:=(⟨(name s).1,c,(within field (name s).2).1⟩,(within field (name s).2).2)
def service (s:St):Svc × St:=(⟨(name s).1,(within method (name s).2).1⟩,(within method (name s).2).2)
def saga (s:St):Sag × St:=(⟨(name s).1,(arg (name s).2).1,(within step (arg (name s).2).2).1⟩,(within step (arg (name s).2).2).2)
def schemaF:Nat→St→Sch→Sch × St
 | 0,s,x=>(x,s)
 | f+1,s,x=>if s.2=true∨s.1=[] then (x,s) else
  if (words decls s).1.toList=[114,101,99,111,114,100] then schemaF f (record false (words decls s).2).2 { x with records:=x.records++[(record false (words decls s).2).1] } else
  if (words decls s).1.toList=[99,104,111,105,99,101] then schemaF f (record true (words decls s).2).2 { x with records:=x.records++[(record true (words decls s).2).1] } else
  if (words decls s).1.toList=[115,101,114,118,105,99,101] then schemaF f (service (words decls s).2).2 { x with services:=x.services++[(service (words decls s).2).1] } else
  if (words decls s).1.toList=[115,97,103,97] then schemaF f (saga (words decls s).2).2 { x with sagas:=x.sagas++[(saga (words decls s).2).1] } else
  schemaF f (words decls s).2 x
def schema (s:St):Sch × St :=
 let a:=name (want s wModule)
 let s1:=want a.2 sSemi
 schemaF (s1.1.length+2) s1 ⟨a.1,[],[],[]⟩
theorem record_le (c:Bool) (s:St):(record c s).2.1.length≤s.1.length:=Nat.le_trans (within_le field_le _) (name_le s)
theorem service_le (s:St):(service s).2.1.length≤s.1.length:=Nat.le_trans (within_le method_le _) (name_le s)
theorem saga_le (s:St):(saga s).2.1.length≤s.1.length:=Nat.le_trans (within_le step_le _) (Nat.le_trans (arg_le _) (name_le s))
/-- The word told, or a fault. -/
theorem words_cases (ws:List ByteArray) (s:St) (h:s.2=false):((words ws s).2.2=false∧(words ws s).2.1.length+1=s.1.length)∨((words ws s).2.2=true∧(words ws s).1=⟨#[]⟩):=by
 obtain ⟨l,bad⟩:=s
 simp only at h
 subst h
 cases l with
 | nil=>exact .inr ⟨rfl,rfl⟩
 | cons t r =>
  unfold words one
  by_cases hc:t.kind=1∧among ws t=true
  ·simp only [if_pos hc];simp
  ·simp only [if_neg hc];simp
theorem RecE.kp {base b:Nat} {T:List TypeId} {w w':World} (h:Kp base T w w') (hb:base≤b) (h1:176∈T) (h2:44∈T) (cs:List Value) (x:Rec) (he:RecE (some b) w cs x):RecE (some b) w' cs x:=by
 obtain ⟨u,e,hs⟩:=he
 exact ⟨u,e,ERow.kp hs h hb h1 (FldE.kp h hb h2)⟩
theorem SvcE.kp {base b:Nat} {T:List TypeId} {w w':World} (h:Kp base T w w') (hb:base≤b) (h1:180∈T) (cs:List Value) (x:Svc) (he:SvcE (some b) w cs x):SvcE (some b) w' cs x:=by
 obtain ⟨u,e,hs⟩:=he
 exact ⟨u,e,ERow.kp hs h hb h1 MthE.kp⟩
theorem SagE.kp {base b:Nat} {T:List TypeId} {w w':World} (h:Kp base T w w') (hb:base≤b) (h1:184∈T) (cs:List Value) (x:Sag) (he:SagE (some b) w cs x):SagE (some b) w' cs x:=by
 obtain ⟨u,e,hs⟩:=he
 exact ⟨u,e,ERow.kp hs h hb h1 StpE.kp⟩
theorem RecsR.kp {base b:Nat} {T:List TypeId} {w w':World} {v:Value} {l:List Rec} (hr:RecsR w (some b) v l) (h:Kp base T w w') (hb:base≤b) (h0:42∈T) (h1:176∈T) (h2:44∈T):RecsR w' (some b) v l:=ERow.kp hr h hb h0 (RecE.kp h hb h1 h2)
theorem SvcsR.kp {base b:Nat} {T:List TypeId} {w w':World} {v:Value} {l:List Svc} (hr:SvcsR w (some b) v l) (h:Kp base T w w') (hb:base≤b) (h0:101∈T) (h1:180∈T):SvcsR w' (some b) v l:=ERow.kp hr h hb h0 (SvcE.kp h hb h1)
theorem SagsR.kp {base b:Nat} {T:List TypeId} {w w':World} {v:Value} {l:List Sag} (hr:SagsR w (some b) v l) (h:Kp base T w w') (hb:base≤b) (h0:105∈T) (h1:184∈T):SagsR w' (some b) v l:=ERow.kp hr h hb h0 (SagE.kp h hb h1)
theorem info_rec:(Tryz.prog.info? 42).map (fun i=>(i.zero,i.size,i.bytes))=some (some (.agg #[.string ByteArray.empty,.bool false,.slice none 0 0]),3,48):=by kernel_rfl
theorem info_svc:(Tryz.prog.info? 101).map (fun i=>(i.zero,i.size,i.bytes))=some (some (.agg #[.string ByteArray.empty,.slice none 0 0]),2,40):=by kernel_rfl
theorem info_sag:(Tryz.prog.info? 105).map (fun i=>(i.zero,i.size,i.bytes))=some (some (.agg #[.string ByteArray.empty,.string ByteArray.empty,.slice none 0 0]),3,56):=by kernel_rfl
/-- What has been read lies there. -/
def SchB (w:World) (g:Nat) (base:Nat) (x:Sch):Prop:=∃ A1 n1 c1 A2 n2 c2 A3 n3 c3,Bk w g 28 #[.string x.name,.slice A1 n1 c1,.slice A2 n2 c2,.slice A3 n3 c3]∧RecsR w (some base) (.slice A1 n1 c1) x.records∧SvcsR w (some base) (.slice A2 n2 c2) x.services∧SagsR w (some base) (.slice A3 n3 c3) x.sagas
theorem SchB.kp {w w':World} {g base:Nat} {x:Sch} (h:SchB w g base x) (hb:Bk w' g 28=Bk w g 28) (hk:Kp base schT w w'):SchB w' g base x:=by
 obtain ⟨A1,n1,c1,A2,n2,c2,A3,n3,c3,k,r1,r2,r3⟩:=h
 exact ⟨A1,n1,c1,A2,n2,c2,A3,n3,c3,by rw [hb];exact k,r1.kp hk (Nat.le_refl _) (by decide) (by decide) (by decide),r2.kp hk (Nat.le_refl _) (by decide) (by decide),r3.kp hk (Nat.le_refl _) (by decide) (by decide)⟩
theorem SchB.call {w w':World} {b g base:Nat} {x:Sch} (h:SchB w g base x) (hg:w.grownBy w' (some b)) (h1:b<g) (h2:b<base):SchB w' g base x:=by
 have hk:Kp base schT w w':=Kp.grown hg h2
 obtain ⟨A1,n1,c1,A2,n2,c2,A3,n3,c3,k,r1,r2,r3⟩:=h
 exact ⟨A1,n1,c1,A2,n2,c2,A3,n3,c3,k.call hg h1,r1.kp hk (Nat.le_refl _) (by decide) (by decide) (by decide),r2.kp hk (Nat.le_refl _) (by decide) (by decide),r3.kp hk (Nat.le_refl _) (by decide) (by decide)⟩
theorem SchB.below {w w':World} {g base:Nat} {x:Sch} (h:SchB w g base x) (hb:Below w.heap.size w w'):SchB w' g base x:=by
 have hk:Kp base schT w w':=Kp.below hb
 obtain ⟨A1,n1,c1,A2,n2,c2,A3,n3,c3,k,r1,r2,r3⟩:=h
 exact ⟨A1,n1,c1,A2,n2,c2,A3,n3,c3,k.below hb k.lt,r1.kp hk (Nat.le_refl _) (by decide) (by decide) (by decide),r2.kp hk (Nat.le_refl _) (by decide) (by decide),r3.kp hk (Nat.le_refl _) (by decide) (by decide)⟩
theorem SchB.rec {w:World} {g base:Nat} {x:Sch} {y:Rec} {A1 A2 A3 A7:Option Addr} {n1 c1 n2 c2 n3 c3 n7 c7:Nat} (hq:Bk w g 28 #[.string x.name,.slice A1 n1 c1,.slice A2 n2 c2,.slice A3 n3 c3]) (h1:RecsR w (some base) (.slice A7 n7 c7) (x.records++[y])) (h2:SvcsR w (some base) (.slice A2 n2 c2) x.services) (h3:SagsR w (some base) (.slice A3 n3 c3) x.sagas) :
  SchB (w.setCell ⟨g,1,none⟩ (.slice A7 n7 c7)) g base { x with records:=x.records++[y] }:=by
 have hk:Kp base schT w (w.setCell ⟨g,1,none⟩ (.slice A7 n7 c7)):=(Only.set hq 1 _).kp base (by decide)
 exact ⟨A7,n7,c7,A2,n2,c2,A3,n3,c3,hq.set_ 1 _,h1.kp hk (Nat.le_refl _) (by decide) (by decide) (by decide),h2.kp hk (Nat.le_refl _) (by decide) (by decide),h3.kp hk (Nat.le_refl _) (by decide) (by decide)⟩
theorem SchB.svc {w:World} {g base:Nat} {x:Sch} {y:Svc} {A1 A2 A3 A7:Option Addr} {n1 c1 n2 c2 n3 c3 n7 c7:Nat} (hq:Bk w g 28 #[.string x.name,.slice A1 n1 c1,.slice A2 n2 c2,.slice A3 n3 c3]) (h1:RecsR w (some base) (.slice A1 n1 c1) x.records) (h2:SvcsR w (some base) (.slice A7 n7 c7) (x.services++[y])) (h3:SagsR w (some base) (.slice A3 n3 c3) x.sagas) :
  SchB (w.setCell ⟨g,2,none⟩ (.slice A7 n7 c7)) g base { x with services:=x.services++[y] }:=by
 have hk:Kp base schT w (w.setCell ⟨g,2,none⟩ (.slice A7 n7 c7)):=(Only.set hq 2 _).kp base (by decide)
 exact ⟨A1,n1,c1,A7,n7,c7,A3,n3,c3,hq.set_ 2 _,h1.kp hk (Nat.le_refl _) (by decide) (by decide) (by decide),h2.kp hk (Nat.le_refl _) (by decide) (by decide),h3.kp hk (Nat.le_refl _) (by decide) (by decide)⟩
theorem SchB.sag {w:World} {g base:Nat} {x:Sch} {y:Sag} {A1 A2 A3 A7:Option Addr} {n1 c1 n2 c2 n3 c3 n7 c7:Nat} (hq:Bk w g 28 #[.string x.name,.slice A1 n1 c1,.slice A2 n2 c2,.slice A3 n3 c3]) (h1:RecsR w (some base) (.slice A1 n1 c1) x.records) (h2:SvcsR w (some base) (.slice A2 n2 c2) x.services) (h3:SagsR w (some base) (.slice A7 n7 c7) (x.sagas++[y])) :
  SchB (w.setCell ⟨g,3,none⟩ (.slice A7 n7 c7)) g base { x with sagas:=x.sagas++[y] }:=by
 have hk:Kp base schT w (w.setCell ⟨g,3,none⟩ (.slice A7 n7 c7)):=(Only.set hq 3 _).kp base (by decide)
 exact ⟨A1,n1,c1,A2,n2,c2,A7,n7,c7,hq.set_ 3 _,h1.kp hk (Nat.le_refl _) (by decide) (by decide) (by decide),h2.kp hk (Nat.le_refl _) (by decide) (by decide),h3.kp hk (Nat.le_refl _) (by decide) (by decide)⟩
theorem PW.row {w0 w w':World} {b:Nat} {s:St} (h:PW w0 w b s) {e:TypeId} (hb:Below w0.heap.size w w') (ho:Only e w w') (hw:0<w0.heap.size) (h1:171≠e) (h2:169≠e):PW w0 w' b s :=
 ⟨h.ps.only ho h1 h2,⟨Nat.lt_of_lt_of_le h.kw.1 hb.size,fun j hj=>(hb.cell (p:=⟨0,0+j,none⟩) hw).trans (h.kw.2 j hj)⟩,gb_join h.gb hb⟩
theorem empty_toList:(⟨#[]⟩:ByteArray).toList=[]:=by unfold ByteArray.toList ByteArray.toList.loop;rfl
structure SchAt (w:World) (b:Nat) (R:Sch × St) (n:Nat) (wr:World) (s:St) (x:Sch):Prop where
 fu:s.2=false→s.1.length+2≤n
 fo:1≤n
 ln:x.records.length+x.services.length+x.sagas.length+s.1.length≤1000000
 pw:PW w wr b s
 blk:SchB wr w.heap.size w.heap.size x
 out:schemaF n s x=R
end Id
end Go.Proofs.YtogijkhenihaaaaGreatDoor
set_option linter.unusedVariables false
set_option linter.unusedSimpArgs false
namespace Go.Proofs.YtogijkhenihaaaaGreatDoor
namespace Prn
open Go.Proofs.YtogijkhenihaaaaGreatDoor.Id
def wBool:ByteArray:=⟨#[98,111,111,108]⟩
def wText:ByteArray:=⟨#[116,101,120,116]⟩
def sortW (x:Srt):ByteArray:=if x.kind=1 then wNone else if x.kind=2 then wBool else if x.kind=3 then wInt else if x.kind=4 then wText else if x.kind=5 then wList else if x.kind=6 then wOpt else x.name
def numW (n:Int):ByteArray:=⟨(Lib.itoa n).toArray⟩
def fldW (f:Fld):List ByteArray:=f.name::sColon::(f.type.map sortW++[sSemi])
def recW (r:Rec):List ByteArray:=(if r.choice then wChoice else wRecord)::r.name::sLeft::(r.fields.flatMap fldW++[sRight])
def undoW (m:Mth):List ByteArray:=if m.undo.toList.isEmpty then [] else [wUndo,m.undo]
def mthW (m:Mth):List ByteArray:=m.effect::m.name::sOpen::m.arg::sClose::sArrow::sortW ⟨m.result,⟨#[]⟩⟩::(undoW m++[sSemi])
def svcW (v:Svc):List ByteArray:=wService::v.name::sLeft::(v.methods.flatMap mthW++[sRight])
def stpW (p:Stp):List ByteArray:=[wDo,p.service,sDot,p.method,wAt,numW p.at_,sSemi]
def sagW (g:Sag):List ByteArray:=wSaga::g.name::sOpen::g.arg::sClose::sLeft::(g.steps.flatMap stpW++[sRight])
def schW (x:Sch):List ByteArray:=wModule::x.name::sSemi::(x.records.flatMap recW++(x.services.flatMap svcW++x.sagas.flatMap sagW))
/-- Words, a blank between any two. -/
def jl:List ByteArray→List UInt8
 | []=>[]
 | w::l=>w.data.toList++l.flatMap fun u=>32::u.data.toList
def jn (l:List ByteArray):ByteArray:=⟨(jl l).toArray⟩
theorem jn_data (l:List ByteArray):(jn l).data.toList=jl l:=by simp [jn]
end Prn
end Go.Proofs.YtogijkhenihaaaaGreatDoor
