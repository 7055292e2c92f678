import Derived.Test.YtogijkhenihaaaaGreatDoorGB02
import Derived.Test.YtogijkhenihaaaaGreatDoorGB05
import Derived.Lib.ItoaMem
set_option linter.all false
set_option maxRecDepth 100000
set_option maxHeartbeats 0
namespace Go.Proofs.YtogijkhenihaaaaGreatDoor
open Lib (hid)
section
open Go.RowKit
namespace Sm
end Sm
namespace Sm
end Sm
end
section
open Go.BigFrame Go.RowKit
namespace Sm
end Sm
namespace Sm
end Sm
namespace Sm
theorem getD_byte(s:ByteArray)(i:Nat)(h:i<s.size):s.data.toList.getD i 0=s[i]:=by
 rw[yG,yF (by simpa using h)];rfl
end Sm
namespace Sm
end Sm
namespace Sm
end Sm
namespace Sm
end Sm
end
namespace Ev
def Bq:Nat->Nat->List UInt8
 |0,x=>[UInt8.ofNat x]
 |f+1,x=>if x<128 then[UInt8.ofNat x]else UInt8.ofNat (x % 128+128)::Bq f (x / 128)
def var(x:Nat):List UInt8:=Bq 9 x
structure Letter where
 kind:Nat
 from_:Int
 to_:Int
 seq:Nat
 key:ByteArray
 print:Nat
 svc:ByteArray
 mth:ByteArray
 code:Int
 body:ByteArray
def Letter.zero:Letter:=⟨0,0,0,0,ByteArray.empty,0,ByteArray.empty,ByteArray.empty,0,ByteArray.empty⟩
def Letter.val(l:Letter):Value:=.agg #[.int .u8 l.kind,.int .i64 l.from_,.int .i64 l.to_,.int .u64 l.seq,.string l.key,.int .u64 l.print,.string l.svc,.string l.mth,.int .i64 l.code,.string l.body]
end Ev
namespace Id
abbrev St:=List Tk.Tok × Bool
def is(s:St)(text:ByteArray):Bool:=!s.2&&(match s.1 with
 |[]=>false
 |t::_=>!(t.kind==2)&&(t.text.toList==text.toList))
def take(s:St)(text:ByteArray):Bool × St:=if is s text then(true,(s.1.tail,s.2))else(false,s)
def want(s:St)(text:ByteArray):St:=if is s text then(s.1.tail,s.2)else(s.1,true)
def one(s:St)(kind:Nat)(right:Tk.Tok->Bool):Tk.Tok × St:=match s with
 |(t::r,false)=>if t.kind=kind/\right t=true then(t,(r,false))else(⟨0,⟨#[]⟩,0,0⟩,(t::r,true))
 |(l,_)=>(⟨0,⟨#[]⟩,0,0⟩,(l,true))
end Id
section
open Go.RowKit
theorem Id.pI{s:Id.St}{text:ByteArray}(h:Id.is s text=true):∃ t r,s=(t::r,false):=by
 obtain⟨l,bad⟩:=s;cases bad
 ·cases l with
  |nil=>cases h
  |cons t r=>exact⟨t,r,rfl⟩
 ·cases h
def Id.name(s:Id.St):ByteArray × Id.St:=((Id.one s 1 (λt=>Tk.isName t.text)).1.text,(Id.one s 1 (λt=>Tk.isName t.text)).2)
def Id.endW(s:ByteArray):Nat:=if s.toList=[110,111,110,101]then 1 else if s.toList=[98,111,111,108]then 2 else if s.toList=[105,110,116]then 3 else if s.toList=[116,101,120,116]then 4 else 0
def Id.among(some:List ByteArray)(t:Tk.Tok):Bool:=some.any λx=>t.text.toList==x.toList
def Id.words(ws:List ByteArray)(s:Id.St):ByteArray × Id.St:=((Id.one s 1 (Id.among ws)).1.text,(Id.one s 1 (Id.among ws)).2)
namespace Id
structure Srt where
 kind:Nat
 name:ByteArray
def Srt.cells(x:Srt):List Value:=[.int .u8 x.kind,.string x.name]
def gU(w:World)(cs:List Value)(x:Srt):Prop:=cs=x.cells
def bG(w:World)(B:Option Nat)(v:Value)(l:List Srt):Prop:=ah w B 44 2 gU v l
def mY:ByteArray:=⟨#[108,105,115,116]⟩
def oZ:ByteArray:=⟨#[111,112,116]⟩
def ends(s:St):Bool:=match s.1 with
 |[]=>false
 |t::_=>(t.kind==1)&&!(endW t.text==0)
def head(s:St):ByteArray:=match s.1 with
 |[]=>⟨#[]⟩
 |t::_=>t.text
def fA:Nat->St->List Srt->List Srt × St
 |0,s,acc=>([],s)
 |f+1,s,acc=>if s.2 then([],s)else
  if is s mY then fA f (s.1.tail,s.2) (acc++[⟨5,⟨#[]⟩⟩])else
  if is s oZ then fA f (s.1.tail,s.2) (acc++[⟨6,⟨#[]⟩⟩])else
  if ends s then(acc++[⟨endW (head s),⟨#[]⟩⟩],(s.1.tail,s.2))else
  (acc++[⟨7,(name s).1⟩],(name s).2)
def sorts(s:St):List Srt × St:=fA (s.1.length+1) s []
end Id
theorem Id.mM:(Tryz.prog.info? 44).map (λi=>(i.zero,i.size,i.bytes))=some (some (.agg #[.int .u8 0,.string ByteArray.empty]),2,24):=by kernel_rfl
namespace Id
structure Fld where
 name:ByteArray
 type:List Srt
def gJ(B:Option Nat)(w:World)(cs:List Value)(x:Fld):Prop:=∃ u,cs=[.string x.name,u]/\bG w B u x.type
def jC(w:World)(B:Option Nat)(v:Value)(l:List Fld):Prop:=ah w B 176 2 (gJ B) v l
def iU:ByteArray:=⟨#[58]⟩
def aQ:ByteArray:=⟨#[59]⟩
def field(s:St):Fld × St:=(⟨(name s).1,(sorts (want (name s).2 iU)).1⟩,want (sorts (want (name s).2 iU)).2 aQ)
theorem one_le(s:St)(k:Nat)(p:Tk.Tok->Bool):(one s k p).2.1.length<=s.1.length:=by
 obtain⟨l,bad⟩:=s;unfold one;split
 ·rename_i h;injection h with h1 h2;subst h1
  split<;>simp
 ·rename_i h;injection h with h1 h2;subst h1;simp
theorem iD(s:St):(name s).2.1.length<=s.1.length:=one_le s _ _
theorem jk(s:St)(x:ByteArray):(want s x).1.length<=s.1.length:=by
 unfold want;split<;>simp
theorem Hw(s:St)(x:ByteArray):(take s x).2.1.length<=s.1.length:=by
 unfold take;split<;>simp
theorem wH:∀(f:Nat)(s:St)(acc:List Srt),(fA f s acc).2.1.length<=s.1.length
 |0,s,acc=>xB _
 |f+1,s,acc=>by
  unfold fA;split
  ·exact xB _
  ·split
   ·exact xM (wH f _ _) (by simp)
   ·split
    ·exact xM (wH f _ _) (by simp)
    ·split
     ·simp
     ·exact iD s
theorem Ew(s:St):(sorts s).2.1.length<=s.1.length:=wH _ _ _
theorem vT(s:St):(field s).2.1.length<=s.1.length:=xM (jk _ _) (xM (Ew _) (xM (jk _ _) (iD _)))
end Id
namespace Id.PW
end Id.PW
namespace Id
def iJ:ByteArray:=⟨#[40]⟩
def gu:ByteArray:=⟨#[41]⟩
def arg(s:St):ByteArray × St:=((name (want s iJ)).1,want (name (want s iJ)).2 gu)
theorem Bf(s:St):(arg s).2.1.length<=s.1.length:=xM (jk _ _) (xM (iD _) (jk _ _))
structure Stp where
 service:ByteArray
 method:ByteArray
 at_:Int
def Stp.cells(x:Stp):List Value:=[.string x.service,.string x.method,.int .i64 x.at_]
def dU(w:World)(cs:List Value)(x:Stp):Prop:=cs=x.cells
def wDo:ByteArray:=⟨#[100,111]⟩
def kW:ByteArray:=⟨#[46]⟩
def wAt:ByteArray:=⟨#[97,116]⟩
def num(s:St):Nat × St:=((one s 2 (λ_=>true)).1.num,(one s 2 (λ_=>true)).2)
def step(s:St):Stp × St :=
 let a:=name (want s wDo)
 let c:=name (want a.2 kW)
 let d:=num (want c.2 wAt)
 (⟨a.1,c.1,d.1⟩,want d.2 aQ)
theorem MI(s:St):(num s).2.1.length<=s.1.length:=one_le s _ _
theorem Bz(s:St):(step s).2.1.length<=s.1.length:=xM (jk _ _) (xM (MI _) (xM (jk _ _) (xM (iD _) (xM (jk _ _) (xM (iD _) (jk _ _))))))
end Id
namespace Id
structure Mth where
 name:ByteArray
 arg:ByteArray
 result:Nat
 effect:ByteArray
 undo:ByteArray
def Mth.cells(x:Mth):List Value:=[.string x.name,.string x.arg,.int .u8 x.result,.string x.effect,.string x.undo]
def dV(w:World)(cs:List Value)(x:Mth):Prop:=cs=x.cells
def fO:ByteArray:=⟨#[103,105,118,101]⟩
def fK:ByteArray:=⟨#[116,97,107,101]⟩
def fM:ByteArray:=⟨#[110,111,116,101]⟩
def nJ:ByteArray:=⟨#[105,110,116]⟩
def kH:ByteArray:=⟨#[110,111,110,101]⟩
def iI:ByteArray:=⟨#[117,110,100,111]⟩
def jw:ByteArray:=⟨#[45,62]⟩
def method(s:St):Mth × St :=
 let a:=words [fO,fK,fM] s
 let b:=name a.2
 let c:=arg b.2
 let d:=words [nJ,kH] (want c.2 jw)
 let t:=take d.2 iI
 let u:=if t.1 then name t.2 else(⟨#[]⟩,t.2)
 (⟨b.1,c.1,endW d.1,a.1,u.1⟩,want u.2 aQ)
theorem uX(ws:List ByteArray)(s:St):(words ws s).2.1.length<=s.1.length:=one_le s _ _
theorem wS(s:St):(method s).2.1.length<=s.1.length:=by
 unfold method;dsimp only;have h1:=uX [fO,fK,fM] s;generalize words [fO,fK,fM] s=a at *;have h2:=iD a.2;generalize name a.2=b at *;have h3:=Bf b.2;generalize arg b.2=c at *;have h4:=jk c.2 jw;generalize want c.2 jw=s4 at *;have h5:=uX [nJ,kH] s4;generalize words [nJ,kH] s4=d at *;have h6:=Hw d.2 iI;generalize take d.2 iI=t at *;have h7:=iD t.2;refine xM (jk _ _) ?_;split
 ·omega
 ·simp only
  omega
end Id
namespace Id
def bF:ByteArray:=⟨#[123]⟩
def aJ:ByteArray:=⟨#[125]⟩
def jA{α:Type}(read:St->α × St):Nat->St->List α->List α × St
 |0,s,acc=>(acc,s)
 |f+1,s,acc=>if s.2 then(acc,s)else if is s aJ then(acc,(s.1.tail,s.2))else jA read f (read s).2 (if(read s).2.2 then acc else acc++[(read s).1])
def within{α:Type}(read:St->α × St)(s:St):List α × St:=jA read ((want s bF).1.length+2) (want s bF) []
theorem Ov{s:St}{k:Nat}{p:Tk.Tok->Bool}(h:(one s k p).2.2=false):s.2=false/\(one s k p).2.1.length+1=s.1.length:=by
 obtain⟨l,bad⟩:=s;cases bad
 ·cases l with
  |nil=>cases h
  |cons t r =>
   unfold one at h ⊢;by_cases hc:t.kind=k/\p t=true
   ·simp only[if_pos hc];simp
   ·simp only[if_neg hc]at h;cases h
 ·cases l<;>cases h
theorem ML{s:St}(h:(name s).2.2=false):s.2=false/\(name s).2.1.length+1=s.1.length:=Ov h
theorem sQ{s:St}{x:ByteArray}(h:(want s x).2=false):s.2=false/\(want s x).1.length+1=s.1.length:=by
 unfold want at h ⊢;by_cases hi:is s x=true
 ·obtain⟨t,r,rfl⟩:=pI hi
  simp only[if_pos hi]at h ⊢;simp
 ·simp only[if_neg hi]at h;cases h
theorem Gg:∀(f:Nat)(s:St)(acc:List Srt),s.1.length<f->(fA f s acc).2.2=false->s.2=false
 |0,s,acc,hf,h=>by omega
 |f+1,s,acc,hf,h=>by
  obtain⟨l,bad⟩:=s;cases bad
  ·rfl
  ·simp[fA]at h
theorem IE{s:St}(h:(sorts s).2.2=false):s.2=false:=Gg _ _ _ (Nat.lt_succ_self _) h
theorem JF{s:St}(h:(field s).2.2=false):(field s).2.1.length<s.1.length:=by
 have h1:=sQ h;have h2:=IE h1.1;have h3:=sQ h2;have h4:=ML h3.1;have h5:=Ew (want (name s).2 iU);have e:(field s).2=want (sorts (want (name s).2 iU)).2 aQ:=rfl;rw[e];omega
theorem Lh{s:St}(h:(step s).2.2=false):(step s).2.1.length<s.1.length:=by
 have h1:=sQ (s:=(num (want (name (want (name (want s wDo)).2 kW)).2 wAt)).2) h;have h2:=MI (want (name (want (name (want s wDo)).2 kW)).2 wAt);have h3:=jk (name (want (name (want s wDo)).2 kW)).2 wAt;have h4:=iD (want (name (want s wDo)).2 kW);have h5:=jk (name (want s wDo)).2 kW;have h6:=iD (want s wDo);have h7:=jk s wDo;have e:(step s).2=want (num (want (name (want (name (want s wDo)).2 kW)).2 wAt)).2 aQ:=rfl;rw[e];omega
theorem Gz{s:St}(h:(method s).2.2=false):(method s).2.1.length<s.1.length:=by
 unfold method at h ⊢;dsimp only at h ⊢;have h1:=uX [fO,fK,fM] s;generalize words [fO,fK,fM] s=a at *;have h2:=iD a.2;generalize name a.2=b at *;have h3:=Bf b.2;generalize arg b.2=c at *;have h4:=jk c.2 jw;generalize want c.2 jw=s4 at *;have h5:=uX [nJ,kH] s4;generalize words [nJ,kH] s4=d at *;have h6:=Hw d.2 iI;generalize take d.2 iI=t at *;have h7:=iD t.2;have h8:=sQ h;refine Nat.lt_of_lt_of_le (Nat.lt_of_succ_le (Nat.le_of_eq h8.2)) ?_;split
 ·omega
 ·simp only
  omega
theorem zT{α:Type}{read:St->α × St}(hr:∀ s,(read s).2.1.length<=s.1.length):∀(f:Nat)(s:St)(acc:List α),(jA read f s acc).2.1.length<=s.1.length
 |0,s,acc=>xB _
 |f+1,s,acc=>by
  unfold jA;split
  ·exact xB _
  ·split
   ·simp
   ·exact xM (zT hr f _ _) (hr s)
theorem lV{α:Type}{read:St->α × St}(hr:∀ s,(read s).2.1.length<=s.1.length)(s:St):(within read s).2.1.length<=s.1.length:=xM (zT hr _ _ _) (jk _ _)
theorem Srt.OZ{base b:Nat}{T:List TypeId}{w w':World}(h:Kp base T w w')(hb:base<=b)(ht:44∈T){v:Value}{l:List Srt}(hs:bG w (some b) v l):bG w' (some b) v l:=ah.kp hs h hb ht (λ_ _ h=>h)
theorem gJ.kp{base b:Nat}{T:List TypeId}{w w':World}(h:Kp base T w w')(hb:base<=b)(ht:44∈T)(cs:List Value)(x:Fld)(he:gJ (some b) w cs x):gJ (some b) w' cs x:=by
 obtain⟨u,e,hs⟩:=he;exact⟨u,e,Srt.OZ h hb ht hs⟩
theorem dV.kp{w w':World}(cs:List Value)(x:Mth)(he:dV w cs x):dV w' cs x:=he
theorem dU.kp{w w':World}(cs:List Value)(x:Stp)(he:dU w cs x):dU w' cs x:=he
end Id
theorem Id.J5:(Tryz.prog.info? 176).map (λi=>(i.zero,i.size,i.bytes))=some (some (.agg #[.string ByteArray.empty,.slice none 0 0]),2,40):=by kernel_rfl
theorem Id.nS:(Tryz.prog.info? 180).map (λi=>(i.zero,i.size,i.bytes))=some (some (.agg #[.string ByteArray.empty,.string ByteArray.empty,.int .u8 0,.string ByteArray.empty,.string ByteArray.empty]),5,72):=by kernel_rfl
theorem Id.Dk:(Tryz.prog.info? 184).map (λi=>(i.zero,i.size,i.bytes))=some (some (.agg #[.string ByteArray.empty,.string ByteArray.empty,.int .i64 0]),3,40):=by kernel_rfl
namespace Id
structure Rec where
 name:ByteArray
 choice:Bool
 fields:List Fld
structure Svc where
 name:ByteArray
 methods:List Mth
structure Sag where
 name:ByteArray
 arg:ByteArray
 steps:List Stp
structure Sch where
 name:ByteArray
 records:List Rec
 services:List Svc
 sagas:List Sag
def jG(B:Option Nat)(w:World)(cs:List Value)(x:Rec):Prop:=∃ u,cs=[.string x.name,.bool x.choice,u]/\jC w B u x.fields
def kE(B:Option Nat)(w:World)(cs:List Value)(x:Svc):Prop:=∃ u,cs=[.string x.name,u]/\ah w B 180 5 dV u x.methods
def kF(B:Option Nat)(w:World)(cs:List Value)(x:Sag):Prop:=∃ u,cs=[.string x.name,.string x.arg,u]/\ah w B 184 3 dU u x.steps
def oV(w:World)(B:Option Nat)(v:Value)(l:List Rec):Prop:=ah w B 42 3 (jG B) v l
def nY(w:World)(B:Option Nat)(v:Value)(l:List Svc):Prop:=ah w B 101 2 (kE B) v l
def nZ(w:World)(B:Option Nat)(v:Value)(l:List Sag):Prop:=ah w B 105 3 (kF B) v l
def qJ:List TypeId:=[42,176,44,101,180,105,184]
def fP:ByteArray:=⟨#[109,111,100,117,108,101]⟩
def jm:ByteArray:=⟨#[114,101,99,111,114,100]⟩
def jo:ByteArray:=⟨#[99,104,111,105,99,101]⟩
def iL:ByteArray:=⟨#[115,101,114,118,105,99,101]⟩
def lT:ByteArray:=⟨#[115,97,103,97]⟩
def decls:List ByteArray:=[jm,jo,iL,lT]
def record(c:Bool)(s:St):Rec × St:=(⟨(name s).1,c,(within field (name s).2).1⟩,(within field (name s).2).2)
def service(s:St):Svc × St:=(⟨(name s).1,(within method (name s).2).1⟩,(within method (name s).2).2)
def saga(s:St):Sag × St:=(⟨(name s).1,(arg (name s).2).1,(within step (arg (name s).2).2).1⟩,(within step (arg (name s).2).2).2)
def cO:Nat->St->Sch->Sch × St
 |0,s,x=>(x,s)
 |f+1,s,x=>if s.2=true∨s.1=[]then(x,s)else
  if(words decls s).1.toList=[114,101,99,111,114,100]then cO f (record false (words decls s).2).2 { x with records:=x.records++[(record false (words decls s).2).1] }else
  if(words decls s).1.toList=[99,104,111,105,99,101]then cO f (record true (words decls s).2).2 { x with records:=x.records++[(record true (words decls s).2).1] }else
  if(words decls s).1.toList=[115,101,114,118,105,99,101]then cO f (service (words decls s).2).2 { x with services:=x.services++[(service (words decls s).2).1] }else
  if(words decls s).1.toList=[115,97,103,97]then cO f (saga (words decls s).2).2 { x with sagas:=x.sagas++[(saga (words decls s).2).1] }else
  cO f (words decls s).2 x
def schema(s:St):Sch × St :=
 let a:=name (want s fP)
 let s1:=want a.2 aQ
 cO (s1.1.length+2) s1 ⟨a.1,[],[],[]⟩
theorem CV(c:Bool)(s:St):(record c s).2.1.length<=s.1.length:=xM (lV vT _) (iD s)
theorem IU(s:St):(service s).2.1.length<=s.1.length:=xM (lV wS _) (iD s)
theorem PO(s:St):(saga s).2.1.length<=s.1.length:=xM (lV Bz _) (xM (Bf _) (iD s))
theorem FZ(ws:List ByteArray)(s:St)(h:s.2=false):((words ws s).2.2=false/\(words ws s).2.1.length+1=s.1.length)∨((words ws s).2.2=true/\(words ws s).1=⟨#[]⟩):=by
 obtain⟨l,bad⟩:=s;simp only at h;subst h;cases l with
 |nil=>exact .inr ⟨rfl,rfl⟩
 |cons t r =>
  unfold words one;by_cases hc:t.kind=1/\among ws t=true
  ·simp only[if_pos hc];simp
  ·simp only[if_neg hc];simp
theorem jG.kp{base b:Nat}{T:List TypeId}{w w':World}(h:Kp base T w w')(hb:base<=b)(h1:176∈T)(h2:44∈T)(cs:List Value)(x:Rec)(he:jG (some b) w cs x):jG (some b) w' cs x:=by
 obtain⟨u,e,hs⟩:=he;exact⟨u,e,ah.kp hs h hb h1 (gJ.kp h hb h2)⟩
theorem kE.kp{base b:Nat}{T:List TypeId}{w w':World}(h:Kp base T w w')(hb:base<=b)(h1:180∈T)(cs:List Value)(x:Svc)(he:kE (some b) w cs x):kE (some b) w' cs x:=by
 obtain⟨u,e,hs⟩:=he;exact⟨u,e,ah.kp hs h hb h1 dV.kp⟩
theorem kF.kp{base b:Nat}{T:List TypeId}{w w':World}(h:Kp base T w w')(hb:base<=b)(h1:184∈T)(cs:List Value)(x:Sag)(he:kF (some b) w cs x):kF (some b) w' cs x:=by
 obtain⟨u,e,hs⟩:=he;exact⟨u,e,ah.kp hs h hb h1 dU.kp⟩
theorem oV.kp{base b:Nat}{T:List TypeId}{w w':World}{v:Value}{l:List Rec}(hr:oV w (some b) v l)(h:Kp base T w w')(hb:base<=b)(h0:42∈T)(h1:176∈T)(h2:44∈T):oV w' (some b) v l:=ah.kp hr h hb h0 (jG.kp h hb h1 h2)
theorem nY.kp{base b:Nat}{T:List TypeId}{w w':World}{v:Value}{l:List Svc}(hr:nY w (some b) v l)(h:Kp base T w w')(hb:base<=b)(h0:101∈T)(h1:180∈T):nY w' (some b) v l:=ah.kp hr h hb h0 (kE.kp h hb h1)
theorem nZ.kp{base b:Nat}{T:List TypeId}{w w':World}{v:Value}{l:List Sag}(hr:nZ w (some b) v l)(h:Kp base T w w')(hb:base<=b)(h0:105∈T)(h1:184∈T):nZ w' (some b) v l:=ah.kp hr h hb h0 (kF.kp h hb h1)
theorem F8:(Tryz.prog.info? 42).map (λi=>(i.zero,i.size,i.bytes))=some (some (.agg #[.string ByteArray.empty,.bool false,.slice none 0 0]),3,48):=by kernel_rfl
theorem OE:(Tryz.prog.info? 101).map (λi=>(i.zero,i.size,i.bytes))=some (some (.agg #[.string ByteArray.empty,.slice none 0 0]),2,40):=by kernel_rfl
theorem OG:(Tryz.prog.info? 105).map (λi=>(i.zero,i.size,i.bytes))=some (some (.agg #[.string ByteArray.empty,.string ByteArray.empty,.slice none 0 0]),3,56):=by kernel_rfl
def sJ(w:World)(g:Nat)(base:Nat)(x:Sch):Prop:=∃ A1 n1 c1 A2 n2 c2 A3 n3 c3,Bk w g 28 #[.string x.name,.slice A1 n1 c1,.slice A2 n2 c2,.slice A3 n3 c3]/\oV w (some base) (.slice A1 n1 c1) x.records/\nY w (some base) (.slice A2 n2 c2) x.services/\nZ w (some base) (.slice A3 n3 c3) x.sagas
theorem sJ.rec{w:World}{g base:Nat}{x:Sch}{y:Rec}{A1 A2 A3 A7:Option Addr}{n1 c1 n2 c2 n3 c3 n7 c7:Nat}(hq:Bk w g 28 #[.string x.name,.slice A1 n1 c1,.slice A2 n2 c2,.slice A3 n3 c3])(h1:oV w (some base) (.slice A7 n7 c7) (x.records++[y]))(h2:nY w (some base) (.slice A2 n2 c2) x.services)(h3:nZ w (some base) (.slice A3 n3 c3) x.sagas) :
  sJ (w.setCell ⟨g,1,none⟩ (.slice A7 n7 c7)) g base { x with records:=x.records++[y] }:=by
 have hk:Kp base qJ w (w.setCell ⟨g,1,none⟩ (.slice A7 n7 c7)):=(Only.set hq 1 _).kp base (by decide);exact⟨A7,n7,c7,A2,n2,c2,A3,n3,c3,hq.aA 1 _,h1.kp hk (xB _) (by decide) (by decide) (by decide),h2.kp hk (xB _) (by decide) (by decide),h3.kp hk (xB _) (by decide) (by decide)⟩
theorem sJ.svc{w:World}{g base:Nat}{x:Sch}{y:Svc}{A1 A2 A3 A7:Option Addr}{n1 c1 n2 c2 n3 c3 n7 c7:Nat}(hq:Bk w g 28 #[.string x.name,.slice A1 n1 c1,.slice A2 n2 c2,.slice A3 n3 c3])(h1:oV w (some base) (.slice A1 n1 c1) x.records)(h2:nY w (some base) (.slice A7 n7 c7) (x.services++[y]))(h3:nZ w (some base) (.slice A3 n3 c3) x.sagas) :
  sJ (w.setCell ⟨g,2,none⟩ (.slice A7 n7 c7)) g base { x with services:=x.services++[y] }:=by
 have hk:Kp base qJ w (w.setCell ⟨g,2,none⟩ (.slice A7 n7 c7)):=(Only.set hq 2 _).kp base (by decide);exact⟨A1,n1,c1,A7,n7,c7,A3,n3,c3,hq.aA 2 _,h1.kp hk (xB _) (by decide) (by decide) (by decide),h2.kp hk (xB _) (by decide) (by decide),h3.kp hk (xB _) (by decide) (by decide)⟩
theorem sJ.sag{w:World}{g base:Nat}{x:Sch}{y:Sag}{A1 A2 A3 A7:Option Addr}{n1 c1 n2 c2 n3 c3 n7 c7:Nat}(hq:Bk w g 28 #[.string x.name,.slice A1 n1 c1,.slice A2 n2 c2,.slice A3 n3 c3])(h1:oV w (some base) (.slice A1 n1 c1) x.records)(h2:nY w (some base) (.slice A2 n2 c2) x.services)(h3:nZ w (some base) (.slice A7 n7 c7) (x.sagas++[y])) :
  sJ (w.setCell ⟨g,3,none⟩ (.slice A7 n7 c7)) g base { x with sagas:=x.sagas++[y] }:=by
 have hk:Kp base qJ w (w.setCell ⟨g,3,none⟩ (.slice A7 n7 c7)):=(Only.set hq 3 _).kp base (by decide);exact⟨A1,n1,c1,A2,n2,c2,A7,n7,c7,hq.aA 3 _,h1.kp hk (xB _) (by decide) (by decide) (by decide),h2.kp hk (xB _) (by decide) (by decide),h3.kp hk (xB _) (by decide) (by decide)⟩
theorem iG:(⟨#[]⟩:ByteArray).toList=[]:=by unfold ByteArray.toList ByteArray.toList.loop;rfl
end Id
end
namespace Prn
open Id
def DZ:ByteArray:=⟨#[98,111,111,108]⟩
def wText:ByteArray:=⟨#[116,101,120,116]⟩
def bH(x:Srt):ByteArray:=if x.kind=1 then kH else if x.kind=2 then DZ else if x.kind=3 then nJ else if x.kind=4 then wText else if x.kind=5 then mY else if x.kind=6 then oZ else x.name
def qO(n:Int):ByteArray:=⟨(Lib.itoa n).toArray⟩
def fF(f:Fld):List ByteArray:=f.name::iU::(f.type.map bH++[aQ])
def eu(r:Rec):List ByteArray:=(if r.choice then jo else jm)::r.name::bF::(r.fields.flatMap fF++[aJ])
def kR(m:Mth):List ByteArray:=if m.undo.toList.isEmpty then[]else[iI,m.undo]
def iZ(m:Mth):List ByteArray:=m.effect::m.name::iJ::m.arg::gu::jw::bH ⟨m.result,⟨#[]⟩⟩::(kR m++[aQ])
def dn(v:Svc):List ByteArray:=iL::v.name::bF::(v.methods.flatMap iZ++[aJ])
def kD(p:Stp):List ByteArray:=[wDo,p.service,kW,p.method,wAt,qO p.at_,aQ]
def bW(g:Sag):List ByteArray:=lT::g.name::iJ::g.arg::gu::bF::(g.steps.flatMap kD++[aJ])
def jP(x:Sch):List ByteArray:=fP::x.name::aQ::(x.records.flatMap eu++(x.services.flatMap dn++x.sagas.flatMap bW))
def jl:List ByteArray->List UInt8
 |[]=>[]
 |w::l=>w.data.toList++l.flatMap λu=>32::u.data.toList
def jn(l:List ByteArray):ByteArray:=⟨(jl l).toArray⟩
theorem Qp(l:List ByteArray):(jn l).data.toList=jl l:=by simp[jn]
end Prn
section
open Go.RowKit
def o8(w:World)(cs:List Value)(x:ByteArray):Prop:=cs=[.string x]
def fH(w:World)(B:Option Nat)(v:Value)(l:List ByteArray):Prop:=ah w B 9 1 o8 v l
theorem oI:(Tryz.prog.info? 9).map (λi=>(i.zero,i.size,i.bytes))=some (some (.string ByteArray.empty),1,16):=by kernel_rfl
theorem wB{P:Program}{ops:Array Oper}{rest:List Oper}{o:Oper}{a:Act}{Q:Exit->Act->World->Prop}{w:World}(hgd:o.guard=none)(s y:Operand)(t:TypeId)
  (ho:o.op=.call { callee:=.builtin .append,args:=#[s,y],argTypes:=#[t,t] })
  (base:Nat) (e:TypeId) (z:Value) (size bytes:Nat) (ht:P.underlying t=some (.slice e)) (hi:(P.info? e).map (λi=>(i.zero,i.size,i.bytes))=some (some z,size,bytes)) (hzs:z.cells.size=size) (hpos:0<size)
  {α:Type} (E:World->List Value->α->Prop) (v:Value) (l:List α) (hs:a.eval s=v) (hown:ah w (some base) e size E v l)
  (A:Option Addr) (m c:Nat) (l2:List α) (hx:a.eval y=.slice A m c) (hrow:ah w (some base) e size E (.slice A m c) l2)
  (hone:∀ cs x,E w cs x->∀ u∈cs,u.oneCell'=true) (hE:∀ w',Only e w w'->∀ cs x,E w cs x->E w' cs x)
  (h63:l.length+l2.length<=maxLen) (hbytes:(l.length+l2.length) * bytes<=140737488355328) (hbase:base<=w.heap.size)
  (h:∀ v' w',ah w' (some base) e size E v' (l++l2)->Below base w w'->Only e w w'->w.grownBy w' v.ownBlock->wpList P ops Q rest (a.put o.dst v') w') :
  wpList P ops Q (o::rest) a w:=by
 obtain⟨css,k1,k2,k3,k4⟩:=hown;obtain⟨ds,j1,j2,j3,j4⟩:=hrow;have hrow':w.ownsRow base e size v l.length css.flatten:=k3;obtain⟨A',c',e',g1,g2,g3,g4⟩:=j3.slice;injection e' with e1 e2 e3
 subst e1 e2 e3;refine kG (by simp[Region.wanted,hgd]) s y t ho base e z size bytes ht hi hzs hpos v l.length css.flatten hs hrow' A l2.length c ds.flatten hx g3 (by rw[lM j2,j1]) (λad had j u hu=>?_) (λu hu=>?_) h63 hbytes hbase ?_
 ·have hj:j<ds.flatten.length:=(List.getElem?_eq_some_iff.1 hu).1
  obtain⟨g,off,e4,hc⟩:=g4 (by omega);rw[had]at e4;injection e4 with e4
  subst e4;have ha:(⟨g,off,none⟩:Addr).add j=⟨g,off+j,none⟩:=by simp[Addr.add]
  rw[ha];exact hc j u hu
 ·obtain⟨cs,hcs,hu'⟩:=List.mem_flatten.1 hu
  obtain⟨i,hi',rfl⟩:=List.getElem_of_mem hcs;exact hone _ _ (j4 i hi' (by omega)) u hu'
 ·intro v' w' hr' hg' hb'
  have ho':=Only.row hg' hrow';refine h v' w' ⟨css++ds,by simp[k1,j1],λcs hc=>?_,?_,λi ha hb=>?_⟩ hb' ho' hg'
  ·rcases List.mem_append.1 hc with h|h
   ·exact k2 cs h
   ·exact j2 cs h
  ·show w'.ownsRow base e size v' (l++l2).length (css++ds).flatten
   rw[xI,List.flatten_append];exact hr'
  ·rcases Nat.lt_or_ge i css.length with hi|hi
   ·rw[List.getElem_append_left hi,List.getElem_append_left (by omega)]
    exact hE _ ho' _ _ (k4 i hi (by omega))
   ·rw[List.getElem_append_right hi,List.getElem_append_right (by omega)]
    have hd:i - css.length<ds.length:=by simp at ha;omega
    have e5:l2[i - l.length]'(by simp at hb;omega)=l2[i - css.length]'(by omega):=by congr 1;omega
    rw[e5];exact hE _ ho' _ _ (j4 _ hd (by omega))
namespace Tk
end Tk
namespace Tk
end Tk
namespace Tk
def signs:ByteArray:=⟨#[123,125,40,41,59,58,44,46]⟩
end Tk
namespace Tk
theorem EC{s:ByteArray}{k f d:Nat}{acc:List Tok}(h:¬k<s.size):scan d s f k acc=(acc,0,0):=by
 cases f with
 |zero=>rfl
 |succ f=>rw[scan,if_neg h]
end Tk
theorem Tk.E8(d:Nat)(s:ByteArray):∀(f k:Nat)(acc:List Tk.Tok),k<=s.size->acc.length<=k->(Tk.scan d s f k acc).1.length<=s.size
 |0,k,acc,hk,ha=>by unfold Tk.scan;exact xM ha hk
 |f+1,k,acc,hk,ha=>by
  unfold Tk.scan;split
  ·rename_i hlt
   split
   ·simp
   ·rename_i he
    have hok:=Tk.zA (d:=d) (s:=s) (k:=k) hlt (by simpa using he);refine Tk.E8 d s f _ _ (Tk.uh false hok.2) ?_;rw[xI,List.length_singleton];have:=Tk.Dn false s (k+(Tk.aW d s k).1.text.size);omega
  ·exact xM ha hk
theorem Tk.QH(s:ByteArray):(Tk.all s).1.length<=65536:=by
 unfold Tk.all;split
 ·simp
 ·rename_i h
  have:=Tk.E8 3 s (s.size+1) (Tk.bM false s 0) [] (Tk.uh false (by omega)) (by simp);omega
namespace Id
def whole{α:Type}(zero:α)(read:St->α × St)(s:ByteArray):α × Nat × Nat :=
 if(Tk.all s).2.2≠0 then(zero,(Tk.all s).2.1,(Tk.all s).2.2)else
 match (read ((Tk.all s).1,false)).2.1 with
 |[]=>if(read ((Tk.all s).1,false)).2.2 then(zero,s.size,120)else((read ((Tk.all s).1,false)).1,0,0)
 |t::_=>(zero,t.at_,120)
def Sch.zero:Sch:=⟨⟨#[]⟩,[],[],[]⟩
def parse(s:ByteArray):Sch × Nat × Nat:=whole Sch.zero schema s
def type(s:ByteArray):List Srt × Nat × Nat:=whole [] sorts s
def ay(w:World)(B:Option Nat)(v:Value)(x:Sch):Prop:=∃ A1 n1 c1 A2 n2 c2 A3 n3 c3,v=.agg #[.string x.name,.slice A1 n1 c1,.slice A2 n2 c2,.slice A3 n3 c3]/\oV w B (.slice A1 n1 c1) x.records/\nY w B (.slice A2 n2 c2) x.services/\nZ w B (.slice A3 n3 c3) x.sagas
theorem gJ.below{B:Option Nat}{w w':World}(h:Below w.heap.size w w')(cs:List Value)(x:Fld)(he:gJ B w cs x):gJ B w' cs x:=by
 obtain⟨u,e,hs⟩:=he;exact⟨u,e,ah.below hs h (λ_ _ h=>h)⟩
theorem jG.below{B:Option Nat}{w w':World}(h:Below w.heap.size w w')(cs:List Value)(x:Rec)(he:jG B w cs x):jG B w' cs x:=by
 obtain⟨u,e,hs⟩:=he;exact⟨u,e,ah.below hs h (gJ.below h)⟩
theorem kE.below{B:Option Nat}{w w':World}(h:Below w.heap.size w w')(cs:List Value)(x:Svc)(he:kE B w cs x):kE B w' cs x:=by
 obtain⟨u,e,hs⟩:=he;exact⟨u,e,ah.below hs h (λ_ _ h=>h)⟩
theorem kF.below{B:Option Nat}{w w':World}(h:Below w.heap.size w w')(cs:List Value)(x:Sag)(he:kF B w cs x):kF B w' cs x:=by
 obtain⟨u,e,hs⟩:=he;exact⟨u,e,ah.below hs h (λ_ _ h=>h)⟩
theorem ay.below{B:Option Nat}{w w':World}{v:Value}{x:Sch}(hb:Below w.heap.size w w')(h:ay w B v x):ay w' B v x:=by
 obtain⟨A1,n1,c1,A2,n2,c2,A3,n3,c3,e,h1,h2,h3⟩:=h;exact⟨A1,n1,c1,A2,n2,c2,A3,n3,c3,e,ah.below h1 hb (jG.below hb),ah.below h2 hb (kE.below hb),ah.below h3 hb (kF.below hb)⟩
theorem ay.only{b:Nat}{w w':World}{v:Value}{x:Sch}(h:ay w (some b) v x){e:TypeId}(ho:Only e w w')(he:e ∉ qJ):ay w' (some b) v x:=by
 have hk:=ho.kp b he;obtain⟨A1,n1,c1,A2,n2,c2,A3,n3,c3,e,h1,h2,h3⟩:=h;exact⟨A1,n1,c1,A2,n2,c2,A3,n3,c3,e,h1.kp hk (xB _) (by decide) (by decide) (by decide),h2.kp hk (xB _) (by decide) (by decide),h3.kp hk (xB _) (by decide) (by decide)⟩
def wkB(B B':Option Nat):Prop:=∀ b',B'=some b'->∃ b,B=some b/\b'<=b
theorem gJ.weak{B B':Option Nat}{w:World}(h:wkB B B')(cs:List Value)(x:Fld)(he:gJ B w cs x):gJ B' w cs x:=by
 obtain⟨u,e,hs⟩:=he;exact⟨u,e,ah.mono hs (λ_ _ hr=>hr.weak h) (λ_ _ h=>h)⟩
theorem jG.weak{B B':Option Nat}{w:World}(h:wkB B B')(cs:List Value)(x:Rec)(he:jG B w cs x):jG B' w cs x:=by
 obtain⟨u,e,hs⟩:=he;exact⟨u,e,ah.mono hs (λ_ _ hr=>hr.weak h) (gJ.weak h)⟩
theorem kE.weak{B B':Option Nat}{w:World}(h:wkB B B')(cs:List Value)(x:Svc)(he:kE B w cs x):kE B' w cs x:=by
 obtain⟨u,e,hs⟩:=he;exact⟨u,e,ah.mono hs (λ_ _ hr=>hr.weak h) (λ_ _ h=>h)⟩
theorem kF.weak{B B':Option Nat}{w:World}(h:wkB B B')(cs:List Value)(x:Sag)(he:kF B w cs x):kF B' w cs x:=by
 obtain⟨u,e,hs⟩:=he;exact⟨u,e,ah.mono hs (λ_ _ hr=>hr.weak h) (λ_ _ h=>h)⟩
theorem ay.weak{B B':Option Nat}{w:World}{v:Value}{x:Sch}(hb:wkB B B')(h:ay w B v x):ay w B' v x:=by
 obtain⟨A1,n1,c1,A2,n2,c2,A3,n3,c3,e,h1,h2,h3⟩:=h;exact⟨A1,n1,c1,A2,n2,c2,A3,n3,c3,e,ah.mono h1 (λ_ _ hr=>hr.weak hb) (jG.weak hb),ah.mono h2 (λ_ _ hr=>hr.weak hb) (kE.weak hb),ah.mono h3 (λ_ _ hr=>hr.weak hb) (kF.weak hb)⟩
theorem I5{b b':Nat}(h:b'<=b):wkB (some b) (some b'):=λ_ e=>⟨b,rfl,by injection e with e;omega⟩
theorem Ht(B:Option Nat):wkB B none:=λ_ e=>by cases e
theorem ay.zero(w:World)(b:Nat):ay w (some b) (.agg #[.string ⟨#[]⟩,.slice none 0 0,.slice none 0 0,.slice none 0 0]) Sch.zero:=⟨_,_,_,_,_,_,_,_,_,rfl,ah.nil _ _ _ _ _,ah.nil _ _ _ _ _,ah.nil _ _ _ _ _⟩
end Id
namespace Id
end Id
end
