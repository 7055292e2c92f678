import Derived.Test.YtogijkhenihaaaaGreatDoorGT02
import Derived.Lib.ItoaMem
set_option linter.all false
set_option maxRecDepth 100000
set_option maxHeartbeats 0
namespace Go.Proofs.YtogijkhenihaaaaGreatDoor
open Lib (hid)
section
open Go.RowKit
theorem Tk.KW.grown{w w':World}{b:Nat}(h:Tk.KW w)(hg:w.grownBy w' (some b))(hb:0<b):Tk.KW w' :=
 ⟨Nat.lt_of_lt_of_le h.1 hg.size,λj hj=>(World.cell?_of_block (hg.block 0 h.1 (by intro e;injection e with e;omega))).trans (h.2 j hj)⟩
namespace Id
structure Srt where
 kind:Nat
 name:ByteArray
def Srt.cells(x:Srt):List Value:=[.int .u8 x.kind,.string x.name]
def dF(w:World)(cs:List Value)(x:Srt):Prop:=cs=x.cells
def bf(w:World)(B:Option Nat)(v:Value)(l:List Srt):Prop:=ah w B 44 2 dF v l
def iD:ByteArray:=⟨#[108,105,115,116]⟩
def jM:ByteArray:=⟨#[111,112,116]⟩
def ends(s:St):Bool:=match s.1 with
 |[]=>false
 |t::_=>(t.kind==1)&&!(endW t.text==0)
def head(s:St):ByteArray:=match s.1 with
 |[]=>⟨#[]⟩
 |t::_=>t.text
def bG:Nat->St->List Srt->List Srt × St
 |0,s,acc=>([],s)
 |f+1,s,acc=>if s.2 then([],s)else
  if is s iD then bG f (s.1.tail,s.2) (acc++[⟨5,⟨#[]⟩⟩])else
  if is s jM then bG f (s.1.tail,s.2) (acc++[⟨6,⟨#[]⟩⟩])else
  if ends s then(acc++[⟨endW (head s),⟨#[]⟩⟩],(s.1.tail,s.2))else
  (acc++[⟨7,(name s).1⟩],(name s).2)
def sorts(s:St):List Srt × St:=bG (s.1.length+1) s []
theorem Sl{s:St}{x:ByteArray}(h:is s x=true):s.1.tail.length+1=s.1.length:=by
 obtain⟨t,r,rfl⟩:=oM h;rfl
end Id
theorem Id.iL:(Tryz.prog.info? 44).map (λi=>(i.zero,i.size,i.bytes))=some (some (.agg #[.int .u8 0,.string ByteArray.empty]),2,24):=by kernel_rfl
theorem Id.Ps.only{w w':World}{b:Nat}{s:Id.St}(h:Id.Ps w b s){e:TypeId}(hg:Only e w w')(h1:171≠e)(h2:169≠e):Id.Ps w' b s:=by
 obtain⟨A,c,k1,k2,k3,k4,k5⟩:=h.lies;have key:∀ g off,A=some ⟨g,off,none⟩->w'.heap[g]?=w.heap[g]?/\Id.Typed w g:=λg off e=>by
  subst e;obtain⟨cs,fr,hh⟩:=h.typ _ _ _ _ _ k1;exact⟨(hg.typed hh h1).trans hh.symm,⟨cs,fr,hh⟩⟩
 refine⟨⟨A,c,hg.bk k1 h2,λh0=>?_,k3,k4,k5⟩,Id.Ar (hg.bk k1 h2) (λg off e=>?_)⟩
 ·obtain⟨g,off,e,hc⟩:=k2 h0
  refine⟨g,off,e,λj hj=>?_⟩;have hk:=(key g off e).1;have kc:∀ o,w'.cell? ⟨g,o,none⟩=w.cell? ⟨g,o,none⟩:=λo=>World.cell?_of_block (a:=⟨g,o,none⟩) hk
  rw[kc,kc,kc,kc];exact hc j hj
 ·obtain⟨hk,cs,fr,hh⟩:=key g off e
  exact⟨cs,fr,hk.trans hh⟩
structure Id.mY(w:World)(b:Nat)(R:List Id.Srt × Id.St)(n:Nat)(v:Value)(wr:World)(s:Id.St)(acc:List Id.Srt):Prop where
 fu:s.1.length+1<=n
 ln:acc.length+s.1.length<=1000000
 ps:Id.Ps wr b s
 kw:Tk.KW wr
 gb:w.grownBy wr (some b)
 row:Id.bf wr (some w.heap.size) v acc
 out:Id.bG n s acc=R
theorem Id.mY.put{w wr w':World}{b n:Nat}{R:List Id.Srt × Id.St}{v v':Value}{s s':Id.St}{acc:List Id.Srt}{x:Id.Srt}(hbw:b<w.heap.size)(hb0:0<b)(h:Id.mY w b R n v wr s acc){w1:World}(hg:wr.grownBy w1 (some b))(hp:Id.Ps w1 b s')
  (hrow:(∀ cs x,Id.dF w1 cs x->Id.dF w' cs x)->Id.dF w' x.cells x->ah w' (some w.heap.size) 44 2 Id.dF v' (acc++[x])) (hb:Below w.heap.size w1 w') (ho:Only 44 w1 w') :
  Id.Ps w' b s'/\Tk.KW w'/\w.grownBy w' (some b)/\Id.bf w' (some w.heap.size) v' (acc++[x]) :=
 have hg1:=aI h.gb hg;have hk1:=h.kw.grown hg hb0;⟨hp.only ho (by decide) (by decide),⟨Nat.lt_of_lt_of_le hk1.1 hb.size,λj hj=>(hb.cell (p:=⟨0,0+j,none⟩) (by simp;omega)).trans (hk1.2 j hj)⟩,yM hg1 hb,hrow (λ_ _ h=>h) rfl⟩
theorem O9(b:Nat)(hb0:0<b)(s0:Id.St)(hsz:s0.1.length<=1000000)(w:World)(hk:Tk.KW w)(h:Id.Ps w b s0) :
  Calls Tryz.prog 166 #[.pointer (some ⟨b,0,none⟩)] w λe w'=>∃ v,e=.returned v/\w.grownBy w' (some b)/\Id.Ps w' b (Id.sorts s0).2/\Id.bf w' (some w.heap.size) v (Id.sorts s0).1:=by
 obtain⟨R,HR⟩:∃ R,Hid (Id.sorts s0=R):=⟨_,hid rfl⟩;rw[HR.out];have hbw:=h.lt;have HH:=hid (show Id.mY w b R (s0.1.length+1) (.slice none 0 0) w s0 []from⟨xB _,by simp;omega,h,hk,dL _ _,ah.nil _ _ _ _ _,HR.out⟩);clear h hk HR;go_enter Tryz.func166,Tryz.ntmps166;go_wp2_with fail;go_loopg [3] (s0.1.length+1) (λn l wr=>∃(s:Id.St)(acc:List Id.Srt)(lv:Value),lv=l/\Hid (Id.mY w b R n lv wr s acc))
 case atStart=>exact⟨s0,[],_,rfl,HH⟩
 case round =>
  obtain⟨s,acc,lv,rfl,HA⟩:=hrel;obtain⟨f,rfl⟩:∃ f,gk=f+1:=⟨gk - 1,by have:=HA.out.fu;omega⟩;obtain⟨l,bad⟩:=s;obtain⟨A,c,hk,hr,hc,hc2,hne⟩:=HA.out.ps.lies;obtain⟨⟨c0,c1⟩,f0,f1⟩:=hk.k2;have hln:=HA.out.ln;have hfu:=HA.out.fu;simp only at hln hfu;have hzr:=HA.out.gb.size;cases bad
  case true =>
   have HE:Hid (R=([],(l,true))):=hid (by rw[<-HA.out.out];rfl);clear hk hr hne;go_wp2_with fail;go_ret;exact⟨_,rfl,HA.out.gb,by rw[HE.out];exact HA.out.ps,by rw[HE.out];exact ah.nil _ _ _ _ _⟩
  clear hr hne hk hc;go_wp2_with fail;refine(lD b (l,false) Id.iD _ HA.out.ps).mono ?_;rintro e w1⟨rfl,hg1,hp1⟩;have hz1:=hg1.size;cases hi:Id.is (l,false) Id.iD
  case true =>
   have hlt:=Id.Sl hi;simp only at hlt;have HT:Hid (Id.take (l,false) Id.iD=(true,(l.tail,false))):=hid (by unfold Id.take;rw[hi];rfl);rw[HT.out]at hp1 ⊢;simp only at hp1 ⊢;have HE:Hid (Id.bG f (l.tail,false) (acc++[⟨5,⟨#[]⟩⟩])=R):=hid (by rw[<-HA.out.out];simp[Id.bG,hi]);have HRW:Hid (ah w1 (some w.heap.size) 44 2 Id.dF lv acc):=hid (HA.out.row.kp (Kp.grown hg1 hbw) (xB _) (List.mem_singleton.2 rfl) (λ_ _ h=>h));clear hi;go_wp2_with(at_builtin;go_must(refine aO rfl _ _ _ rfl w.heap.size 44 _ 2 24 Tryz.underlying45 Id.iL rfl (by decide) Id.dF lv acc rfl HRW.out [.int .u8 5,.string ⟨#[]⟩] rfl _ rfl (by simp) (by simp[Value.oneCell']) (by simp only[maxLen];omega) (by omega) (by omega) ?_);intro v' w2 hrow2 hb2 ho2;have HP2:=hid (Id.mY.put (x:=⟨5,⟨#[]⟩⟩) hbw hb0 HA.out hg1 hp1 (hrow2 ⟨5,⟨#[]⟩⟩) hb2 ho2);clear hrow2 hb2 ho2);go_roundg f
   case rel=>exact⟨_,_,v',rfl,hid ⟨by simp only;omega,by simp;omega,HP2.out.1,HP2.out.2.1,HP2.out.2.2.1,HP2.out.2.2.2,HE.out⟩⟩
   case measure=>omega
  have HT:Hid (Id.take (l,false) Id.iD=(false,(l,false))):=hid (by unfold Id.take;rw[hi];rfl);rw[HT.out]at hp1 ⊢;simp only at hp1 ⊢;have HI:=hid hi;clear hi c0 c1 f0 f1;go_wp2_with fail;refine(lD b (l,false) Id.jM _ hp1).mono ?_;rintro e w2⟨rfl,hg2,hp2⟩;replace hg1:=aI hg1 hg2;clear hp1 hg2 hz1;have hz1:=hg1.size;cases hi:Id.is (l,false) Id.jM
  case true =>
   have hlt:=Id.Sl hi;simp only at hlt;have HT:Hid (Id.take (l,false) Id.jM=(true,(l.tail,false))):=hid (by unfold Id.take;rw[hi];rfl);rw[HT.out]at hp2 ⊢;simp only at hp2 ⊢;have HE:Hid (Id.bG f (l.tail,false) (acc++[⟨6,⟨#[]⟩⟩])=R):=hid (by rw[<-HA.out.out];simp[Id.bG,hi,HI.out]);have HRW:Hid (ah w2 (some w.heap.size) 44 2 Id.dF lv acc):=hid (HA.out.row.kp (Kp.grown hg1 hbw) (xB _) (List.mem_singleton.2 rfl) (λ_ _ h=>h));have hp1:=hp2;clear hi hp2;go_wp2_with(at_builtin;go_must(refine aO rfl _ _ _ rfl w.heap.size 44 _ 2 24 Tryz.underlying45 Id.iL rfl (by decide) Id.dF lv acc rfl HRW.out [.int .u8 6,.string ⟨#[]⟩] rfl _ rfl (by simp) (by simp[Value.oneCell']) (by simp only[maxLen];omega) (by omega) (by omega) ?_);intro v' w2 hrow2 hb2 ho2;have HP2:=hid (Id.mY.put (x:=⟨6,⟨#[]⟩⟩) hbw hb0 HA.out hg1 hp1 (hrow2 ⟨6,⟨#[]⟩⟩) hb2 ho2);clear hrow2 hb2 ho2);go_roundg f
   case rel=>exact⟨_,_,v',rfl,hid ⟨by simp only;omega,by simp;omega,HP2.out.1,HP2.out.2.1,HP2.out.2.2.1,HP2.out.2.2.2,HE.out⟩⟩
   case measure=>omega
  have HT2:Hid (Id.take (l,false) Id.jM=(false,(l,false))):=hid (by unfold Id.take;rw[hi];rfl);rw[HT2.out]at hp2 ⊢;simp only at hp2 ⊢;have HI2:=hid hi;clear hi;obtain⟨A,c,hk,hr,hc,hc2',hne⟩:=hp2.lies;obtain⟨⟨c0,c1⟩,f0,f1⟩:=hk.k2;cases l with
  |nil =>
   simp only[xO]at c0;have HE:Hid ((acc++[⟨7,(Id.name ([],false)).1⟩],(Id.name ([],false)).2)=R):=hid (by rw[<-HA.out.out];simp[Id.bG,HI.out,HI2.out,Id.ends]);clear hk hr hne hc;obtain⟨⟨nm,s3⟩,HN⟩:∃ N,Hid (Id.name ([],false)=N):=⟨_,hid rfl⟩;have HE2:Hid ((acc++[⟨7,nm⟩],s3)=R):=hid (by rw[<-HE.out,HN.out]);clear HE;go_wp2_with fail;refine(iw b hb0 ([],false) _ (HA.out.kw.grown hg1 hb0) hp2).mono ?_;rintro e w3⟨rfl,hg3,hp3⟩;rw[HN.out]at hp3 ⊢;simp only at hp3 ⊢;replace hg1:=aI hg1 hg3;have hz3:=hg1.size;have HRW:Hid (ah w3 (some w.heap.size) 44 2 Id.dF lv acc):=hid (HA.out.row.kp (Kp.grown hg1 hbw) (xB _) (List.mem_singleton.2 rfl) (λ_ _ h=>h));clear hg3;go_wp2_with(at_builtin;go_must(refine aO rfl _ _ _ rfl w.heap.size 44 _ 2 24 Tryz.underlying45 Id.iL rfl (by decide) Id.dF lv acc rfl HRW.out [.int .u8 7,.string nm] rfl _ rfl (by simp) (by simp[Value.oneCell']) (by simp only[maxLen];omega) (by omega) (by omega) ?_);intro v' w4 hrow2 hb2 ho2;have HP2:=hid (Id.mY.put (x:=⟨7,nm⟩) hbw hb0 HA.out hg1 hp3 (hrow2 ⟨7,nm⟩) hb2 ho2);clear hrow2 hb2 ho2);go_ret;exact⟨_,rfl,HP2.out.2.2.1,by rw[<-HE2.out];exact HP2.out.1,by rw[<-HE2.out];exact HP2.out.2.2.2⟩
  |cons t r =>
   obtain⟨g,off,rfl,hcs⟩:=hr (by simp);obtain⟨t0,t1,t2,t3⟩:=hcs 0 (by simp);simp only[Nat.zero_mul,xK,List.getElem_cons_zero]at t0 t1 t2 t3;simp only[xJ]at c0 hk hc hln hfu;obtain⟨m,hm⟩:∃ m,m=r.length:=⟨_,rfl⟩;rw[<-hm]at c0 hc hk hln hfu;have HM:=hid hm;have hm1:(0:Int)<(m:Int)+1:=by omega
   have hm2:0<m+1:=by omega
   clear hm hcs;obtain⟨tk,tt,tn,ta⟩:=t;simp only at t0 t1 t2 t3;by_cases hkd:tk=1
   case neg =>
    have HE:Hid ((acc++[⟨7,(Id.name (⟨tk,tt,tn,ta⟩::r,false)).1⟩],(Id.name (⟨tk,tt,tn,ta⟩::r,false)).2)=R):=hid (by rw[<-HA.out.out];simp[Id.bG,HI.out,HI2.out,Id.ends,hkd]);have tkd:((tk:Int)==1)=false:=by rw[xG];omega
    clear hkd;obtain⟨⟨nm,s3⟩,HN⟩:∃ N,Hid (Id.name (⟨tk,tt,tn,ta⟩::r,false)=N):=⟨_,hid rfl⟩;have HE2:Hid ((acc++[⟨7,nm⟩],s3)=R):=hid (by rw[<-HE.out,HN.out]);clear HE;go_wp2_with fail;refine(iw b hb0 (⟨tk,tt,tn,ta⟩::r,false) _ (HA.out.kw.grown hg1 hb0) hp2).mono ?_;rintro e w3⟨rfl,hg3,hp3⟩;rw[HN.out]at hp3 ⊢;simp only at hp3 ⊢;replace hg1:=aI hg1 hg3;have hz3:=hg1.size;have HRW:Hid (ah w3 (some w.heap.size) 44 2 Id.dF lv acc):=hid (HA.out.row.kp (Kp.grown hg1 hbw) (xB _) (List.mem_singleton.2 rfl) (λ_ _ h=>h));clear hg3;go_wp2_with(at_builtin;go_must(refine aO rfl _ _ _ rfl w.heap.size 44 _ 2 24 Tryz.underlying45 Id.iL rfl (by decide) Id.dF lv acc rfl HRW.out [.int .u8 7,.string nm] rfl _ rfl (by simp) (by simp[Value.oneCell']) (by simp only[maxLen];omega) (by omega) (by omega) ?_);intro v' w4 hrow2 hb2 ho2;have HP2:=hid (Id.mY.put (x:=⟨7,nm⟩) hbw hb0 HA.out hg1 hp3 (hrow2 ⟨7,nm⟩) hb2 ho2);clear hrow2 hb2 ho2);go_ret;exact⟨_,rfl,HP2.out.2.2.1,by rw[<-HE2.out];exact HP2.out.1,by rw[<-HE2.out];exact HP2.out.2.2.2⟩
   subst hkd;obtain⟨ew,hew⟩:∃ ew,Id.endW tt=ew:=⟨_,rfl⟩;have HEW:=hid hew;go_wp2_with fail;refine(Dy tt _).mono ?_;rintro e w'⟨rfl,hw⟩;obtain rfl:=hw.symm;rw[hew];clear hew;by_cases he0:ew=0
   ·have HE:Hid ((acc++[⟨7,(Id.name (⟨1,tt,tn,ta⟩::r,false)).1⟩],(Id.name (⟨1,tt,tn,ta⟩::r,false)).2)=R):=hid (by rw[<-HA.out.out];simp[Id.bG,HI.out,HI2.out,Id.ends,HEW.out,he0])
    subst he0;obtain⟨⟨nm,s3⟩,HN⟩:∃ N,Hid (Id.name (⟨1,tt,tn,ta⟩::r,false)=N):=⟨_,hid rfl⟩;have HE2:Hid ((acc++[⟨7,nm⟩],s3)=R):=hid (by rw[<-HE.out,HN.out]);clear HE;go_wp2_with fail;refine(iw b hb0 (⟨1,tt,tn,ta⟩::r,false) _ (HA.out.kw.grown hg1 hb0) hp2).mono ?_;rintro e w3⟨rfl,hg3,hp3⟩;rw[HN.out]at hp3 ⊢;simp only at hp3 ⊢;replace hg1:=aI hg1 hg3;have hz3:=hg1.size;have HRW:Hid (ah w3 (some w.heap.size) 44 2 Id.dF lv acc):=hid (HA.out.row.kp (Kp.grown hg1 hbw) (xB _) (List.mem_singleton.2 rfl) (λ_ _ h=>h));clear hg3;go_wp2_with(at_builtin;go_must(refine aO rfl _ _ _ rfl w.heap.size 44 _ 2 24 Tryz.underlying45 Id.iL rfl (by decide) Id.dF lv acc rfl HRW.out [.int .u8 7,.string nm] rfl _ rfl (by simp) (by simp[Value.oneCell']) (by simp only[maxLen];omega) (by omega) (by omega) ?_);intro v' w4 hrow2 hb2 ho2;have HP2:=hid (Id.mY.put (x:=⟨7,nm⟩) hbw hb0 HA.out hg1 hp3 (hrow2 ⟨7,nm⟩) hb2 ho2);clear hrow2 hb2 ho2);go_ret;exact⟨_,rfl,HP2.out.2.2.1,by rw[<-HE2.out];exact HP2.out.1,by rw[<-HE2.out];exact HP2.out.2.2.2⟩
   ·have HE:Hid ((acc++[⟨ew,⟨#[]⟩⟩],(r,false))=R):=hid (by rw[<-HA.out.out];simp[Id.bG,HI.out,HI2.out,Id.ends,Id.head,HEW.out,he0])
    have te0:((ew:Int) != 0)=true:=by rw[bne_iff_ne];omega
    clear he0;go_wp2_with fail;refine(Dy tt _).mono ?_;rintro e w'⟨rfl,hw⟩;obtain rfl:=hw.symm;rw[HEW.out];have HP:=hid hp2;have HRW:Hid (ah w2 (some w.heap.size) 44 2 Id.dF lv acc):=hid (HA.out.row.kp (Kp.grown hg1 hbw) (xB _) (List.mem_singleton.2 rfl) (λ_ _ h=>h));clear hp2 c0 c1 f0 f1 t0 t1 t2 t3 hk hr hc hne;go_wp2_with(at_builtin;go_must(refine aO rfl _ _ _ rfl w.heap.size 44 _ 2 24 Tryz.underlying45 Id.iL rfl (by decide) Id.dF lv acc rfl HRW.out [.int .u8 ew,.string ⟨#[]⟩] rfl _ rfl (by simp) (by simp[Value.oneCell']) (by simp only[maxLen];omega) (by omega) (by omega) ?_);intro v' w4 hrow2 hb2 ho2;have HP2:=hid (Id.mY.put (x:=⟨ew,⟨#[]⟩⟩) hbw hb0 HA.out hg1 HP.out (hrow2 ⟨ew,⟨#[]⟩⟩) hb2 ho2);clear hrow2 hb2 ho2;obtain⟨A4,c4,hk4,hr4,hc4,ZW,ZM⟩:=HP2.out.1.lies;obtain⟨g4,aa7,rfl,_⟩:=hr4 (by simp);have HTY:=hid (HP2.out.1.typ _ _ _ _ _ hk4);simp only[xJ]at hk4 hc4;rw[<-HM.out]at hk4 hc4;obtain⟨⟨c0,c1⟩,f0,f1⟩:=hk4.k2;have i1:(1:Int)<=(m:Int)+1:=(by omega);have i2:(m:Int)+1<=(c4:Int):=(by omega);have i3:1<=m+1:=(by omega);have i4:m+1<=c4:=(by omega));all_goals
     go_ret;exact⟨_,rfl,bn HP2.out.2.2.1 (.inl rfl) _,by rw[<-HE.out];exact Id.Ps.next hk4 hr4 HM.out ZM HTY.out ZW hc4 (by first|exact .inl ⟨rfl,rfl⟩|exact .inr ⟨by omega,rfl⟩),by rw[<-HE.out];exact(HP2.out.2.2.2).kp (Kp.grown (jg _ _ _ _) hbw) (xB _) (List.mem_singleton.2 rfl) (λ_ _ h=>h)⟩
namespace Id
structure Fld where
 name:ByteArray
 type:List Srt
def dR(B:Option Nat)(w:World)(cs:List Value)(x:Fld):Prop:=∃ u,cs=[.string x.name,u]/\bf w B u x.type
def iO(w:World)(B:Option Nat)(v:Value)(l:List Fld):Prop:=ah w B 176 2 (dR B) v l
def gu:ByteArray:=⟨#[58]⟩
def aK:ByteArray:=⟨#[59]⟩
def field(s:St):Fld × St:=(⟨(name s).1,(sorts (want (name s).2 gu)).1⟩,want (sorts (want (name s).2 gu)).2 aK)
theorem one_le(s:St)(k:Nat)(p:Tk.Tok->Bool):(one s k p).2.1.length<=s.1.length:=by
 obtain⟨l,bad⟩:=s;unfold one;split
 ·rename_i h;injection h with h1 h2;subst h1
  split<;>simp
 ·rename_i h;injection h with h1 h2;subst h1;simp
theorem fB(s:St):(name s).2.1.length<=s.1.length:=one_le s _ _
theorem fU(s:St)(x:ByteArray):(want s x).1.length<=s.1.length:=by
 unfold want;split<;>simp
theorem Na(s:St)(x:ByteArray):(take s x).2.1.length<=s.1.length:=by
 unfold take;split<;>simp
theorem AB:∀(f:Nat)(s:St)(acc:List Srt),(bG f s acc).2.1.length<=s.1.length
 |0,s,acc=>xB _
 |f+1,s,acc=>by
  unfold bG;split
  ·exact xB _
  ·split
   ·exact xM (AB f _ _) (by simp)
   ·split
    ·exact xM (AB f _ _) (by simp)
    ·split
     ·simp
     ·exact fB s
theorem IC(s:St):(sorts s).2.1.length<=s.1.length:=AB _ _ _
theorem qo(s:St):(field s).2.1.length<=s.1.length:=xM (fU _ _) (xM (IC _) (xM (fU _ _) (fB _)))
end Id
theorem OE(b:Nat)(hb0:0<b)(s0:Id.St)(hsz:s0.1.length<=1000000)(w:World)(hk:Tk.KW w)(h:Id.Ps w b s0) :
  Calls Tryz.prog 98 #[.pointer (some ⟨b,0,none⟩)] w λe w'=>∃ v,e=.returned (.agg #[.string (Id.field s0).1.name,v])/\w.grownBy w' (some b)/\Id.Ps w' b (Id.field s0).2/\Id.bf w' (some w.heap.size) v (Id.field s0).1.type:=by
 unfold Id.field;have hl1:=xM (Id.fU (Id.name s0).2 Id.gu) (Id.fB s0);obtain⟨⟨nm,s1⟩,HN⟩:∃ R,Hid (Id.name s0=R):=⟨_,hid rfl⟩;rw[HN.out]at hl1 ⊢;simp only at hl1 ⊢;obtain⟨s2,H2⟩:∃ R,Hid (Id.want s1 Id.gu=R):=⟨_,hid rfl⟩;rw[H2.out]at hl1 ⊢;obtain⟨⟨ty,s3⟩,H3⟩:∃ R,Hid (Id.sorts s2=R):=⟨_,hid rfl⟩;rw[H3.out];simp only;have hbw:=h.lt;have hbn:¬b=w.heap.size:=by omega
 have hbl:=(Below.refl w.heap.size w).alloc (xB _) (.cells #[.string ⟨#[]⟩,.slice none 0 0] 176);have hq:=Bk.new w 176 #[.string ⟨#[]⟩,.slice none 0 0];have HK:=hid (hk.below hbl);have HP:=hid (h.below hbl);clear hk h;go_enter Tryz.func98,Tryz.ntmps98;go_wp2_with fail;refine(iw b hb0 s0 _ HK.out HP.out).mono ?_;rintro e w1⟨rfl,hg1,hp1⟩;rw[HN.out]at hp1 ⊢;simp only at hp1 ⊢;have hq1:=hq.grown hg1 (by intro e;injection e with e;omega);have hG:=aI (aQ hbl (some b)) hg1;have hk1:=HK.out.grown hg1 hb0;clear hq hbl hg1 HK HP;have hz1:=hG.size;go_wp2_with fail;have hb2:=(Below.refl w1.heap.size w1).alloc (xB _) (.cells #[.string nm,.slice none 0 0] 176);have hf1:=Bk.new w1 176 #[.string nm,.slice none 0 0];obtain⟨fb,hfb⟩:∃ fb,Hid (w1.heap.size=fb):=⟨_,hid rfl⟩;refine(iq b s1 Id.gu _ (hp1.below hb2)).mono ?_;rintro e w2⟨rfl,hg2,hp2⟩;rw[hfb.out]at hf1 ⊢;have hfr:w.heap.size<fb:=by rw[<-hfb.out];exact hq1.lt
 have hrf:¬w.heap.size=fb:=by omega
 have hbf:¬b=fb:=by omega
 rw[H2.out]at hp2;have hq2:=(hq1.below hb2 hq1.lt).grown hg2 (by intro e;injection e with e;omega);have hf2:=hf1.grown hg2 (by intro e;injection e with e;omega);have hk2:=(hk1.below hb2).grown hg2 hb0;replace hG:=aI (kX hG _) hg2;clear hq1 hf1 hk1 hg2 hb2 hp1 hz1;have hz2:=hG.size;go_wp2_with fail;refine(O9 b hb0 s2 (by omega) _ hk2 hp2).mono ?_;rintro e w3⟨v,rfl,hg3,hp3,hr3⟩;rw[H3.out]at hp3 hr3;simp only at hp3 hr3;have hq3:=hq2.grown hg3 (by intro e;injection e with e;omega);have hf3:=hf2.grown hg3 (by intro e;injection e with e;omega);have hk3:=hk2.grown hg3 hb0;replace hG:=aI hG hg3;replace hr3:Id.bf w3 (some w.heap.size) v ty:=hr3.mono (λ_ _ h=>h.weak (λb' e=>⟨_,rfl,by injection e with e;omega⟩)) (λ_ _ h=>h);clear hq2 hf2 hk2 hg3 hp2;obtain⟨⟨f0,f1⟩,f2,f3⟩:=hf3.k2;obtain⟨A,n,cc,rfl⟩:=ah.is hr3;have HR3:=hid hr3;clear hr3;go_wp2_with fail;have ho4:=Only.set hf3 1 (.slice A n cc);have hp4:=hp3.only ho4 (by decide) (by decide);have hr4:=HR3.out.kp (ho4.kp w.heap.size (T:=[44]) (by decide)) (xB _) (List.mem_singleton.2 rfl) (λ_ _ h=>h);have hq4:=hq3.far (p:=⟨fb,1,none⟩) hrf (.slice A n cc);have hf4:=hf3.au 1 (.slice A n cc);have hG4:w.grownBy (w3.setCell ⟨fb,1,none⟩ (.slice A n cc)) (some b):=bn hG (.inr (by show w.heap.size<=fb;omega)) _;clear f0 f1 f2 f3 hf3 hp3 hq3 hk3 hG HR3;generalize(w3.setCell ⟨fb,1,none⟩ (.slice A n cc))=w4 at *;refine(iq b s3 Id.aK _ hp4).mono ?_;rintro e w5⟨rfl,hg5,hp5⟩;have hq5:=hq4.grown hg5 (by intro e;injection e with e;omega);have hf5:=hf4.grown hg5 (by intro e;injection e with e;omega);have hG5:=aI hG4 hg5;have HR5:Hid (Id.bf w5 (some w.heap.size) (.slice A n cc) ty):=hid (ah.kp hr4 (Kp.grown hg5 hbw) (xB _) (List.mem_singleton.2 rfl) (λ_ _ h=>h));clear hq4 hf4 hr4 hG4 hp4 hg5;obtain⟨⟨f0,f1⟩,f2,f3⟩:=hf5.k2;obtain⟨⟨q0,q1⟩,q2,q3⟩:=hq5.k2;go_wp2_with fail;have ho6:=(Only.set hq5 0 (.string nm)).trans (Only.set (hq5.au 0 (.string nm)) 1 (.slice A n cc));have hqf:=(hq5.au 0 (.string nm)).au 1 (.slice A n cc);have hG6:=bn (bn hG5 (p:=⟨w.heap.size,0,none⟩) (.inr (xB _)) (.string nm)) (p:=⟨w.heap.size,1,none⟩) (.inr (xB _)) (.slice A n cc);generalize((w5.setCell ⟨w.heap.size,0,none⟩ (.string nm)).setCell ⟨w.heap.size,1,none⟩ (.slice A n cc))=w6 at *;obtain⟨⟨r0,r1⟩,_⟩:=hqf.k2;refine bodyPost_ret (v:=.agg #[.string nm,.slice A n cc]) ?_ rfl ⟨_,rfl,hG6,hp5.only ho6 (by decide) (by decide),HR5.out.kp (ho6.kp w.heap.size (T:=[44]) (by decide)) (xB _) (List.mem_singleton.2 rfl) (λ_ _ h=>h)⟩;rw[iM rfl];go_simp;try rfl
structure Id.PW(w0 w:World)(b:Nat)(s:Id.St):Prop where
 ps:Id.Ps w b s
 kw:Tk.KW w
 gb:w0.grownBy w (some b)
namespace Id.PW
theorem start{w:World}{b:Nat}{s:Id.St}(h:Id.Ps w b s)(hk:Tk.KW w):Id.PW w w b s:=⟨h,hk,dL _ _⟩
theorem below{w0 w w':World}{b:Nat}{s:Id.St}(h:Id.PW w0 w b s)(hb:Below w.heap.size w w'):Id.PW w0 w' b s:=⟨h.ps.below hb,h.kw.below hb,aI h.gb (aQ hb _)⟩
theorem alloc{w0 w:World}{b:Nat}{s:Id.St}(h:Id.PW w0 w b s)(o:Obj):Id.PW w0 (w.alloc o) b s:=h.below ((Below.refl _ _).alloc (xB _) _)
theorem call{w0 w w':World}{b:Nat}{s s':Id.St}(h:Id.PW w0 w b s)(hb:0<b)(hg:w.grownBy w' (some b))(hp:Id.Ps w' b s'):Id.PW w0 w' b s':=⟨hp,h.kw.grown hg hb,aI h.gb hg⟩
theorem set{w0 w:World}{b g:Nat}{s:Id.St}{t:TypeId}{cs:Array Value}(h:Id.PW w0 w b s)(hk:Bk w g t cs)(hg:w0.heap.size<=g)(hg0:0<g)(h1:171≠t)(h2:169≠t)(j:Nat)(u:Value):Id.PW w0 (w.setCell ⟨g,j,none⟩ u) b s :=
 ⟨h.ps.only (Only.set hk j u) h1 h2,h.kw.grown (jg _ _ _ _) hg0,bn h.gb (.inr hg) u⟩
theorem lt{w0 w:World}{b:Nat}{s:Id.St}(h:Id.PW w0 w b s):b<w.heap.size:=h.ps.lt
end Id.PW
theorem Bk.call{w w':World}{b g:Nat}{t:TypeId}{cs:Array Value}(h:Bk w g t cs)(hg:w.grownBy w' (some b))(hb:b<g):Bk w' g t cs:=h.grown hg (by intro e;injection e with e;omega)
namespace Id
def eH:ByteArray:=⟨#[40]⟩
def dK:ByteArray:=⟨#[41]⟩
def arg(s:St):ByteArray × St:=((name (want s eH)).1,want (name (want s eH)).2 dK)
theorem BN(s:St):(arg s).2.1.length<=s.1.length:=xM (fU _ _) (xM (fB _) (fU _ _))
structure Stp where
 service:ByteArray
 method:ByteArray
 at_:Int
def Stp.cells(x:Stp):List Value:=[.string x.service,.string x.method,.int .i64 x.at_]
def eu(w:World)(cs:List Value)(x:Stp):Prop:=cs=x.cells
def wDo:ByteArray:=⟨#[100,111]⟩
def jU:ByteArray:=⟨#[46]⟩
def wAt:ByteArray:=⟨#[97,116]⟩
def num(s:St):Nat × St:=((one s 2 (λ_=>true)).1.num,(one s 2 (λ_=>true)).2)
def step(s:St):Stp × St :=
 let a:=name (want s wDo)
 let c:=name (want a.2 jU)
 let d:=num (want c.2 wAt)
 (⟨a.1,c.1,d.1⟩,want d.2 aK)
theorem RI(s:St):(num s).2.1.length<=s.1.length:=one_le s _ _
theorem yj(s:St):(step s).2.1.length<=s.1.length:=xM (fU _ _) (xM (RI _) (xM (fU _ _) (xM (fB _) (xM (fU _ _) (xM (fB _) (fU _ _))))))
end Id
theorem SI(a b c d:Value)(w:World):Sem.run Tryz.prog (Instr.field 171 (.agg #[a,b,c,d]) 2) w=.ok c w:=by kernel_rfl
theorem WW(b:Nat)(s:Id.St)(text:ByteArray)(w:World)(h:Id.Ps w b s)(u:FrameMode) :
  CallsD Tryz.prog 94 #[.pointer (some ⟨b,0,none⟩),.string text] u w λe u' w'=>u'=u/\e=.returned (.tuple #[])/\w.grownBy w' (some b)/\Id.Ps w' b (Id.want s text):=by
 have HPS:=hid h;obtain⟨R,HR⟩:∃ R,Hid (Id.want s text=R):=⟨_,hid rfl⟩;rw[HR.out];go_enter_d Tryz.func94,Tryz.ntmps94;go_wp2_with fail;refine(lD b s text _ h).mono ?_;rintro e w1⟨rfl,hg,hp⟩;cases hi:Id.is s text
 ·have HT:Hid (Id.take s text=(false,s)):=hid (by unfold Id.take;rw[hi];rfl)
  have HE:Hid (R=(s.1,true)):=hid (by rw[<-HR.out];unfold Id.want;rw[hi];rfl);rw[HT.out]at hp ⊢;simp only at hp ⊢;obtain⟨A,c,hk,_⟩:=hp.lies;obtain⟨⟨c0,c1⟩,f0,f1⟩:=hk.k2;have HP:=hid hp;clear hp hk;go_wp2_with fail;refine bodyPost_end (results_none rfl _ _ _) rfl ?_;exact⟨rfl,bn hg (.inl rfl) _,by rw[HE.out];exact HP.out.fault⟩
 ·have HT:Hid (Id.take s text=(true,(s.1.tail,s.2))):=hid (by unfold Id.take;rw[hi];rfl)
  have HE:Hid (R=(s.1.tail,s.2)):=hid (by rw[<-HR.out];unfold Id.want;rw[hi];rfl);rw[HT.out]at hp ⊢;simp only at hp ⊢;go_wp2_with fail;refine bodyPost_end (results_none rfl _ _ _) rfl ?_;exact⟨rfl,hg,by rw[HE.out];exact hp⟩
theorem Ji(b:Nat)(hb0:0<b)(s0:Id.St)(w:World)(hk:Tk.KW w)(h:Id.Ps w b s0) :
  Calls Tryz.prog 101 #[.pointer (some ⟨b,0,none⟩)] w λe w'=>e=.returned (.string (Id.arg s0).1)/\w.grownBy w' (some b)/\Id.Ps w' b (Id.arg s0).2:=by
 unfold Id.arg;obtain⟨s1,H1⟩:∃ R,Hid (Id.want s0 Id.eH=R):=⟨_,hid rfl⟩;rw[H1.out];obtain⟨⟨nm,s2⟩,H2⟩:∃ R,Hid (Id.name s1=R):=⟨_,hid rfl⟩;rw[H2.out];simp only;go_enter_defers Tryz.func101,Tryz.ntmps101;go_wp2_with fail;refine(iq b s0 Id.eH _ h).mono ?_;rintro e w1⟨rfl,hg1,hp1⟩;rw[H1.out]at hp1;have hW:=(Id.PW.start h hk).call hb0 hg1 hp1;clear h hk hg1 hp1;go_wp2_with fail;refine(iw b hb0 s1 _ hW.kw hW.ps).mono ?_;rintro e w2⟨rfl,hg2,hp2⟩;rw[H2.out]at hp2 ⊢;simp only at hp2 ⊢;replace hW:=hW.call hb0 hg2 hp2;clear hg2 hp2;go_wp2_with fail;refine leaves_cons (fn:=Tryz.f101) (by simp) (pz Tryz.func94 (by kernel_rfl) (by kernel_rfl) _ _) ?_;refine(WW b s2 Id.dK _ hW.ps _).mono ?_;rintro e u' w3⟨rfl,rfl,hg3,hp3⟩;replace hW:=hW.call hb0 hg3 hp3;refine⟨.string nm,?_,rfl,hW.gb,hW.ps⟩;simp[results,Tryz.f101,go_sem]
theorem Rn(b:Nat)(hb0:0<b)(s0:Id.St)(w:World)(hk:Tk.KW w)(h:Id.Ps w b s0) :
  Calls Tryz.prog 103 #[.pointer (some ⟨b,0,none⟩)] w λe w'=>e=.returned (.agg #[.string (Id.step s0).1.service,.string (Id.step s0).1.method,.int .i64 (Id.step s0).1.at_])/\w.grownBy w' (some b)/\Id.Ps w' b (Id.step s0).2:=by
 unfold Id.step Id.num;obtain⟨s1,H1⟩:∃ R,Hid (Id.want s0 Id.wDo=R):=⟨_,hid rfl⟩;rw[H1.out];obtain⟨⟨n1,s2⟩,H2⟩:∃ R,Hid (Id.name s1=R):=⟨_,hid rfl⟩;simp only[H2.out];obtain⟨s3,H3⟩:∃ R,Hid (Id.want s2 Id.jU=R):=⟨_,hid rfl⟩;simp only[H3.out];obtain⟨⟨n2,s4⟩,H4⟩:∃ R,Hid (Id.name s3=R):=⟨_,hid rfl⟩;simp only[H4.out];obtain⟨s5,H5⟩:∃ R,Hid (Id.want s4 Id.wAt=R):=⟨_,hid rfl⟩;simp only[H5.out];obtain⟨⟨⟨tk,tt,tn,ta⟩,s6⟩,H6⟩:∃ R,Hid (Id.one s5 2 (λ_=>true)=R):=⟨_,hid rfl⟩;simp only[H6.out];have hbw:=h.lt;have hq:=Bk.new w 184 #[.string ⟨#[]⟩,.string ⟨#[]⟩,.int .i64 0];have hW:=(Id.PW.start h hk).alloc (.cells #[.string ⟨#[]⟩,.string ⟨#[]⟩,.int .i64 0] 184);clear h hk;go_enter Tryz.func103,Tryz.ntmps103;go_wp2_with fail;refine(iq b s0 Id.wDo _ hW.ps).mono ?_;rintro e w1⟨rfl,hg,hp⟩;rw[H1.out]at hp;replace hW:=hW.call hb0 hg hp;replace hq:=hq.call hg hbw;clear hg hp;go_wp2_with fail;refine(iw b hb0 s1 _ hW.kw hW.ps).mono ?_;rintro e w2⟨rfl,hg,hp⟩;rw[H2.out]at hp ⊢;simp only at hp ⊢;replace hW:=hW.call hb0 hg hp;replace hq:=hq.call hg hbw;clear hg hp;go_wp2_with fail;have hf:=Bk.new w2 184 #[.string n1,.string ⟨#[]⟩,.int .i64 0];have hrf:=hq.lt;replace hq:=hq.alloc (.cells #[.string n1,.string ⟨#[]⟩,.int .i64 0] 184);replace hW:=hW.alloc (.cells #[.string n1,.string ⟨#[]⟩,.int .i64 0] 184);generalize hfb:w2.heap.size=fb at *;have HFB:=hid hfb;clear hfb;refine(iq b s2 Id.jU _ hW.ps).mono ?_;rintro e w3⟨rfl,hg,hp⟩;rw[H3.out]at hp;replace hW:=hW.call hb0 hg hp;replace hq:=hq.call hg hbw;replace hf:=hf.call hg (by omega);clear hg hp;go_wp2_with fail;refine(iw b hb0 s3 _ hW.kw hW.ps).mono ?_;rintro e w4⟨rfl,hg,hp⟩;rw[H4.out]at hp ⊢;simp only at hp ⊢;replace hW:=hW.call hb0 hg hp;replace hq:=hq.call hg hbw;replace hf:=hf.call hg (by omega);clear hg hp;obtain⟨⟨f0,f1,f2⟩,f3,f4,f5⟩:=hf.k3;go_wp2_with fail;clear f0 f1 f2 f3 f4 f5;replace hW:=hW.set hf (by omega) (by omega) (by decide) (by decide) 1 (.string n2);replace hq:=hq.far (p:=⟨fb,1,none⟩) (by show ¬w.heap.size=fb;omega) (.string n2);replace hf:Bk (w4.setCell ⟨fb,1,none⟩ (.string n2)) fb 184 #[.string n1,.string n2,.int .i64 0]:=hf.au 1 (.string n2);refine(iq b s4 Id.wAt _ hW.ps).mono ?_;rintro e w5⟨rfl,hg,hp⟩;rw[H5.out]at hp;replace hW:=hW.call hb0 hg hp;replace hq:=hq.call hg hbw;replace hf:=hf.call hg (by omega);clear hg hp;go_wp2_with fail;refine(Ur b s5 _ hW.ps).mono ?_;rintro e w6⟨rfl,hg,hp⟩;rw[H6.out]at hp ⊢;simp only[Tk.Tok.val]at hp ⊢;replace hW:=hW.call hb0 hg hp;replace hq:=hq.call hg hbw;replace hf:=hf.call hg (by omega);clear hg hp;obtain⟨⟨f0,f1,f2⟩,f3,f4,f5⟩:=hf.k3;have hfl:=SI;go_wp2_with fail;clear f0 f1 f2 f3 f4 f5 hfl;replace hW:=hW.set hf (by omega) (by omega) (by decide) (by decide) 2 (.int .i64 tn);replace hq:=hq.far (p:=⟨fb,2,none⟩) (by show ¬w.heap.size=fb;omega) (.int .i64 tn);replace hf:Bk (w6.setCell ⟨fb,2,none⟩ (.int .i64 tn)) fb 184 #[.string n1,.string n2,.int .i64 tn]:=hf.au 2 (.int .i64 tn);refine(iq b s6 Id.aK _ hW.ps).mono ?_;rintro e w7⟨rfl,hg,hp⟩;replace hW:=hW.call hb0 hg hp;replace hq:=hq.call hg hbw;replace hf:=hf.call hg (by omega);clear hg hp;obtain⟨⟨f0,f1,f2⟩,f3,f4,f5⟩:=hf.k3;obtain⟨⟨q0,q1,q2⟩,q3,q4,q5⟩:=hq.k3;go_wp2_with fail;have hqf:=((hq.au 0 (.string n1)).au 1 (.string n2)).au 2 (.int .i64 tn);have hWf:=((hW.set hq (xB _) (by omega) (by decide) (by decide) 0 (.string n1)).set (hq.au 0 (.string n1)) (xB _) (by omega) (by decide) (by decide) 1 (.string n2)).set ((hq.au 0 (.string n1)).au 1 (.string n2)) (xB _) (by omega) (by decide) (by decide) 2 (.int .i64 tn);generalize(((w7.setCell ⟨w.heap.size,0,none⟩ (.string n1)).setCell ⟨w.heap.size,1,none⟩ (.string n2)).setCell ⟨w.heap.size,2,none⟩ (.int .i64 tn))=w8 at *;obtain⟨⟨r0,r1,r2⟩,_⟩:=hqf.k3;refine bodyPost_ret (v:=.agg #[.string n1,.string n2,.int .i64 tn]) ?_ rfl ⟨rfl,hWf.gb,hWf.ps⟩;rw[iM rfl];go_simp;try rfl
theorem BF(w:World)(t:TypeId)(cs:Array Value)(vs:List Value)(h:cs.toList=vs):Lie (w.alloc (.cells cs t)) (some ⟨w.heap.size,0,none⟩) vs:=λ_=>⟨_,_,rfl,λj u hu=>by
 rw[Nat.zero_add,(Bk.new w t cs).cell j,<-Array.getElem?_toList,h];exact hu⟩
namespace Id
structure Mth where
 name:ByteArray
 arg:ByteArray
 result:Nat
 effect:ByteArray
 undo:ByteArray
def Mth.cells(x:Mth):List Value:=[.string x.name,.string x.arg,.int .u8 x.result,.string x.effect,.string x.undo]
def dh(w:World)(cs:List Value)(x:Mth):Prop:=cs=x.cells
def dJ:ByteArray:=⟨#[103,105,118,101]⟩
def dH:ByteArray:=⟨#[116,97,107,101]⟩
def dI:ByteArray:=⟨#[110,111,116,101]⟩
def eX:ByteArray:=⟨#[105,110,116]⟩
def dB:ByteArray:=⟨#[110,111,110,101]⟩
def bU:ByteArray:=⟨#[117,110,100,111]⟩
def dA:ByteArray:=⟨#[45,62]⟩
def method(s:St):Mth × St :=
 let a:=words [dJ,dH,dI] s
 let b:=name a.2
 let c:=arg b.2
 let d:=words [eX,dB] (want c.2 dA)
 let t:=take d.2 bU
 let u:=if t.1 then name t.2 else(⟨#[]⟩,t.2)
 (⟨b.1,c.1,endW d.1,a.1,u.1⟩,want u.2 aK)
theorem vk(ws:List ByteArray)(s:St):(words ws s).2.1.length<=s.1.length:=one_le s _ _
theorem tX(s:St):(method s).2.1.length<=s.1.length:=by
 unfold method;dsimp only;have h1:=vk [dJ,dH,dI] s;generalize words [dJ,dH,dI] s=a at *;have h2:=fB a.2;generalize name a.2=b at *;have h3:=BN b.2;generalize arg b.2=c at *;have h4:=fU c.2 dA;generalize want c.2 dA=s4 at *;have h5:=vk [eX,dB] s4;generalize words [eX,dB] s4=d at *;have h6:=Na d.2 bU;generalize take d.2 bU=t at *;have h7:=fB t.2;refine xM (fU _ _) ?_;split
 ·omega
 ·simp only
  omega
end Id
theorem LQ(b:Nat)(hb0:0<b)(s0:Id.St)(w:World)(hk:Tk.KW w)(h:Id.Ps w b s0) :
  Calls Tryz.prog 100 #[.pointer (some ⟨b,0,none⟩)] w λe w'=>e=.returned (.agg #[.string (Id.method s0).1.name,.string (Id.method s0).1.arg,.int .u8 (Id.method s0).1.result,.string (Id.method s0).1.effect,.string (Id.method s0).1.undo])/\w.grownBy w' (some b)/\Id.Ps w' b (Id.method s0).2:=by
 unfold Id.method;obtain⟨⟨n1,s1⟩,H1⟩:∃ R,Hid (Id.words [Id.dJ,Id.dH,Id.dI] s0=R):=⟨_,hid rfl⟩;simp only[H1.out];obtain⟨⟨n2,s2⟩,H2⟩:∃ R,Hid (Id.name s1=R):=⟨_,hid rfl⟩;simp only[H2.out];obtain⟨⟨n3,s3⟩,H3⟩:∃ R,Hid (Id.arg s2=R):=⟨_,hid rfl⟩;simp only[H3.out];obtain⟨s4,H4⟩:∃ R,Hid (Id.want s3 Id.dA=R):=⟨_,hid rfl⟩;simp only[H4.out];obtain⟨⟨n4,s5⟩,H5⟩:∃ R,Hid (Id.words [Id.eX,Id.dB] s4=R):=⟨_,hid rfl⟩;simp only[H5.out];obtain⟨⟨tb,s6⟩,H6⟩:∃ R,Hid (Id.take s5 Id.bU=R):=⟨_,hid rfl⟩;simp only[H6.out];obtain⟨⟨nu,s7⟩,H7⟩:∃ R,Hid ((if tb=true then Id.name s6 else(⟨#[]⟩,s6))=R):=⟨_,hid rfl⟩;simp only[H7.out];obtain⟨ew,HEW⟩:∃ R,Hid (Id.endW n4=R):=⟨_,hid rfl⟩;rw[HEW.out];have hbw:=h.lt;have hq:=Bk.new w 180 #[.string ⟨#[]⟩,.string ⟨#[]⟩,.int .u8 0,.string ⟨#[]⟩,.string ⟨#[]⟩];have hW:=(Id.PW.start h hk).alloc (.cells #[.string ⟨#[]⟩,.string ⟨#[]⟩,.int .u8 0,.string ⟨#[]⟩,.string ⟨#[]⟩] 180);clear h hk;go_enter Tryz.func100,Tryz.ntmps100;go_wp2_with fail;have hL:=BF (w.alloc (.cells #[.string ⟨#[]⟩,.string ⟨#[]⟩,.int .u8 0,.string ⟨#[]⟩,.string ⟨#[]⟩] 180)) 9 #[.string Id.dJ,.string Id.dH,.string Id.dI] _ rfl;rw[World.size_alloc]at hL;replace hW:=hW.alloc (.cells #[.string Id.dJ,.string Id.dH,.string Id.dI] 9);replace hq:=hq.alloc (.cells #[.string Id.dJ,.string Id.dH,.string Id.dI] 9);refine(yY _ 3 3 [Id.dJ,Id.dH,Id.dI] rfl (by omega) b s0 _ hL hW.ps).mono ?_;rintro e w1⟨rfl,hg,hp⟩;rw[H1.out]at hp ⊢;simp only at hp ⊢;replace hW:=hW.call hb0 hg hp;replace hq:=hq.call hg (by omega);clear hg hp hL;go_wp2_with fail;refine(iw b hb0 s1 _ hW.kw hW.ps).mono ?_;rintro e w2⟨rfl,hg,hp⟩;rw[H2.out]at hp ⊢;simp only at hp ⊢;replace hW:=hW.call hb0 hg hp;replace hq:=hq.call hg (by omega);clear hg hp;go_wp2_with fail;refine(Ji b hb0 s2 _ hW.kw hW.ps).mono ?_;rintro e w3⟨rfl,hg,hp⟩;rw[H3.out]at hp ⊢;simp only at hp ⊢;replace hW:=hW.call hb0 hg hp;replace hq:=hq.call hg (by omega);clear hg hp;go_wp2_with fail;have hf:=Bk.new w3 180 #[.string n2,.string n3,.int .u8 0,.string n1,.string ⟨#[]⟩];have hrf:=hq.lt;replace hq:=hq.alloc (.cells #[.string n2,.string n3,.int .u8 0,.string n1,.string ⟨#[]⟩] 180);replace hW:=hW.alloc (.cells #[.string n2,.string n3,.int .u8 0,.string n1,.string ⟨#[]⟩] 180);generalize hfb:w3.heap.size=fb at *;have HFB:=hid hfb;clear hfb;refine(iq b s3 Id.dA _ hW.ps).mono ?_;rintro e w4⟨rfl,hg,hp⟩;rw[H4.out]at hp;replace hW:=hW.call hb0 hg hp;replace hq:=hq.call hg (by omega);replace hf:=hf.call hg (by omega);clear hg hp;go_wp2_with fail;have hL:=BF w4 9 #[.string Id.eX,.string Id.dB] _ rfl;replace hW:=hW.alloc (.cells #[.string Id.eX,.string Id.dB] 9);replace hq:=hq.alloc (.cells #[.string Id.eX,.string Id.dB] 9);replace hf:=hf.alloc (.cells #[.string Id.eX,.string Id.dB] 9);refine(yY _ 2 2 [Id.eX,Id.dB] rfl (by omega) b s4 _ hL hW.ps).mono ?_;rintro e w5⟨rfl,hg,hp⟩;rw[H5.out]at hp ⊢;simp only at hp ⊢;replace hW:=hW.call hb0 hg hp;replace hq:=hq.call hg (by omega);replace hf:=hf.call hg (by omega);clear hg hp;clear hL;go_wp2_with fail;refine(Dy n4 _).mono ?_;rintro e w'⟨rfl,hw⟩;obtain rfl:=hw.symm;rw[HEW.out];obtain⟨⟨f0,f1,f2,f3,f4⟩,g0,g1,g2,g3,g4⟩:=hf.k5;go_wp2_with fail;clear f0 f1 f2 f3 f4 g0 g1 g2 g3 g4;replace hW:=hW.set hf (by omega) (by omega) (by decide) (by decide) 2 (.int .u8 ew);replace hq:=hq.far (p:=⟨fb,2,none⟩) (by show ¬w.heap.size=fb;omega) (.int .u8 ew);replace hf:Bk (w5.setCell ⟨fb,2,none⟩ (.int .u8 ew)) fb 180 #[.string n2,.string n3,.int .u8 ew,.string n1,.string ⟨#[]⟩]:=hf.au 2 (.int .u8 ew);refine(lD b s5 Id.bU _ hW.ps).mono ?_;rintro e w6⟨rfl,hg,hp⟩;rw[H6.out]at hp ⊢;simp only at hp ⊢;replace hW:=hW.call hb0 hg hp;replace hq:=hq.call hg (by omega);replace hf:=hf.call hg (by omega);clear hg hp;cases tb
 case' true =>
  replace H7:Hid (Id.name s6=(nu,s7)):=hid (by have:=H7.out;simpa using this);go_wp2_with fail;refine(iw b hb0 s6 _ hW.kw hW.ps).mono ?_;rintro e w7⟨rfl,hg,hp⟩;rw[H7.out]at hp ⊢;simp only at hp ⊢;replace hW:=hW.call hb0 hg hp;replace hq:=hq.call hg (by omega);replace hf:=hf.call hg (by omega);clear hg hp;obtain⟨⟨f0,f1,f2,f3,f4⟩,g0,g1,g2,g3,g4⟩:=hf.k5;go_wp2_with fail;clear f0 f1 f2 f3 f4 g0 g1 g2 g3 g4;replace hW:=hW.set hf (by omega) (by omega) (by decide) (by decide) 4 (.string nu);replace hq:=hq.far (p:=⟨fb,4,none⟩) (by show ¬w.heap.size=fb;omega) (.string nu);replace hf:Bk (w7.setCell ⟨fb,4,none⟩ (.string nu)) fb 180 #[.string n2,.string n3,.int .u8 ew,.string n1,.string nu]:=hf.au 4 (.string nu);generalize(w7.setCell ⟨fb,4,none⟩ (.string nu))=w8 at *
 case' false =>
  obtain⟨HNU,HS7⟩:nu=(⟨#[]⟩:ByteArray)/\s7=s6:=by have:=H7.out;simp at this;exact⟨this.1.symm,this.2.symm⟩
  clear H7;obtain⟨w8,HW8⟩:∃ w8,w8=w6:=⟨_,rfl⟩;rw[<-HW8,<-HS7]at hW;rw[<-HW8]at hq;rw[<-HW8,<-HNU]at hf;rw[<-HW8];have aaX:=hid HNU;clear HNU HS7 HW8;go_wp2_with fail
 all_goals
  refine(iq b s7 Id.aK _ hW.ps).mono ?_;rintro e w9⟨rfl,hg,hp⟩;replace hW:=hW.call hb0 hg hp;replace hq:=hq.call hg (by omega);replace hf:=hf.call hg (by omega);clear hg hp;obtain⟨⟨f0,f1,f2,f3,f4⟩,g0,g1,g2,g3,g4⟩:=hf.k5;obtain⟨⟨q0,q1,q2,q3,q4⟩,r0,r1,r2,r3,r4⟩:=hq.k5;go_wp2_with fail;have hqf:=((((hq.au 0 (.string n2)).au 1 (.string n3)).au 2 (.int .u8 ew)).au 3 (.string n1)).au 4 (.string nu);have hWf:=((((hW.set hq (xB _) (by omega) (by decide) (by decide) 0 (.string n2)).set (hq.au 0 (.string n2)) (xB _) (by omega) (by decide) (by decide) 1 (.string n3)).set ((hq.au 0 (.string n2)).au 1 (.string n3)) (xB _) (by omega) (by decide) (by decide) 2 (.int .u8 ew)).set (((hq.au 0 (.string n2)).au 1 (.string n3)).au 2 (.int .u8 ew)) (xB _) (by omega) (by decide) (by decide) 3 (.string n1)).set ((((hq.au 0 (.string n2)).au 1 (.string n3)).au 2 (.int .u8 ew)).au 3 (.string n1)) (xB _) (by omega) (by decide) (by decide) 4 (.string nu);generalize(((((w9.setCell ⟨w.heap.size,0,none⟩ (.string n2)).setCell ⟨w.heap.size,1,none⟩ (.string n3)).setCell ⟨w.heap.size,2,none⟩ (.int .u8 ew)).setCell ⟨w.heap.size,3,none⟩ (.string n1)).setCell ⟨w.heap.size,4,none⟩ (.string nu))=w10 at *;obtain⟨⟨r0,r1,r2,r3,r4⟩,_⟩:=hqf.k5;refine bodyPost_ret (v:=.agg #[.string n2,.string n3,.int .u8 ew,.string n1,.string nu]) ?_ rfl ⟨rfl,hWf.gb,hWf.ps⟩;rw[iM rfl];go_simp;try rfl
namespace Id
def aN:ByteArray:=⟨#[123]⟩
def aJ:ByteArray:=⟨#[125]⟩
def aU{α:Type}(read:St->α × St):Nat->St->List α->List α × St
 |0,s,acc=>(acc,s)
 |f+1,s,acc=>if s.2 then(acc,s)else if is s aJ then(acc,(s.1.tail,s.2))else aU read f (read s).2 (if(read s).2.2 then acc else acc++[(read s).1])
def within{α:Type}(read:St->α × St)(s:St):List α × St:=aU read ((want s aN).1.length+2) (want s aN) []
theorem Ux{s:St}{k:Nat}{p:Tk.Tok->Bool}(h:(one s k p).2.2=false):s.2=false/\(one s k p).2.1.length+1=s.1.length:=by
 obtain⟨l,bad⟩:=s;cases bad
 ·cases l with
  |nil=>cases h
  |cons t r =>
   unfold one at h ⊢;by_cases hc:t.kind=k/\p t=true
   ·simp only[if_pos hc];simp
   ·simp only[if_neg hc]at h;cases h
 ·cases l<;>cases h
theorem RX{s:St}(h:(name s).2.2=false):s.2=false/\(name s).2.1.length+1=s.1.length:=Ux h
theorem vX{s:St}{x:ByteArray}(h:(want s x).2=false):s.2=false/\(want s x).1.length+1=s.1.length:=by
 unfold want at h ⊢;by_cases hi:is s x=true
 ·obtain⟨t,r,rfl⟩:=oM hi
  simp only[if_pos hi]at h ⊢;simp
 ·simp only[if_neg hi]at h;cases h
theorem Lu:∀(f:Nat)(s:St)(acc:List Srt),s.1.length<f->(bG f s acc).2.2=false->s.2=false
 |0,s,acc,hf,h=>by omega
 |f+1,s,acc,hf,h=>by
  obtain⟨l,bad⟩:=s;cases bad
  ·rfl
  ·simp[bG]at h
theorem Ob{s:St}(h:(sorts s).2.2=false):s.2=false:=Lu _ _ _ (Nat.lt_succ_self _) h
theorem zN{s:St}(h:(field s).2.2=false):(field s).2.1.length<s.1.length:=by
 have h1:=vX h;have h2:=Ob h1.1;have h3:=vX h2;have h4:=RX h3.1;have h5:=IC (want (name s).2 gu);have e:(field s).2=want (sorts (want (name s).2 gu)).2 aK:=rfl;rw[e];omega
theorem Aw{s:St}(h:(step s).2.2=false):(step s).2.1.length<s.1.length:=by
 have h1:=vX (s:=(num (want (name (want (name (want s wDo)).2 jU)).2 wAt)).2) h;have h2:=RI (want (name (want (name (want s wDo)).2 jU)).2 wAt);have h3:=fU (name (want (name (want s wDo)).2 jU)).2 wAt;have h4:=fB (want (name (want s wDo)).2 jU);have h5:=fU (name (want s wDo)).2 jU;have h6:=fB (want s wDo);have h7:=fU s wDo;have e:(step s).2=want (num (want (name (want (name (want s wDo)).2 jU)).2 wAt)).2 aK:=rfl;rw[e];omega
theorem wS{s:St}(h:(method s).2.2=false):(method s).2.1.length<s.1.length:=by
 unfold method at h ⊢;dsimp only at h ⊢;have h1:=vk [dJ,dH,dI] s;generalize words [dJ,dH,dI] s=a at *;have h2:=fB a.2;generalize name a.2=b at *;have h3:=BN b.2;generalize arg b.2=c at *;have h4:=fU c.2 dA;generalize want c.2 dA=s4 at *;have h5:=vk [eX,dB] s4;generalize words [eX,dB] s4=d at *;have h6:=Na d.2 bU;generalize take d.2 bU=t at *;have h7:=fB t.2;have h8:=vX h;refine Nat.lt_of_lt_of_le (Nat.lt_of_succ_le (Nat.le_of_eq h8.2)) ?_;split
 ·omega
 ·simp only
  omega
theorem Ee{α:Type}{read:St->α × St}(hr:∀ s,(read s).2.1.length<=s.1.length):∀(f:Nat)(s:St)(acc:List α),(aU read f s acc).2.1.length<=s.1.length
 |0,s,acc=>xB _
 |f+1,s,acc=>by
  unfold aU;split
  ·exact xB _
  ·split
   ·simp
   ·exact xM (Ee hr f _ _) (hr s)
theorem jA{α:Type}{read:St->α × St}(hr:∀ s,(read s).2.1.length<=s.1.length)(s:St):(within read s).2.1.length<=s.1.length:=xM (Ee hr _ _ _) (fU _ _)
theorem Srt.PK{base b:Nat}{T:List TypeId}{w w':World}(h:Kp base T w w')(hb:base<=b)(ht:44∈T){v:Value}{l:List Srt}(hs:bf w (some b) v l):bf w' (some b) v l:=ah.kp hs h hb ht (λ_ _ h=>h)
theorem dR.kp{base b:Nat}{T:List TypeId}{w w':World}(h:Kp base T w w')(hb:base<=b)(ht:44∈T)(cs:List Value)(x:Fld)(he:dR (some b) w cs x):dR (some b) w' cs x:=by
 obtain⟨u,e,hs⟩:=he;exact⟨u,e,Srt.PK h hb ht hs⟩
theorem dh.kp{w w':World}(cs:List Value)(x:Mth)(he:dh w cs x):dh w' cs x:=he
theorem eu.kp{w w':World}(cs:List Value)(x:Stp)(he:eu w cs x):eu w' cs x:=he
end Id
theorem Id.EI:(Tryz.prog.info? 176).map (λi=>(i.zero,i.size,i.bytes))=some (some (.agg #[.string ByteArray.empty,.slice none 0 0]),2,40):=by kernel_rfl
structure Id.Lc(w:World)(b:Nat)(R:List Id.Fld × Id.St)(n:Nat)(v:Value)(wr:World)(s:Id.St)(acc:List Id.Fld):Prop where
 fu:s.2=false->s.1.length+2<=n
 fo:1<=n
 ln:acc.length+s.1.length<=1000000
 pw:Id.PW w wr b s
 row:ah wr (some w.heap.size) 176 2 (Id.dR (some w.heap.size)) v acc
 out:Id.aU Id.field n s acc=R
theorem Ae(b:Nat)(hb0:0<b)(s0:Id.St)(hsz:s0.1.length<=1000000)(w:World)(hk:Tk.KW w)(h:Id.Ps w b s0) :
  Calls Tryz.prog 97 #[.pointer (some ⟨b,0,none⟩),.func (.func 98) #[.pointer (some ⟨b,0,none⟩)] #[]] w λe w'=>∃ v,e=.returned v/\w.grownBy w' (some b)/\Id.Ps w' b (Id.within Id.field s0).2/\ah w' (some w.heap.size) 176 2 (Id.dR (some w.heap.size)) v (Id.within Id.field s0).1:=by
 obtain⟨R,HR⟩:∃ R,Hid (Id.within Id.field s0=R):=⟨_,hid rfl⟩;rw[HR.out];have hbw:=h.lt;have hsz1:=Id.fU s0 Id.aN;obtain⟨s1,H1⟩:∃ R,Hid (Id.want s0 Id.aN=R):=⟨_,hid rfl⟩;rw[H1.out]at hsz1;have hW:=Id.PW.start h hk;clear h hk;go_enter Tryz.func97,Tryz.ntmps97;go_wp2_with fail;refine(iq b s0 Id.aN _ hW.ps).mono ?_;rintro e w1⟨rfl,hg,hp⟩;rw[H1.out]at hp;replace hW:=hW.call hb0 hg hp;have HA0:=hid (show Id.Lc w b R (s1.1.length+2) (.slice none 0 0) w1 s1 []from⟨λ_=>xB _,by omega,by simp;omega,hW,ah.nil _ _ _ _ _,by rw[<-HR.out];unfold Id.within;rw[H1.out]⟩);clear hg hp hW;go_wp2_with fail;go_loopg [5] (s1.1.length+2) (λn l wr=>∃(s:Id.St)(acc:List Id.Fld)(lv:Value),lv=l/\Hid (Id.Lc w b R n lv wr s acc))
 case atStart=>exact⟨s1,[],_,rfl,HA0⟩
 case round =>
  obtain⟨s,acc,lv,rfl,HA⟩:=hrel;obtain⟨f,rfl⟩:∃ f,gk=f+1:=⟨gk - 1,by have:=HA.out.fo;omega⟩;obtain⟨l,bad⟩:=s;obtain⟨A,c,hk,hr,hc,hc2,hne⟩:=HA.out.pw.ps.lies;obtain⟨⟨c0,c1⟩,f0,f1⟩:=hk.k2;have hln:=HA.out.ln;have hfu:=HA.out.fu;have hzr:=HA.out.pw.gb.size;simp only at hln hfu;clear hr hne hk hc c0 f0 f1;cases bad
  case true =>
   have HE:Hid (R=(acc,(l,true))):=hid (by rw[<-HA.out.out];rfl);clear hfu;go_wp2_with fail;go_ret;exact⟨_,rfl,HA.out.pw.gb,by rw[HE.out];exact HA.out.pw.ps,by rw[HE.out];exact HA.out.row⟩
  replace hfu:=hfu rfl;go_wp2_with fail;refine(lD b (l,false) Id.aJ _ HA.out.pw.ps).mono ?_;rintro e w2⟨rfl,hg2,hp2⟩;cases hi:Id.is (l,false) Id.aJ
  case true =>
   have HT:Hid (Id.take (l,false) Id.aJ=(true,(l.tail,false))):=hid (by unfold Id.take;rw[hi];rfl);rw[HT.out]at hp2 ⊢;simp only at hp2 ⊢;have HE:Hid (R=(acc,(l.tail,false))):=hid (by rw[<-HA.out.out];simp[Id.aU,hi]);have HW:=hid (HA.out.pw.call hb0 hg2 hp2);have HRW:Hid (ah w2 (some w.heap.size) 176 2 (Id.dR (some w.heap.size)) lv acc):=hid (HA.out.row.kp (Kp.grown (T:=[176,44]) hg2 hbw) (xB _) (by simp) (Id.dR.kp (Kp.grown (T:=[176,44]) hg2 hbw) (xB _) (by simp)));clear hi hg2 hp2 c1;go_wp2_with fail;go_ret;exact⟨_,rfl,HW.out.gb,by rw[HE.out];exact HW.out.ps,by rw[HE.out];exact HRW.out⟩
  have HT:Hid (Id.take (l,false) Id.aJ=(false,(l,false))):=hid (by unfold Id.take;rw[hi];rfl);rw[HT.out]at hp2 ⊢;simp only at hp2 ⊢;have HW:=hid (HA.out.pw.call hb0 hg2 hp2);have HRW:Hid (ah w2 (some w.heap.size) 176 2 (Id.dR (some w.heap.size)) lv acc):=hid (HA.out.row.kp (Kp.grown (T:=[176,44]) hg2 hbw) (xB _) (by simp) (Id.dR.kp (Kp.grown (T:=[176,44]) hg2 hbw) (xB _) (by simp)));have HI:=hid hi;clear hi hg2 hp2 c1;go_wp2_with fail;have hrl:=Id.qo (l,false);have hrg:=@Id.zN (l,false);obtain⟨⟨x,⟨l3,KJ⟩⟩,H3⟩:∃ R,Hid (Id.field (l,false)=R):=⟨_,hid rfl⟩;rw[H3.out]at hrl hrg;simp only at hrl hrg;refine(OE b hb0 (l,false) (by simp only;omega) _ HW.out.kw HW.out.ps).mono ?_;rintro e w3⟨v3,rfl,hg3,hp3,hr3⟩;rw[H3.out]at hp3 hr3 ⊢;simp only at hp3 hr3 ⊢;obtain⟨A5,n5,c5,rfl⟩:=ah.is hr3;have aa9:=HW.out.gb.size;have HS3:Hid (Id.bf w3 (some w.heap.size) (.slice A5 n5 c5) x.type):=hid (ah.mono hr3 (λ_ _ h=>h.weak (λb' e=>⟨_,rfl,by injection e with e;omega⟩)) (λ_ _ h=>h));clear hr3;have YA:=HW.out.gb.size;have HW3:=hid (HW.out.call hb0 hg3 hp3);have BP:Hid (ah w3 (some w.heap.size) 176 2 (Id.dR (some w.heap.size)) lv acc):=hid (HRW.out.kp (Kp.grown (T:=[176,44]) hg3 hbw) (xB _) (by simp) (Id.dR.kp (Kp.grown (T:=[176,44]) hg3 hbw) (xB _) (by simp)));clear hg3 hp3 HRW;have hz3:=HW3.out.gb.size;have hbw3:=HW3.out.ps.lt;have YF:¬b=w3.heap.size:=by omega
  obtain⟨A3,c3,hk3,_⟩:=HW3.out.ps.lies;obtain⟨⟨c0,c1⟩,f0,f1⟩:=hk3.k2;clear hk3 c0 f0 f1;cases KJ
  case true =>
   have HE:Hid (Id.aU Id.field f (l3,true) acc=R):=hid (by rw[<-HA.out.out];simp[Id.aU,HI.out,H3.out]);clear hrg;go_wp2_with fail;go_roundg f
   case rel=>exact⟨_,_,_,rfl,hid ⟨(λe=>by cases e),by omega,by simp only;omega,HW3.out.alloc _,BP.out.below ((Below.refl _ _).alloc (xB _) _) (Id.dR.kp (Kp.below (base:=w.heap.size) (T:=[44]) ((Below.refl _ _).alloc (xB _) _)) (xB _) (by simp)),HE.out⟩⟩
   case measure=>omega
  replace hrg:=hrg rfl;have HE:Hid (Id.aU Id.field f (l3,false) (acc++[x])=R):=hid (by rw[<-HA.out.out];simp[Id.aU,HI.out,H3.out]);have KZ:=hid (BP.out.below ((Below.refl _ _).alloc (xB _) (.cells #[.string x.name,.slice A5 n5 c5] 176)) (Id.dR.kp (Kp.below (base:=w.heap.size) (T:=[44]) ((Below.refl _ _).alloc (xB _) _)) (xB _) (by simp)));have hz4:=World.size_alloc w3 (.cells #[.string x.name,.slice A5 n5 c5] 176);have HZ4:=hid hz4;clear hz4;go_wp2_with(at_builtin;go_must(refine aO rfl _ _ _ rfl w.heap.size 176 _ 2 40 Tryz.underlying40 Id.EI rfl (by decide) (Id.dR (some w.heap.size)) lv acc rfl KZ.out [.string x.name,.slice A5 n5 c5] rfl _ rfl (by rw[World.size_alloc]) (by simp[Value.oneCell']) (by simp only[maxLen];omega) (by omega) (by rw[World.size_alloc];omega) ?_);intro v' w4 hrow2 hb2 ho2;have dP:=hid hrow2;have HB2:=hid hb2;have HO2:=hid ho2;clear hrow2 hb2 ho2);go_roundg f
  case rel =>
   have hPS:=(HW3.out.alloc (.cells #[.string x.name,.slice A5 n5 c5] 176));exact⟨_,_,v',rfl,hid ⟨λ_=>by simp only;omega,by omega,by simp;omega,⟨hPS.ps.only HO2.out (by decide) (by decide),⟨Nat.lt_of_lt_of_le hPS.kw.1 HB2.out.size,λj hj=>(HB2.out.cell (p:=⟨0,0+j,none⟩) (by show 0<w.heap.size;omega)).trans (hPS.kw.2 j hj)⟩,yM hPS.gb HB2.out⟩,dP.out x (Id.dR.kp (HO2.out.kp w.heap.size (T:=[44]) (by decide)) (xB _) (by simp)) ⟨_,rfl,Id.Srt.PK ((Kp.below ((Below.refl _ _).alloc (xB _) _)).trans (HO2.out.kp w.heap.size (T:=[44]) (by decide))) (xB _) (by simp) HS3.out⟩,HE.out⟩⟩
  case measure=>omega
theorem Id.mW:(Tryz.prog.info? 180).map (λi=>(i.zero,i.size,i.bytes))=some (some (.agg #[.string ByteArray.empty,.string ByteArray.empty,.int .u8 0,.string ByteArray.empty,.string ByteArray.empty]),5,72):=by kernel_rfl
structure Id.Hu(w:World)(b:Nat)(R:List Id.Mth × Id.St)(n:Nat)(v:Value)(wr:World)(s:Id.St)(acc:List Id.Mth):Prop where
 fu:s.2=false->s.1.length+2<=n
 fo:1<=n
 ln:acc.length+s.1.length<=1000000
 pw:Id.PW w wr b s
 row:ah wr (some w.heap.size) 180 5 Id.dh v acc
 out:Id.aU Id.method n s acc=R
theorem Fg(b:Nat)(hb0:0<b)(s0:Id.St)(hsz:s0.1.length<=1000000)(w:World)(hk:Tk.KW w)(h:Id.Ps w b s0) :
  Calls Tryz.prog 99 #[.pointer (some ⟨b,0,none⟩),.func (.func 100) #[.pointer (some ⟨b,0,none⟩)] #[]] w λe w'=>∃ v,e=.returned v/\w.grownBy w' (some b)/\Id.Ps w' b (Id.within Id.method s0).2/\ah w' (some w.heap.size) 180 5 Id.dh v (Id.within Id.method s0).1:=by
 obtain⟨R,HR⟩:∃ R,Hid (Id.within Id.method s0=R):=⟨_,hid rfl⟩;rw[HR.out];have hbw:=h.lt;have hsz1:=Id.fU s0 Id.aN;obtain⟨s1,H1⟩:∃ R,Hid (Id.want s0 Id.aN=R):=⟨_,hid rfl⟩;rw[H1.out]at hsz1;have hW:=Id.PW.start h hk;clear h hk;go_enter Tryz.func99,Tryz.ntmps99;go_wp2_with fail;refine(iq b s0 Id.aN _ hW.ps).mono ?_;rintro e w1⟨rfl,hg,hp⟩;rw[H1.out]at hp;replace hW:=hW.call hb0 hg hp;have HA0:=hid (show Id.Hu w b R (s1.1.length+2) (.slice none 0 0) w1 s1 []from⟨λ_=>xB _,by omega,by simp;omega,hW,ah.nil _ _ _ _ _,by rw[<-HR.out];unfold Id.within;rw[H1.out]⟩);clear hg hp hW;go_wp2_with fail;go_loopg [5] (s1.1.length+2) (λn l wr=>∃(s:Id.St)(acc:List Id.Mth)(lv:Value),lv=l/\Hid (Id.Hu w b R n lv wr s acc))
 case atStart=>exact⟨s1,[],_,rfl,HA0⟩
 case round =>
  obtain⟨s,acc,lv,rfl,HA⟩:=hrel;obtain⟨f,rfl⟩:∃ f,gk=f+1:=⟨gk - 1,by have:=HA.out.fo;omega⟩;obtain⟨l,bad⟩:=s;obtain⟨A,c,hk,hr,hc,hc2,hne⟩:=HA.out.pw.ps.lies;obtain⟨⟨c0,c1⟩,f0,f1⟩:=hk.k2;have hln:=HA.out.ln;have hfu:=HA.out.fu;have hzr:=HA.out.pw.gb.size;simp only at hln hfu;clear hr hne hk hc c0 f0 f1;cases bad
  case true =>
   have HE:Hid (R=(acc,(l,true))):=hid (by rw[<-HA.out.out];rfl);clear hfu;go_wp2_with fail;go_ret;exact⟨_,rfl,HA.out.pw.gb,by rw[HE.out];exact HA.out.pw.ps,by rw[HE.out];exact HA.out.row⟩
  replace hfu:=hfu rfl;go_wp2_with fail;refine(lD b (l,false) Id.aJ _ HA.out.pw.ps).mono ?_;rintro e w2⟨rfl,hg2,hp2⟩;cases hi:Id.is (l,false) Id.aJ
  case true =>
   have HT:Hid (Id.take (l,false) Id.aJ=(true,(l.tail,false))):=hid (by unfold Id.take;rw[hi];rfl);rw[HT.out]at hp2 ⊢;simp only at hp2 ⊢;have HE:Hid (R=(acc,(l.tail,false))):=hid (by rw[<-HA.out.out];simp[Id.aU,hi]);have HW:=hid (HA.out.pw.call hb0 hg2 hp2);have HRW:Hid (ah w2 (some w.heap.size) 180 5 Id.dh lv acc):=hid (HA.out.row.kp (Kp.grown (T:=[180,44]) hg2 hbw) (xB _) (by simp) Id.dh.kp);clear hi hg2 hp2 c1;go_wp2_with fail;go_ret;exact⟨_,rfl,HW.out.gb,by rw[HE.out];exact HW.out.ps,by rw[HE.out];exact HRW.out⟩
  have HT:Hid (Id.take (l,false) Id.aJ=(false,(l,false))):=hid (by unfold Id.take;rw[hi];rfl);rw[HT.out]at hp2 ⊢;simp only at hp2 ⊢;have HW:=hid (HA.out.pw.call hb0 hg2 hp2);have HRW:Hid (ah w2 (some w.heap.size) 180 5 Id.dh lv acc):=hid (HA.out.row.kp (Kp.grown (T:=[180,44]) hg2 hbw) (xB _) (by simp) Id.dh.kp);have HI:=hid hi;clear hi hg2 hp2 c1;go_wp2_with fail;have hrl:=Id.tX (l,false);have hrg:=@Id.wS (l,false);obtain⟨⟨x,⟨l3,KJ⟩⟩,H3⟩:∃ R,Hid (Id.method (l,false)=R):=⟨_,hid rfl⟩;rw[H3.out]at hrl hrg;simp only at hrl hrg;refine(LQ b hb0 (l,false) _ HW.out.kw HW.out.ps).mono ?_;rintro e w3⟨rfl,hg3,hp3⟩;rw[H3.out]at hp3 ⊢;simp only at hp3 ⊢;have YA:=HW.out.gb.size;have HW3:=hid (HW.out.call hb0 hg3 hp3);have BP:Hid (ah w3 (some w.heap.size) 180 5 Id.dh lv acc):=hid (HRW.out.kp (Kp.grown (T:=[180,44]) hg3 hbw) (xB _) (by simp) Id.dh.kp);clear hg3 hp3 HRW;have hz3:=HW3.out.gb.size;have hbw3:=HW3.out.ps.lt;have YF:¬b=w3.heap.size:=by omega
  obtain⟨A3,c3,hk3,_⟩:=HW3.out.ps.lies;obtain⟨⟨c0,c1⟩,f0,f1⟩:=hk3.k2;clear hk3 c0 f0 f1;cases KJ
  case true =>
   have HE:Hid (Id.aU Id.method f (l3,true) acc=R):=hid (by rw[<-HA.out.out];simp[Id.aU,HI.out,H3.out]);clear hrg;go_wp2_with fail;go_roundg f
   case rel=>exact⟨_,_,_,rfl,hid ⟨(λe=>by cases e),by omega,by simp only;omega,HW3.out.alloc _,BP.out.below ((Below.refl _ _).alloc (xB _) _) Id.dh.kp,HE.out⟩⟩
   case measure=>omega
  replace hrg:=hrg rfl;have HE:Hid (Id.aU Id.method f (l3,false) (acc++[x])=R):=hid (by rw[<-HA.out.out];simp[Id.aU,HI.out,H3.out]);have KZ:=hid (BP.out.below ((Below.refl _ _).alloc (xB _) (.cells #[.string x.name,.string x.arg,.int .u8 x.result,.string x.effect,.string x.undo] 180)) Id.dh.kp);have hz4:=World.size_alloc w3 (.cells #[.string x.name,.string x.arg,.int .u8 x.result,.string x.effect,.string x.undo] 180);have HZ4:=hid hz4;clear hz4;go_wp2_with(at_builtin;go_must(refine aO rfl _ _ _ rfl w.heap.size 180 _ 5 72 Tryz.underlying99 Id.mW rfl (by decide) Id.dh lv acc rfl KZ.out [.string x.name,.string x.arg,.int .u8 x.result,.string x.effect,.string x.undo] rfl _ rfl (by rw[World.size_alloc]) (by simp[Value.oneCell']) (by simp only[maxLen];omega) (by omega) (by rw[World.size_alloc];omega) ?_);intro v' w4 hrow2 hb2 ho2;have dP:=hid hrow2;have HB2:=hid hb2;have HO2:=hid ho2;clear hrow2 hb2 ho2);go_roundg f
  case rel =>
   have hPS:=(HW3.out.alloc (.cells #[.string x.name,.string x.arg,.int .u8 x.result,.string x.effect,.string x.undo] 180));exact⟨_,_,v',rfl,hid ⟨λ_=>by simp only;omega,by omega,by simp;omega,⟨hPS.ps.only HO2.out (by decide) (by decide),⟨Nat.lt_of_lt_of_le hPS.kw.1 HB2.out.size,λj hj=>(HB2.out.cell (p:=⟨0,0+j,none⟩) (by show 0<w.heap.size;omega)).trans (hPS.kw.2 j hj)⟩,yM hPS.gb HB2.out⟩,dP.out x Id.dh.kp rfl,HE.out⟩⟩
  case measure=>omega
theorem Id.BH:(Tryz.prog.info? 184).map (λi=>(i.zero,i.size,i.bytes))=some (some (.agg #[.string ByteArray.empty,.string ByteArray.empty,.int .i64 0]),3,40):=by kernel_rfl
structure Id.NI(w:World)(b:Nat)(R:List Id.Stp × Id.St)(n:Nat)(v:Value)(wr:World)(s:Id.St)(acc:List Id.Stp):Prop where
 fu:s.2=false->s.1.length+2<=n
 fo:1<=n
 ln:acc.length+s.1.length<=1000000
 pw:Id.PW w wr b s
 row:ah wr (some w.heap.size) 184 3 Id.eu v acc
 out:Id.aU Id.step n s acc=R
theorem Ja(b:Nat)(hb0:0<b)(s0:Id.St)(hsz:s0.1.length<=1000000)(w:World)(hk:Tk.KW w)(h:Id.Ps w b s0) :
  Calls Tryz.prog 102 #[.pointer (some ⟨b,0,none⟩),.func (.func 103) #[.pointer (some ⟨b,0,none⟩)] #[]] w λe w'=>∃ v,e=.returned v/\w.grownBy w' (some b)/\Id.Ps w' b (Id.within Id.step s0).2/\ah w' (some w.heap.size) 184 3 Id.eu v (Id.within Id.step s0).1:=by
 obtain⟨R,HR⟩:∃ R,Hid (Id.within Id.step s0=R):=⟨_,hid rfl⟩;rw[HR.out];have hbw:=h.lt;have hsz1:=Id.fU s0 Id.aN;obtain⟨s1,H1⟩:∃ R,Hid (Id.want s0 Id.aN=R):=⟨_,hid rfl⟩;rw[H1.out]at hsz1;have hW:=Id.PW.start h hk;clear h hk;go_enter Tryz.func102,Tryz.ntmps102;go_wp2_with fail;refine(iq b s0 Id.aN _ hW.ps).mono ?_;rintro e w1⟨rfl,hg,hp⟩;rw[H1.out]at hp;replace hW:=hW.call hb0 hg hp;have HA0:=hid (show Id.NI w b R (s1.1.length+2) (.slice none 0 0) w1 s1 []from⟨λ_=>xB _,by omega,by simp;omega,hW,ah.nil _ _ _ _ _,by rw[<-HR.out];unfold Id.within;rw[H1.out]⟩);clear hg hp hW;go_wp2_with fail;go_loopg [5] (s1.1.length+2) (λn l wr=>∃(s:Id.St)(acc:List Id.Stp)(lv:Value),lv=l/\Hid (Id.NI w b R n lv wr s acc))
 case atStart=>exact⟨s1,[],_,rfl,HA0⟩
 case round =>
  obtain⟨s,acc,lv,rfl,HA⟩:=hrel;obtain⟨f,rfl⟩:∃ f,gk=f+1:=⟨gk - 1,by have:=HA.out.fo;omega⟩;obtain⟨l,bad⟩:=s;obtain⟨A,c,hk,hr,hc,hc2,hne⟩:=HA.out.pw.ps.lies;obtain⟨⟨c0,c1⟩,f0,f1⟩:=hk.k2;have hln:=HA.out.ln;have hfu:=HA.out.fu;have hzr:=HA.out.pw.gb.size;simp only at hln hfu;clear hr hne hk hc c0 f0 f1;cases bad
  case true =>
   have HE:Hid (R=(acc,(l,true))):=hid (by rw[<-HA.out.out];rfl);clear hfu;go_wp2_with fail;go_ret;exact⟨_,rfl,HA.out.pw.gb,by rw[HE.out];exact HA.out.pw.ps,by rw[HE.out];exact HA.out.row⟩
  replace hfu:=hfu rfl;go_wp2_with fail;refine(lD b (l,false) Id.aJ _ HA.out.pw.ps).mono ?_;rintro e w2⟨rfl,hg2,hp2⟩;cases hi:Id.is (l,false) Id.aJ
  case true =>
   have HT:Hid (Id.take (l,false) Id.aJ=(true,(l.tail,false))):=hid (by unfold Id.take;rw[hi];rfl);rw[HT.out]at hp2 ⊢;simp only at hp2 ⊢;have HE:Hid (R=(acc,(l.tail,false))):=hid (by rw[<-HA.out.out];simp[Id.aU,hi]);have HW:=hid (HA.out.pw.call hb0 hg2 hp2);have HRW:Hid (ah w2 (some w.heap.size) 184 3 Id.eu lv acc):=hid (HA.out.row.kp (Kp.grown (T:=[184,44]) hg2 hbw) (xB _) (by simp) Id.eu.kp);clear hi hg2 hp2 c1;go_wp2_with fail;go_ret;exact⟨_,rfl,HW.out.gb,by rw[HE.out];exact HW.out.ps,by rw[HE.out];exact HRW.out⟩
  have HT:Hid (Id.take (l,false) Id.aJ=(false,(l,false))):=hid (by unfold Id.take;rw[hi];rfl);rw[HT.out]at hp2 ⊢;simp only at hp2 ⊢;have HW:=hid (HA.out.pw.call hb0 hg2 hp2);have HRW:Hid (ah w2 (some w.heap.size) 184 3 Id.eu lv acc):=hid (HA.out.row.kp (Kp.grown (T:=[184,44]) hg2 hbw) (xB _) (by simp) Id.eu.kp);have HI:=hid hi;clear hi hg2 hp2 c1;go_wp2_with fail;have hrl:=Id.yj (l,false);have hrg:=@Id.Aw (l,false);obtain⟨⟨x,⟨l3,KJ⟩⟩,H3⟩:∃ R,Hid (Id.step (l,false)=R):=⟨_,hid rfl⟩;rw[H3.out]at hrl hrg;simp only at hrl hrg;refine(Rn b hb0 (l,false) _ HW.out.kw HW.out.ps).mono ?_;rintro e w3⟨rfl,hg3,hp3⟩;rw[H3.out]at hp3 ⊢;simp only at hp3 ⊢;have YA:=HW.out.gb.size;have HW3:=hid (HW.out.call hb0 hg3 hp3);have BP:Hid (ah w3 (some w.heap.size) 184 3 Id.eu lv acc):=hid (HRW.out.kp (Kp.grown (T:=[184,44]) hg3 hbw) (xB _) (by simp) Id.eu.kp);clear hg3 hp3 HRW;have hz3:=HW3.out.gb.size;have hbw3:=HW3.out.ps.lt;have YF:¬b=w3.heap.size:=by omega
  obtain⟨A3,c3,hk3,_⟩:=HW3.out.ps.lies;obtain⟨⟨c0,c1⟩,f0,f1⟩:=hk3.k2;clear hk3 c0 f0 f1;cases KJ
  case true =>
   have HE:Hid (Id.aU Id.step f (l3,true) acc=R):=hid (by rw[<-HA.out.out];simp[Id.aU,HI.out,H3.out]);clear hrg;go_wp2_with fail;go_roundg f
   case rel=>exact⟨_,_,_,rfl,hid ⟨(λe=>by cases e),by omega,by simp only;omega,HW3.out.alloc _,BP.out.below ((Below.refl _ _).alloc (xB _) _) Id.eu.kp,HE.out⟩⟩
   case measure=>omega
  replace hrg:=hrg rfl;have HE:Hid (Id.aU Id.step f (l3,false) (acc++[x])=R):=hid (by rw[<-HA.out.out];simp[Id.aU,HI.out,H3.out]);have KZ:=hid (BP.out.below ((Below.refl _ _).alloc (xB _) (.cells #[.string x.service,.string x.method,.int .i64 x.at_] 184)) Id.eu.kp);have hz4:=World.size_alloc w3 (.cells #[.string x.service,.string x.method,.int .i64 x.at_] 184);have HZ4:=hid hz4;clear hz4;go_wp2_with(at_builtin;go_must(refine aO rfl _ _ _ rfl w.heap.size 184 _ 3 40 Tryz.underlying103 Id.BH rfl (by decide) Id.eu lv acc rfl KZ.out [.string x.service,.string x.method,.int .i64 x.at_] rfl _ rfl (by rw[World.size_alloc]) (by simp[Value.oneCell']) (by simp only[maxLen];omega) (by omega) (by rw[World.size_alloc];omega) ?_);intro v' w4 hrow2 hb2 ho2;have dP:=hid hrow2;have HB2:=hid hb2;have HO2:=hid ho2;clear hrow2 hb2 ho2);go_roundg f
  case rel =>
   have hPS:=(HW3.out.alloc (.cells #[.string x.service,.string x.method,.int .i64 x.at_] 184));exact⟨_,_,v',rfl,hid ⟨λ_=>by simp only;omega,by omega,by simp;omega,⟨hPS.ps.only HO2.out (by decide) (by decide),⟨Nat.lt_of_lt_of_le hPS.kw.1 HB2.out.size,λj hj=>(HB2.out.cell (p:=⟨0,0+j,none⟩) (by show 0<w.heap.size;omega)).trans (hPS.kw.2 j hj)⟩,yM hPS.gb HB2.out⟩,dP.out x Id.eu.kp rfl,HE.out⟩⟩
  case measure=>omega
namespace Id
structure Rec where
 name:ByteArray
 choice:Bool
 fields:List Fld
structure Svc where
 name:ByteArray
 methods:List Mth
structure Sag where
 name:ByteArray
 arg:ByteArray
 steps:List Stp
structure Sch where
 name:ByteArray
 records:List Rec
 services:List Svc
 sagas:List Sag
def iH(B:Option Nat)(w:World)(cs:List Value)(x:Rec):Prop:=∃ u,cs=[.string x.name,.bool x.choice,u]/\iO w B u x.fields
def jG(B:Option Nat)(w:World)(cs:List Value)(x:Svc):Prop:=∃ u,cs=[.string x.name,u]/\ah w B 180 5 dh u x.methods
def jH(B:Option Nat)(w:World)(cs:List Value)(x:Sag):Prop:=∃ u,cs=[.string x.name,.string x.arg,u]/\ah w B 184 3 eu u x.steps
def oQ(w:World)(B:Option Nat)(v:Value)(l:List Rec):Prop:=ah w B 42 3 (iH B) v l
def oO(w:World)(B:Option Nat)(v:Value)(l:List Svc):Prop:=ah w B 101 2 (jG B) v l
def oP(w:World)(B:Option Nat)(v:Value)(l:List Sag):Prop:=ah w B 105 3 (jH B) v l
def ji:List TypeId:=[42,176,44,101,180,105,184]
def bT:ByteArray:=⟨#[109,111,100,117,108,101]⟩
def fE:ByteArray:=⟨#[114,101,99,111,114,100]⟩
def fF:ByteArray:=⟨#[99,104,111,105,99,101]⟩
def dW:ByteArray:=⟨#[115,101,114,118,105,99,101]⟩
def iR:ByteArray:=⟨#[115,97,103,97]⟩
def decls:List ByteArray:=[fE,fF,dW,iR]
def record(c:Bool)(s:St):Rec × St:=(⟨(name s).1,c,(within field (name s).2).1⟩,(within field (name s).2).2)
def service(s:St):Svc × St:=(⟨(name s).1,(within method (name s).2).1⟩,(within method (name s).2).2)
def saga(s:St):Sag × St:=(⟨(name s).1,(arg (name s).2).1,(within step (arg (name s).2).2).1⟩,(within step (arg (name s).2).2).2)
def aF:Nat->St->Sch->Sch × St
 |0,s,x=>(x,s)
 |f+1,s,x=>if s.2=true∨s.1=[]then(x,s)else
  if(words decls s).1.toList=[114,101,99,111,114,100]then aF f (record false (words decls s).2).2 { x with records:=x.records++[(record false (words decls s).2).1] }else
  if(words decls s).1.toList=[99,104,111,105,99,101]then aF f (record true (words decls s).2).2 { x with records:=x.records++[(record true (words decls s).2).1] }else
  if(words decls s).1.toList=[115,101,114,118,105,99,101]then aF f (service (words decls s).2).2 { x with services:=x.services++[(service (words decls s).2).1] }else
  if(words decls s).1.toList=[115,97,103,97]then aF f (saga (words decls s).2).2 { x with sagas:=x.sagas++[(saga (words decls s).2).1] }else
  aF f (words decls s).2 x
def schema(s:St):Sch × St :=
 let a:=name (want s bT)
 let s1:=want a.2 aK
 aF (s1.1.length+2) s1 ⟨a.1,[],[],[]⟩
theorem wG(c:Bool)(s:St):(record c s).2.1.length<=s.1.length:=xM (jA qo _) (fB s)
theorem Eo(s:St):(service s).2.1.length<=s.1.length:=xM (jA tX _) (fB s)
theorem Nj(s:St):(saga s).2.1.length<=s.1.length:=xM (jA yj _) (xM (BN _) (fB s))
theorem wO(ws:List ByteArray)(s:St)(h:s.2=false):((words ws s).2.2=false/\(words ws s).2.1.length+1=s.1.length)∨((words ws s).2.2=true/\(words ws s).1=⟨#[]⟩):=by
 obtain⟨l,bad⟩:=s;simp only at h;subst h;cases l with
 |nil=>exact .inr ⟨rfl,rfl⟩
 |cons t r =>
  unfold words one;by_cases hc:t.kind=1/\among ws t=true
  ·simp only[if_pos hc];simp
  ·simp only[if_neg hc];simp
theorem iH.kp{base b:Nat}{T:List TypeId}{w w':World}(h:Kp base T w w')(hb:base<=b)(h1:176∈T)(h2:44∈T)(cs:List Value)(x:Rec)(he:iH (some b) w cs x):iH (some b) w' cs x:=by
 obtain⟨u,e,hs⟩:=he;exact⟨u,e,ah.kp hs h hb h1 (dR.kp h hb h2)⟩
theorem jG.kp{base b:Nat}{T:List TypeId}{w w':World}(h:Kp base T w w')(hb:base<=b)(h1:180∈T)(cs:List Value)(x:Svc)(he:jG (some b) w cs x):jG (some b) w' cs x:=by
 obtain⟨u,e,hs⟩:=he;exact⟨u,e,ah.kp hs h hb h1 dh.kp⟩
theorem jH.kp{base b:Nat}{T:List TypeId}{w w':World}(h:Kp base T w w')(hb:base<=b)(h1:184∈T)(cs:List Value)(x:Sag)(he:jH (some b) w cs x):jH (some b) w' cs x:=by
 obtain⟨u,e,hs⟩:=he;exact⟨u,e,ah.kp hs h hb h1 eu.kp⟩
theorem oQ.kp{base b:Nat}{T:List TypeId}{w w':World}{v:Value}{l:List Rec}(hr:oQ w (some b) v l)(h:Kp base T w w')(hb:base<=b)(h0:42∈T)(h1:176∈T)(h2:44∈T):oQ w' (some b) v l:=ah.kp hr h hb h0 (iH.kp h hb h1 h2)
theorem oO.kp{base b:Nat}{T:List TypeId}{w w':World}{v:Value}{l:List Svc}(hr:oO w (some b) v l)(h:Kp base T w w')(hb:base<=b)(h0:101∈T)(h1:180∈T):oO w' (some b) v l:=ah.kp hr h hb h0 (jG.kp h hb h1)
theorem oP.kp{base b:Nat}{T:List TypeId}{w w':World}{v:Value}{l:List Sag}(hr:oP w (some b) v l)(h:Kp base T w w')(hb:base<=b)(h0:105∈T)(h1:184∈T):oP w' (some b) v l:=ah.kp hr h hb h0 (jH.kp h hb h1)
theorem zB:(Tryz.prog.info? 42).map (λi=>(i.zero,i.size,i.bytes))=some (some (.agg #[.string ByteArray.empty,.bool false,.slice none 0 0]),3,48):=by kernel_rfl
theorem JG:(Tryz.prog.info? 101).map (λi=>(i.zero,i.size,i.bytes))=some (some (.agg #[.string ByteArray.empty,.slice none 0 0]),2,40):=by kernel_rfl
theorem JH:(Tryz.prog.info? 105).map (λi=>(i.zero,i.size,i.bytes))=some (some (.agg #[.string ByteArray.empty,.string ByteArray.empty,.slice none 0 0]),3,56):=by kernel_rfl
def jQ(w:World)(g:Nat)(base:Nat)(x:Sch):Prop:=∃ A1 n1 c1 A2 n2 c2 A3 n3 c3,Bk w g 28 #[.string x.name,.slice A1 n1 c1,.slice A2 n2 c2,.slice A3 n3 c3]/\oQ w (some base) (.slice A1 n1 c1) x.records/\oO w (some base) (.slice A2 n2 c2) x.services/\oP w (some base) (.slice A3 n3 c3) x.sagas
theorem jQ.kp{w w':World}{g base:Nat}{x:Sch}(h:jQ w g base x)(hb:Bk w' g 28=Bk w g 28)(hk:Kp base ji w w'):jQ w' g base x:=by
 obtain⟨A1,n1,c1,A2,n2,c2,A3,n3,c3,k,r1,r2,r3⟩:=h;exact⟨A1,n1,c1,A2,n2,c2,A3,n3,c3,by rw[hb];exact k,r1.kp hk (xB _) (by decide) (by decide) (by decide),r2.kp hk (xB _) (by decide) (by decide),r3.kp hk (xB _) (by decide) (by decide)⟩
theorem jQ.call{w w':World}{b g base:Nat}{x:Sch}(h:jQ w g base x)(hg:w.grownBy w' (some b))(h1:b<g)(h2:b<base):jQ w' g base x:=by
 have hk:Kp base ji w w':=Kp.grown hg h2;obtain⟨A1,n1,c1,A2,n2,c2,A3,n3,c3,k,r1,r2,r3⟩:=h;exact⟨A1,n1,c1,A2,n2,c2,A3,n3,c3,k.call hg h1,r1.kp hk (xB _) (by decide) (by decide) (by decide),r2.kp hk (xB _) (by decide) (by decide),r3.kp hk (xB _) (by decide) (by decide)⟩
theorem jQ.below{w w':World}{g base:Nat}{x:Sch}(h:jQ w g base x)(hb:Below w.heap.size w w'):jQ w' g base x:=by
 have hk:Kp base ji w w':=Kp.below hb;obtain⟨A1,n1,c1,A2,n2,c2,A3,n3,c3,k,r1,r2,r3⟩:=h;exact⟨A1,n1,c1,A2,n2,c2,A3,n3,c3,k.below hb k.lt,r1.kp hk (xB _) (by decide) (by decide) (by decide),r2.kp hk (xB _) (by decide) (by decide),r3.kp hk (xB _) (by decide) (by decide)⟩
theorem jQ.rec{w:World}{g base:Nat}{x:Sch}{y:Rec}{A1 A2 A3 A7:Option Addr}{n1 c1 n2 c2 n3 c3 n7 c7:Nat}(hq:Bk w g 28 #[.string x.name,.slice A1 n1 c1,.slice A2 n2 c2,.slice A3 n3 c3])(h1:oQ w (some base) (.slice A7 n7 c7) (x.records++[y]))(h2:oO w (some base) (.slice A2 n2 c2) x.services)(h3:oP w (some base) (.slice A3 n3 c3) x.sagas) :
  jQ (w.setCell ⟨g,1,none⟩ (.slice A7 n7 c7)) g base { x with records:=x.records++[y] }:=by
 have hk:Kp base ji w (w.setCell ⟨g,1,none⟩ (.slice A7 n7 c7)):=(Only.set hq 1 _).kp base (by decide);exact⟨A7,n7,c7,A2,n2,c2,A3,n3,c3,hq.au 1 _,h1.kp hk (xB _) (by decide) (by decide) (by decide),h2.kp hk (xB _) (by decide) (by decide),h3.kp hk (xB _) (by decide) (by decide)⟩
theorem jQ.svc{w:World}{g base:Nat}{x:Sch}{y:Svc}{A1 A2 A3 A7:Option Addr}{n1 c1 n2 c2 n3 c3 n7 c7:Nat}(hq:Bk w g 28 #[.string x.name,.slice A1 n1 c1,.slice A2 n2 c2,.slice A3 n3 c3])(h1:oQ w (some base) (.slice A1 n1 c1) x.records)(h2:oO w (some base) (.slice A7 n7 c7) (x.services++[y]))(h3:oP w (some base) (.slice A3 n3 c3) x.sagas) :
  jQ (w.setCell ⟨g,2,none⟩ (.slice A7 n7 c7)) g base { x with services:=x.services++[y] }:=by
 have hk:Kp base ji w (w.setCell ⟨g,2,none⟩ (.slice A7 n7 c7)):=(Only.set hq 2 _).kp base (by decide);exact⟨A1,n1,c1,A7,n7,c7,A3,n3,c3,hq.au 2 _,h1.kp hk (xB _) (by decide) (by decide) (by decide),h2.kp hk (xB _) (by decide) (by decide),h3.kp hk (xB _) (by decide) (by decide)⟩
theorem jQ.sag{w:World}{g base:Nat}{x:Sch}{y:Sag}{A1 A2 A3 A7:Option Addr}{n1 c1 n2 c2 n3 c3 n7 c7:Nat}(hq:Bk w g 28 #[.string x.name,.slice A1 n1 c1,.slice A2 n2 c2,.slice A3 n3 c3])(h1:oQ w (some base) (.slice A1 n1 c1) x.records)(h2:oO w (some base) (.slice A2 n2 c2) x.services)(h3:oP w (some base) (.slice A7 n7 c7) (x.sagas++[y])) :
  jQ (w.setCell ⟨g,3,none⟩ (.slice A7 n7 c7)) g base { x with sagas:=x.sagas++[y] }:=by
 have hk:Kp base ji w (w.setCell ⟨g,3,none⟩ (.slice A7 n7 c7)):=(Only.set hq 3 _).kp base (by decide);exact⟨A1,n1,c1,A2,n2,c2,A7,n7,c7,hq.au 3 _,h1.kp hk (xB _) (by decide) (by decide) (by decide),h2.kp hk (xB _) (by decide) (by decide),h3.kp hk (xB _) (by decide) (by decide)⟩
theorem PW.row{w0 w w':World}{b:Nat}{s:St}(h:PW w0 w b s){e:TypeId}(hb:Below w0.heap.size w w')(ho:Only e w w')(hw:0<w0.heap.size)(h1:171≠e)(h2:169≠e):PW w0 w' b s :=
 ⟨h.ps.only ho h1 h2,⟨Nat.lt_of_lt_of_le h.kw.1 hb.size,λj hj=>(hb.cell (p:=⟨0,0+j,none⟩) hw).trans (h.kw.2 j hj)⟩,yM h.gb hb⟩
theorem dY:(⟨#[]⟩:ByteArray).toList=[]:=by unfold ByteArray.toList ByteArray.toList.loop;rfl
structure Wj(w:World)(b:Nat)(R:Sch × St)(n:Nat)(wr:World)(s:St)(x:Sch):Prop where
 fu:s.2=false->s.1.length+2<=n
 fo:1<=n
 ln:x.records.length+x.services.length+x.sagas.length+s.1.length<=1000000
 pw:PW w wr b s
 blk:jQ wr w.heap.size w.heap.size x
 out:aF n s x=R
end Id
end
namespace Prn
open Id
def Ij:ByteArray:=⟨#[98,111,111,108]⟩
def wText:ByteArray:=⟨#[116,101,120,116]⟩
def bK(x:Srt):ByteArray:=if x.kind=1 then dB else if x.kind=2 then Ij else if x.kind=3 then eX else if x.kind=4 then wText else if x.kind=5 then iD else if x.kind=6 then jM else x.name
def wQ(n:Int):ByteArray:=⟨(Lib.itoa n).toArray⟩
def iP(f:Fld):List ByteArray:=f.name::gu::(f.type.map bK++[aK])
def iZ(r:Rec):List ByteArray:=(if r.choice then fF else fE)::r.name::aN::(r.fields.flatMap iP++[aJ])
def kM(m:Mth):List ByteArray:=if m.undo.toList.isEmpty then[]else[bU,m.undo]
def gZ(m:Mth):List ByteArray:=m.effect::m.name::eH::m.arg::dK::dA::bK ⟨m.result,⟨#[]⟩⟩::(kM m++[aK])
def jO(v:Svc):List ByteArray:=dW::v.name::aN::(v.methods.flatMap gZ++[aJ])
def mZ(p:Stp):List ByteArray:=[wDo,p.service,jU,p.method,wAt,wQ p.at_,aK]
def kV(g:Sag):List ByteArray:=iR::g.name::eH::g.arg::dK::aN::(g.steps.flatMap mZ++[aJ])
def iW(x:Sch):List ByteArray:=bT::x.name::aK::(x.records.flatMap iZ++(x.services.flatMap jO++x.sagas.flatMap kV))
def jl:List ByteArray->List UInt8
 |[]=>[]
 |w::l=>w.data.toList++l.flatMap λu=>32::u.data.toList
def jn(l:List ByteArray):ByteArray:=⟨(jl l).toArray⟩
theorem Xp(l:List ByteArray):(jn l).data.toList=jl l:=by simp[jn]
end Prn
section
open Go.RowKit
def KT(w:World)(cs:List Value)(x:ByteArray):Prop:=cs=[.string x]
def Ip(w:World)(B:Option Nat)(v:Value)(l:List ByteArray):Prop:=ah w B 9 1 KT v l
theorem Sv:(Tryz.prog.info? 9).map (λi=>(i.zero,i.size,i.bytes))=some (some (.string ByteArray.empty),1,16):=by kernel_rfl
theorem Ah{P:Program}{ops:Array Oper}{rest:List Oper}{o:Oper}{a:Act}{Q:Exit->Act->World->Prop}{w:World}(hgd:o.guard=none)(s y:Operand)(t:TypeId)
  (ho:o.op=.call { callee:=.builtin .append,args:=#[s,y],argTypes:=#[t,t] })
  (base:Nat) (e:TypeId) (z:Value) (size bytes:Nat) (ht:P.underlying t=some (.slice e)) (hi:(P.info? e).map (λi=>(i.zero,i.size,i.bytes))=some (some z,size,bytes)) (hzs:z.cells.size=size) (hpos:0<size)
  {α:Type} (E:World->List Value->α->Prop) (v:Value) (l:List α) (hs:a.eval s=v) (hown:ah w (some base) e size E v l)
  (A:Option Addr) (m c:Nat) (l2:List α) (hx:a.eval y=.slice A m c) (hrow:ah w (some base) e size E (.slice A m c) l2)
  (hone:∀ cs x,E w cs x->∀ u∈cs,u.oneCell'=true) (hE:∀ w',Only e w w'->∀ cs x,E w cs x->E w' cs x)
  (h63:l.length+l2.length<=maxLen) (hbytes:(l.length+l2.length) * bytes<=140737488355328) (hbase:base<=w.heap.size)
  (h:∀ v' w',ah w' (some base) e size E v' (l++l2)->Below base w w'->Only e w w'->w.grownBy w' v.ownBlock->wpList P ops Q rest (a.put o.dst v') w') :
  wpList P ops Q (o::rest) a w:=by
 obtain⟨css,k1,k2,k3,k4⟩:=hown;obtain⟨ds,j1,j2,j3,j4⟩:=hrow;have hrow':w.ownsRow base e size v l.length css.flatten:=k3;obtain⟨A',c',e',g1,g2,g3,g4⟩:=j3.slice;injection e' with e1 e2 e3
 subst e1 e2 e3;refine oU (by simp[Region.wanted,hgd]) s y t ho base e z size bytes ht hi hzs hpos v l.length css.flatten hs hrow' A l2.length c ds.flatten hx g3 (by rw[kD j2,j1]) (λad had j u hu=>?_) (λu hu=>?_) h63 hbytes hbase ?_
 ·have hj:j<ds.flatten.length:=(List.getElem?_eq_some_iff.1 hu).1
  obtain⟨g,off,e4,hc⟩:=g4 (by omega);rw[had]at e4;injection e4 with e4
  subst e4;have ha:(⟨g,off,none⟩:Addr).add j=⟨g,off+j,none⟩:=by simp[Addr.add]
  rw[ha];exact hc j u hu
 ·obtain⟨cs,hcs,hu'⟩:=List.mem_flatten.1 hu
  obtain⟨i,hi',rfl⟩:=List.getElem_of_mem hcs;exact hone _ _ (j4 i hi' (by omega)) u hu'
 ·intro v' w' hr' hg' hb'
  have ho':=Only.row hg' hrow';refine h v' w' ⟨css++ds,by simp[k1,j1],λcs hc=>?_,?_,λi ha hb=>?_⟩ hb' ho' hg'
  ·rcases List.mem_append.1 hc with h|h
   ·exact k2 cs h
   ·exact j2 cs h
  ·show w'.ownsRow base e size v' (l++l2).length (css++ds).flatten
   rw[xI,List.flatten_append];exact hr'
  ·rcases Nat.lt_or_ge i css.length with hi|hi
   ·rw[List.getElem_append_left hi,List.getElem_append_left (by omega)]
    exact hE _ ho' _ _ (k4 i hi (by omega))
   ·rw[List.getElem_append_right hi,List.getElem_append_right (by omega)]
    have hd:i - css.length<ds.length:=by simp at ha;omega
    have e5:l2[i - l.length]'(by simp at hb;omega)=l2[i - css.length]'(by omega):=by congr 1;omega
    rw[e5];exact hE _ ho' _ _ (j4 _ hd (by omega))
end
