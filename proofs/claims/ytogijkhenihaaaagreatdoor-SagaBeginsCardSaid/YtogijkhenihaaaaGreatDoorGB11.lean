import Derived.Test.YtogijkhenihaaaaGreatDoorGB06
import Derived.Test.YtogijkhenihaaaaGreatDoorGB10
set_option linter.all false
set_option maxRecDepth 100000
set_option maxHeartbeats 0
namespace Go.Proofs.YtogijkhenihaaaaGreatDoor
open Lib (hid)
open Go.RowKit
namespace Id
def At(l:List Tk.Tok)(i:Int)(s:St):Prop:=∃ k:Nat,k<=l.length/\s.1=l.drop k/\i=if s.2 then -1 - (k:Int)else(k:Int)
def word(s:St):ByteArray:=if s.2 then⟨#[]⟩else match s.1 with
 |[]=>⟨#[]⟩
 |t::_=>if t.kind=2 then⟨#[]⟩else t.text
theorem At.cases{l:List Tk.Tok}{i:Int}{s:St}(h:At l i s):(s.2=true/\i<0/\-1 - (l.length:Int)<=i)∨(s=([],false)/\i=l.length)∨(∃(k:Nat)(hk:k<l.length),s=(l[k]::l.drop (k+1),false)/\i=k):=by
 obtain⟨k,hk,e,hi⟩:=h;obtain⟨r,bad⟩:=s;simp only at e hi;subst e;cases bad
 ·simp only[Bool.false_eq_true,if_false]at hi
  rcases Nat.lt_or_ge k l.length with hlt|hge
  ·exact .inr (.inr ⟨k,hlt,by rw[xQ hlt],hi⟩)
  ·obtain rfl:k=l.length:=by omega
   exact .inr (.inl ⟨by rw[List.drop_length],hi⟩)
 ·simp only[if_true]at hi
  exact .inl ⟨rfl,by omega,by omega⟩
theorem At.zero(l:List Tk.Tok):At l 0 (l,false):=⟨0,Nat.zero_le _,rfl,rfl⟩
theorem At.fault{l:List Tk.Tok}{k:Int}{r:List Tk.Tok}(h:At l k (r,false)):At l (-1 - k) (r,true):=by
 obtain⟨j,hj,e,hi⟩:=h;exact⟨j,hj,e,by simp at hi ⊢;omega⟩
theorem At.next{l:List Tk.Tok}{k:Int}{t:Tk.Tok}{r:List Tk.Tok}(h:At l k (t::r,false)):At l (k+1) (r,false):=by
 obtain⟨j,hj,e,hi⟩:=h;simp only at e;refine⟨j+1,?_,?_,by simp at hi ⊢;omega⟩
 ·rcases Nat.lt_or_ge j l.length with h1|h1
  ·exact h1
  ·rw[xP h1]at e;cases e
 ·have:(l.drop j).tail=r:=by rw[<-e];rfl
  rw[<-this,List.tail_drop]
theorem At.bad{l:List Tk.Tok}{i:Int}{s:St}(h:At l i s)(hb:s.2=true):i<0:=by
 obtain⟨k,hk,e,hi⟩:=h;rw[hb,if_pos rfl]at hi;omega
theorem At.good{l:List Tk.Tok}{i:Int}{s:St}(h:At l i s)(hb:s.2=false):0<=i/\i<=l.length:=by
 obtain⟨k,hk,e,hi⟩:=h;rw[hb]at hi;simp at hi;omega
theorem uU{s:St}{x:ByteArray}(hx:x.toList≠[]):is s x=((word s).toList==x.toList):=by
 obtain⟨l,bad⟩:=s;have e0:(⟨#[]⟩:ByteArray).toList=[]:=iG;have e1:(([]:List UInt8)==x.toList)=false:=by rw[xG];exact Ne.symm hx
 cases bad
 ·cases l with
  |nil=>unfold is word;simp[e0,e1]
  |cons t r =>
   unfold is word;by_cases hk:t.kind=2
   ·simp[hk,e0,e1]
   ·simp[hk]
 ·unfold is word;simp[e0,e1]
end Id
theorem vk(A:Option Addr)(l:List Tk.Tok)(c:Nat)(hl:l.length<=1000000)(i:Int)(s:Id.St)(ha:Id.At l i s)(w:World)(hr:Tk.qy w A l) :
  Calls Tryz.prog 210 #[.slice A l.length c,.int .i64 i] w λe w'=>e=.returned (.string (Id.word s))/\w'=w:=by
 rcases ha.cases with⟨hb,hi,hi2⟩|⟨rfl,rfl⟩|⟨k,hk,rfl,rfl⟩
 ·have HE:Hid (Id.word s=⟨#[]⟩):=hid (by unfold Id.word;rw[hb];rfl)
  have hi3:decide (i<0)=true:=by simpa using hi
  clear hb;go_enter Tryz.func210,Tryz.ntmps210;go_wp2_with fail;go_ret;exact⟨(by first|(rw[HE.out];done)|(rw[HE.out];rfl)),rfl⟩
 ·obtain⟨n,hn⟩:∃ n,n=l.length:=⟨_,rfl⟩
  rw[<-hn];clear hr ha hn hl;go_enter Tryz.func210,Tryz.ntmps210;go_wp2_with fail;go_ret;exact⟨rfl,rfl⟩
 ·obtain⟨g,off,rfl,hcs⟩:=hr (by omega)
  obtain⟨t0,t1,t2,t3⟩:=hcs k hk;obtain⟨t,ht⟩:∃ t,t=l[k]:=⟨_,rfl⟩;rw[<-ht]at t0 t1 t2 t3 ⊢;obtain⟨n,hn⟩:∃ n,n=l.length:=⟨_,rfl⟩;rw[<-hn]at hk ⊢;have i1:(0:Int)<=(k:Int):=by omega
  have i2:(k:Int)<(n:Int):=by omega
  have i3:¬(k:Int)<0:=by omega
  clear hcs hr ha hn ht hl;obtain⟨tk,tt,tn,ta⟩:=t;simp only at t0 t1 t2 t3;by_cases hk2:tk=2
  ·have HE:Hid (Id.word (⟨tk,tt,tn,ta⟩::l.drop (k+1),false)=⟨#[]⟩):=hid (by simp[Id.word,hk2])
   subst hk2;go_enter Tryz.func210,Tryz.ntmps210;go_wp2_with fail;go_ret;exact⟨(by first|(rw[HE.out];done)|(rw[HE.out];rfl)),rfl⟩
  ·have HE:Hid (Id.word (⟨tk,tt,tn,ta⟩::l.drop (k+1),false)=tt):=hid (by simp[Id.word,hk2])
   have tk2:((tk:Int)==2)=false:=by rw[xG];omega
   clear hk2;go_enter Tryz.func210,Tryz.ntmps210;go_wp2_with fail;go_ret;exact⟨(by first|(rw[HE.out];done)|(rw[HE.out];rfl)),rfl⟩
theorem LC(A:Option Addr)(l:List Tk.Tok)(c:Nat)(hl:l.length<=1000000)(i:Int)(s:Id.St)(ha:Id.At l i s)(x:ByteArray)(hx:x.toList≠[])(w:World)(hr:Tk.qy w A l) :
  Calls Tryz.prog 208 #[.slice A l.length c,.int .i64 i,.string x] w λe w'=>∃ i',e=.returned (.int .i64 i')/\Id.At l i' (Id.want s x)/\w'=w:=by
 have HC:=hid (vk A l c hl i s ha w hr);have HA:=hid ha;have hw:=Id.uU (s:=s) hx;by_cases hb:s.2=true
 ·have hi:=ha.bad hb
  have HE:Hid (Id.want s x=s):=hid (by obtain⟨r,b⟩:=s;simp only at hb;subst hb;rfl);have hi3:decide (i<0)=true:=by simpa using hi
  clear ha hr hl hw;generalize l.length=n at *;go_enter Tryz.func208,Tryz.ntmps208;go_wp2_with fail;go_ret;exact⟨_,rfl,by rw[HE.out];exact HA.out,rfl⟩
 ·obtain⟨r,bad⟩:=s
  simp only[Bool.not_eq_true]at hb;subst hb;obtain⟨hi1,hi2⟩:=ha.good rfl;have hi3:decide (i<0)=false:=by simp;omega
  have hi4:¬i<0:=by omega
  have hi5:i<=1000000:=by omega
  obtain⟨n,hn⟩:∃ n,n=l.length:=⟨_,rfl⟩;rw[<-hn]at HC ⊢;obtain⟨q,hq⟩:∃ q,Id.is (r,false) x=q:=⟨_,rfl⟩;have HQ:=hid hq;have hw2:((Id.word (r,false)).toList==x.toList)=q:=by rw[<-hw,hq]
  clear ha hr hl hw hn hi2 hq;generalize Id.word (r,false)=y at *;cases q
  ·have HE:Hid (Id.want (r,false) x=(r,true)):=hid (by unfold Id.want;rw[HQ.out];rfl)
   go_enter Tryz.func208,Tryz.ntmps208;go_wp2_with fail;refine(HC.out).mono ?_;rintro e w'⟨rfl,hw⟩;obtain rfl:=hw.symm;go_wp2_with fail;go_ret;exact⟨_,rfl,by rw[HE.out];exact HA.out.fault,rfl⟩
  ·obtain⟨t,r',hr'⟩:=Id.pI HQ.out
   injection hr' with hr' _
   subst hr';have HE:Hid (Id.want (t::r',false) x=(r',false)):=hid (by unfold Id.want;rw[HQ.out];rfl);go_enter Tryz.func208,Tryz.ntmps208;go_wp2_with fail;refine(HC.out).mono ?_;rintro e w'⟨rfl,hw⟩;obtain rfl:=hw.symm;go_wp2_with fail;go_ret;exact⟨_,rfl,by rw[HE.out];exact HA.out.next,rfl⟩
theorem yS(A:Option Addr)(l:List Tk.Tok)(c:Nat)(hl:l.length<=1000000)(i:Int)(s:Id.St)(ha:Id.At l i s)(w:World)(hr:Tk.qy w A l) :
  Calls Tryz.prog 209 #[.slice A l.length c,.int .i64 i] w λe w'=>∃ i',e=.returned (.tuple #[.string (Id.name s).1,.int .i64 i'])/\Id.At l i' (Id.name s).2/\w'=w:=by
 have HA:=hid ha;rcases ha.cases with⟨hb,hi,hi2⟩|⟨rfl,rfl⟩|⟨k,hk,rfl,rfl⟩
 ·have HE:Hid (Id.name s=(⟨#[]⟩,s)):=hid (by obtain⟨r,b⟩:=s;simp only at hb;subst hb;cases r<;>rfl)
  have hi3:decide (i<0)=true:=by simpa using hi
  clear hb hr ha hl;generalize l.length=n at *;go_enter Tryz.func209,Tryz.ntmps209;go_wp2_with fail;go_ret2;exact⟨_,(by first|(rw[HE.out];done)|(rw[HE.out];rfl)),by rw[HE.out];exact HA.out,rfl⟩
 ·obtain⟨n,hn⟩:∃ n,n=l.length:=⟨_,rfl⟩
  have HF:=hid HA.out.fault;rw[<-hn]at HF ⊢;have HN:=hid hn;have h1:n<=1000000:=by omega
  clear hr ha hn hl;go_enter Tryz.func209,Tryz.ntmps209;go_wp2_with fail;go_ret2;exact⟨_,rfl,HF.out,rfl⟩
 ·obtain⟨g,off,rfl,hcs⟩:=hr (by omega)
  obtain⟨t0,t1,t2,t3⟩:=hcs k hk;obtain⟨t,ht⟩:∃ t,t=l[k]:=⟨_,rfl⟩;rw[<-ht]at t0 t1 t2 t3 HA ⊢;obtain⟨n,hn⟩:∃ n,n=l.length:=⟨_,rfl⟩;rw[<-hn]at hk ⊢;have i1:(0:Int)<=(k:Int):=by omega
  have i2:(k:Int)<(n:Int):=by omega
  have i3:¬(k:Int)<0:=by omega
  have i4:k<=1000000:=by omega
  clear hcs hr ha hn ht hl;obtain⟨tk,tt,tn,ta⟩:=t;simp only at t0 t1 t2 t3;have HX:Hid (Id.name (⟨tk,tt,tn,ta⟩::l.drop (k+1),false)=if tk=1/\Tk.isName tt=true then(tt,(l.drop (k+1),false))else(⟨#[]⟩,(⟨tk,tt,tn,ta⟩::l.drop (k+1),true))):=hid (by
   unfold Id.name Id.one;simp only;split<;>rfl)
  by_cases hk1:tk=1
  case neg =>
   have HE:Hid (Id.name (⟨tk,tt,tn,ta⟩::l.drop (k+1),false)=(⟨#[]⟩,(⟨tk,tt,tn,ta⟩::l.drop (k+1),true))):=hid (by rw[HX.out,if_neg (λh=>hk1 h.1)]);have tk2:((tk:Int) != 1)=true:=by rw[bne_iff_ne];omega
   clear hk1;go_enter Tryz.func209,Tryz.ntmps209;go_wp2_with fail;go_ret2;exact⟨_,(by first|(rw[HE.out];done)|(rw[HE.out];rfl)),by rw[HE.out];exact HA.out.fault,rfl⟩
  subst hk1;obtain⟨q,hq⟩:∃ q,Tk.isName tt=q:=⟨_,rfl⟩;have HQ:=hid hq;clear hq;go_enter Tryz.func209,Tryz.ntmps209;go_wp2_with fail;refine(CS tt _).mono ?_;rintro e w'⟨rfl,hw⟩;obtain rfl:=hw.symm;rw[HQ.out];cases q
  ·have HE:Hid (Id.name (⟨1,tt,tn,ta⟩::l.drop (k+1),false)=(⟨#[]⟩,(⟨1,tt,tn,ta⟩::l.drop (k+1),true))):=hid (by rw[HX.out,HQ.out];simp)
   go_wp2_with fail;go_ret2;exact⟨_,(by first|(rw[HE.out];done)|(rw[HE.out];rfl)),by rw[HE.out];exact HA.out.fault,rfl⟩
  ·have HE:Hid (Id.name (⟨1,tt,tn,ta⟩::l.drop (k+1),false)=(tt,(l.drop (k+1),false))):=hid (by rw[HX.out,HQ.out];simp)
   go_wp2_with fail;go_ret2;exact⟨_,(by first|(rw[HE.out];done)|(rw[HE.out];rfl)),by rw[HE.out];exact HA.out.next,rfl⟩
namespace Id
def uo(l:List Tk.Tok):Prop:=∀ t∈l,t.kind=1∨t.kind=2∨(t.kind=3/\t.text.size<=2)
theorem vU{s:ByteArray}(h:s.size<=2):endW s=0:=by
 have hl:s.toList.length<=2:=by rw[ByteArray.toList_eq];simpa using h
 have hne:∀ x:List UInt8,3<=x.length->¬s.toList=x:=λx hx e=>by rw[e]at hl;omega
 unfold endW;rw[if_neg (hne _ (by decide)),if_neg (hne _ (by decide)),if_neg (hne _ (by decide)),if_neg (hne _ (by decide))]
theorem Nc{s:St}(hb:s.2=false)(hw:∀ t r,s.1=t::r->t.kind=1∨t.kind=2∨(t.kind=3/\t.text.size<=2)):ends s=!(endW (word s)==0)/\(ends s=true->head s=word s/\∃ t r,s.1=t::r):=by
 obtain⟨l,bad⟩:=s;simp only at hb hw;subst hb;have e0:endW ⟨#[]⟩=0:=vU (by decide);cases l with
 |nil=>unfold ends word;simp[e0]
 |cons t r =>
  rcases hw t r rfl with h|h|⟨h,h2⟩
  ·unfold ends word head;simp[h]
  ·unfold ends word head;simp[h,e0]
  ·have:=vU h2
   unfold ends word head;simp[h,this]
theorem At.well{l:List Tk.Tok}{i:Int}{s:St}(h:At l i s)(hw:uo l):∀ t r,s.1=t::r->t.kind=1∨t.kind=2∨(t.kind=3/\t.text.size<=2):=by
 intro t r e;obtain⟨k,hk,e2,_⟩:=h;exact hw t (List.mem_of_mem_drop (by rw[<-e2,e];simp))
structure Sr(w:World)(l:List Tk.Tok)(R:List Srt × St)(n:Nat)(i:Int)(v:Value)(wr:World)(r:List Tk.Tok)(acc:List Srt):Prop where
 at_:At l i (r,false)
 fu:r.length+1<=n
 ln:acc.length+r.length<=1000000
 bel:Below w.heap.size w wr
 row:bG wr (some w.heap.size) v acc
 out:fA n (r,false) acc=R
theorem Hu:mY.toList=[108,105,115,116]:=by simp[mY,ByteArray.toList_mk]
theorem KT:oZ.toList=[111,112,116]:=by simp[oZ,ByteArray.toList_mk]
theorem P8{r:List Tk.Tok}(h:¬(word (r,false)).toList=[]):∃ t r',r=t::r':=by
 cases r with
 |nil=>exact absurd iG h
 |cons t r'=>exact⟨t,r',rfl⟩
end Id
theorem Ja(A:Option Addr)(l:List Tk.Tok)(c:Nat)(hl:l.length<=1000000)(hwl:Id.uo l)(i:Int)(s:Id.St)(ha:Id.At l i s)(w:World)(hr:Tk.qy w A l) :
  Calls Tryz.prog 242 #[.slice A l.length c,.int .i64 i] w λe w'=>∃ v i',e=.returned (.tuple #[v,.int .i64 i'])/\Id.At l i' (Id.sorts s).2/\Below w.heap.size w w'/\Id.bG w' (some w.heap.size) v (Id.sorts s).1:=by
 obtain⟨R,HR⟩:∃ R,Hid (Id.sorts s=R):=⟨_,hid rfl⟩;rw[HR.out];have HRD:=hid hr;have HL:=hid hl;obtain⟨r0,bad⟩:=s;cases bad
 case' true =>
  have HE:Hid (R=([],(r0,true))):=hid (by rw[<-HR.out];rfl);have hi:=ha.bad rfl;have hi3:decide (i<0)=true:=by simpa using hi
  have HA:=hid ha;clear ha hr hl;generalize hn:l.length=n at *;have HN:=hid hn;clear hn
 case true =>
  go_enter Tryz.func242,Tryz.ntmps242;go_wp2_with fail;go_ret2;exact⟨_,_,rfl,by rw[HE.out];exact HA.out,Below.refl _ _,by rw[HE.out];exact ah.nil _ _ _ _ _⟩
 have hg0:=ha.good rfl;have hi3:decide (i<0)=false:=by simp;omega
 have hi4:¬i<0:=by omega
 have hi5:(0:Int)<=i:=hg0.1;have hlr:r0.length<=l.length:=by
  obtain⟨k,hk,e,_⟩:=ha;simp only at e;rw[e];simp
 have HA0:=hid (show Id.Sr w l R (r0.length+1) i (.slice none 0 0) w r0 []from⟨ha,xB _,by simp;omega,Below.refl _ _,ah.nil _ _ _ _ _,HR.out⟩);obtain⟨n,hn⟩:∃ n,n=l.length:=⟨_,rfl⟩;rw[<-hn];have HN:=hid hn;clear ha hr hl hg0 hn hlr;go_enter Tryz.func242,Tryz.ntmps242;go_wp2_with fail;go_loopg [1,6] (r0.length+1) (λm vi vl wr=>∃(j:Int)(r:List Tk.Tok)(acc:List Id.Srt)(lv:Value),lv=vl/\vi=.int .i64 j/\Hid (Id.Sr w l R m j lv wr r acc))
 case atStart=>exact⟨i,r0,[],_,rfl,rfl,HA0⟩
 case round =>
  obtain⟨j,r,acc,lv,rfl,rfl,HA⟩:=hrel;obtain⟨f,rfl⟩:∃ f,gk=f+1:=⟨gk - 1,by have:=HA.out.fu;omega⟩;have hfu:=HA.out.fu;have hln:=HA.out.ln;have hbz:=HA.out.bel.size;obtain⟨hj1,hj2⟩:=HA.out.at_.good rfl;have hll:=HL.out;have hj3:j<=1000000:=by omega
  have HRW:=hid (HRD.out.below HA.out.bel);have HC:Hid (∀ W,Below wr.heap.size wr W->Calls Tryz.prog 210 #[.slice A n c,.int .i64 j] W λe w'=>e=.returned (.string (Id.word (r,false)))/\w'=W):=hid (λW hW=>by rw[HN.out];exact vk A l c HL.out j (r,false) HA.out.at_ W (HRW.out.below hW));have HIL:Hid (Id.is (r,false) Id.mY=((Id.word (r,false)).toList==[108,105,115,116])):=hid (by rw[Id.uU (by rw[Id.Hu];simp),Id.Hu]);have HIO:Hid (Id.is (r,false) Id.oZ=((Id.word (r,false)).toList==[111,112,116])):=hid (by rw[Id.uU (by rw[Id.KT];simp),Id.KT]);have HEN:=hid (Id.Nc (s:=(r,false)) rfl (HA.out.at_.well hwl));have HWN:=hid (@Id.P8 r);generalize hy:Id.word (r,false)=y at *;clear hy hj2 hll;by_cases su:y.toList=[108,105,115,116]
  ·have t1:(y.toList==[108,105,115,116])=true:=beq_iff_eq.2 su
   obtain⟨t,r',hr'⟩:=HWN.out (by rw[su];simp);subst hr';have HE:Hid (Id.fA f (r',false) (acc++[⟨5,⟨#[]⟩⟩])=R):=hid (by rw[<-HA.out.out];simp[Id.fA,HIL.out,t1]);simp only[xJ]at hfu hln;clear su;go_wp2_with fail;refine(HC.out _ (Below.refl _ _)).mono ?_;rintro e w'⟨rfl,hw⟩;obtain rfl:=hw.symm;go_wp2_with fail;refine(HC.out _ (Below.refl _ _)).mono ?_;rintro e w'⟨rfl,hw⟩;obtain rfl:=hw.symm;go_wp2_with(at_builtin;go_must(refine aI rfl _ _ _ rfl w.heap.size 44 _ 2 24 Tryz.underlying45 Id.mM rfl (by decide) Id.gU lv acc rfl (HA.out.row) [.int .u8 5,.string ⟨#[]⟩] rfl _ rfl (by simp) (by simp[Value.oneCell']) (by simp only[maxLen];omega) (by omega) (by omega) ?_);intro v' w4 hrow2 hb2 ho2;have fV:=hid (hrow2 ⟨5,⟨#[]⟩⟩ (λ_ _ h=>h) rfl);have HB2:=hid (HA.out.bel.trans hb2);clear hrow2 hb2 ho2);go_roundg f
   case rel=>exact⟨j+1,r',_,v',rfl,rfl,hid ⟨HA.out.at_.next,by omega,by simp;omega,HB2.out,fV.out,HE.out⟩⟩
   case measure=>omega
  by_cases AY:y.toList=[111,112,116]
  ·have t1:(y.toList==[111,112,116])=true:=beq_iff_eq.2 AY
   have t0:(y.toList==[108,105,115,116])=false:=beq_eq_false_iff_ne.2 su;obtain⟨t,r',hr'⟩:=HWN.out (by rw[AY];simp);subst hr';have HE:Hid (Id.fA f (r',false) (acc++[⟨6,⟨#[]⟩⟩])=R):=hid (by rw[<-HA.out.out];simp[Id.fA,HIL.out,t0,HIO.out,t1]);simp only[xJ]at hfu hln;clear AY su;go_wp2_with fail;refine(HC.out _ (Below.refl _ _)).mono ?_;rintro e w'⟨rfl,hw⟩;obtain rfl:=hw.symm;go_wp2_with fail;refine(HC.out _ (Below.refl _ _)).mono ?_;rintro e w'⟨rfl,hw⟩;obtain rfl:=hw.symm;go_wp2_with fail;refine(HC.out _ (Below.refl _ _)).mono ?_;rintro e w'⟨rfl,hw⟩;obtain rfl:=hw.symm;go_wp2_with(at_builtin;go_must(refine aI rfl _ _ _ rfl w.heap.size 44 _ 2 24 Tryz.underlying45 Id.mM rfl (by decide) Id.gU lv acc rfl (HA.out.row) [.int .u8 6,.string ⟨#[]⟩] rfl _ rfl (by simp) (by simp[Value.oneCell']) (by simp only[maxLen];omega) (by omega) (by omega) ?_);intro v' w4 hrow2 hb2 ho2;have fV:=hid (hrow2 ⟨6,⟨#[]⟩⟩ (λ_ _ h=>h) rfl);have HB2:=hid (HA.out.bel.trans hb2);clear hrow2 hb2 ho2);go_roundg f
   case rel=>exact⟨j+1,r',_,v',rfl,rfl,hid ⟨HA.out.at_.next,by omega,by simp;omega,HB2.out,fV.out,HE.out⟩⟩
   case measure=>omega
  have l1:(y.toList==[108,105,115,116])=false:=beq_eq_false_iff_ne.2 su;have l2:(y.toList==[111,112,116])=false:=beq_eq_false_iff_ne.2 AY;have HX:Hid (R=if Id.ends (r,false)then(acc++[⟨Id.endW (Id.head (r,false)),⟨#[]⟩⟩],((r,false):Id.St).1.tail,false)else(acc++[⟨7,(Id.name (r,false)).1⟩],(Id.name (r,false)).2)):=hid (by rw[<-HA.out.out];simp[Id.fA,HIL.out,l1,HIO.out,l2]);clear su AY;go_wp2_with fail;refine(HC.out _ (Below.refl _ _)).mono ?_;rintro e w'⟨rfl,hw⟩;obtain rfl:=hw.symm;go_wp2_with fail;refine(HC.out _ (Below.refl _ _)).mono ?_;rintro e w'⟨rfl,hw⟩;obtain rfl:=hw.symm;go_wp2_with fail;refine(HC.out _ (Below.refl _ _)).mono ?_;rintro e w'⟨rfl,hw⟩;obtain rfl:=hw.symm;by_cases f_none:y.toList=[110,111,110,101]
  ·have u1:(y.toList==[110,111,110,101])=true:=beq_iff_eq.2 f_none
   obtain⟨t,r',hr'⟩:=HWN.out (by rw[f_none];simp);subst hr';have hew:Id.endW y=1:=by unfold Id.endW;simp[f_none]
   have HE:Hid ((acc++[⟨1,⟨#[]⟩⟩],(r',false))=R):=hid (by
    have h1:=HEN.out.1;rw[hew]at h1;have h2:=(HEN.out.2 h1).1;rw[HX.out,h1,h2,hew];rfl)
   simp only[xJ]at hfu hln;clear hew HX f_none;go_wp2_with(at_builtin;go_must(refine aI rfl _ _ _ rfl w.heap.size 44 _ 2 24 Tryz.underlying45 Id.mM rfl (by decide) Id.gU lv acc rfl (HA.out.row) [.int .u8 1,.string ⟨#[]⟩] rfl _ rfl (by simp) (by simp[Value.oneCell']) (by simp only[maxLen];omega) (by omega) (by omega) ?_);intro v' w4 hrow2 hb2 ho2;have fV:=hid (hrow2 ⟨1,⟨#[]⟩⟩ (λ_ _ h=>h) rfl);have HB2:=hid (HA.out.bel.trans hb2);clear hrow2 hb2 ho2);go_ret2;exact⟨_,_,rfl,by rw[<-HE.out];exact HA.out.at_.next,HB2.out,by rw[<-HE.out];exact fV.out⟩
  by_cases mP:y.toList=[98,111,111,108]
  ·have u1:(y.toList==[98,111,111,108])=true:=beq_iff_eq.2 mP
   have t0:(y.toList==[110,111,110,101])=false:=beq_eq_false_iff_ne.2 f_none;obtain⟨t,r',hr'⟩:=HWN.out (by rw[mP];simp);subst hr';have hew:Id.endW y=2:=by unfold Id.endW;simp[mP]
   have HE:Hid ((acc++[⟨2,⟨#[]⟩⟩],(r',false))=R):=hid (by
    have h1:=HEN.out.1;rw[hew]at h1;have h2:=(HEN.out.2 h1).1;rw[HX.out,h1,h2,hew];rfl)
   simp only[xJ]at hfu hln;clear hew HX mP f_none;go_wp2_with(at_builtin;go_must(refine aI rfl _ _ _ rfl w.heap.size 44 _ 2 24 Tryz.underlying45 Id.mM rfl (by decide) Id.gU lv acc rfl (HA.out.row) [.int .u8 2,.string ⟨#[]⟩] rfl _ rfl (by simp) (by simp[Value.oneCell']) (by simp only[maxLen];omega) (by omega) (by omega) ?_);intro v' w4 hrow2 hb2 ho2;have fV:=hid (hrow2 ⟨2,⟨#[]⟩⟩ (λ_ _ h=>h) rfl);have HB2:=hid (HA.out.bel.trans hb2);clear hrow2 hb2 ho2);go_ret2;exact⟨_,_,rfl,by rw[<-HE.out];exact HA.out.at_.next,HB2.out,by rw[<-HE.out];exact fV.out⟩
  by_cases qW:y.toList=[105,110,116]
  ·have u1:(y.toList==[105,110,116])=true:=beq_iff_eq.2 qW
   have t0:(y.toList==[110,111,110,101])=false:=beq_eq_false_iff_ne.2 f_none;have t1:(y.toList==[98,111,111,108])=false:=beq_eq_false_iff_ne.2 mP;obtain⟨t,r',hr'⟩:=HWN.out (by rw[qW];simp);subst hr';have hew:Id.endW y=3:=by unfold Id.endW;simp[qW]
   have HE:Hid ((acc++[⟨3,⟨#[]⟩⟩],(r',false))=R):=hid (by
    have h1:=HEN.out.1;rw[hew]at h1;have h2:=(HEN.out.2 h1).1;rw[HX.out,h1,h2,hew];rfl)
   simp only[xJ]at hfu hln;clear hew HX qW f_none mP;go_wp2_with(at_builtin;go_must(refine aI rfl _ _ _ rfl w.heap.size 44 _ 2 24 Tryz.underlying45 Id.mM rfl (by decide) Id.gU lv acc rfl (HA.out.row) [.int .u8 3,.string ⟨#[]⟩] rfl _ rfl (by simp) (by simp[Value.oneCell']) (by simp only[maxLen];omega) (by omega) (by omega) ?_);intro v' w4 hrow2 hb2 ho2;have fV:=hid (hrow2 ⟨3,⟨#[]⟩⟩ (λ_ _ h=>h) rfl);have HB2:=hid (HA.out.bel.trans hb2);clear hrow2 hb2 ho2);go_ret2;exact⟨_,_,rfl,by rw[<-HE.out];exact HA.out.at_.next,HB2.out,by rw[<-HE.out];exact fV.out⟩
  by_cases rZ:y.toList=[116,101,120,116]
  ·have u1:(y.toList==[116,101,120,116])=true:=beq_iff_eq.2 rZ
   have t0:(y.toList==[110,111,110,101])=false:=beq_eq_false_iff_ne.2 f_none;have t1:(y.toList==[98,111,111,108])=false:=beq_eq_false_iff_ne.2 mP;have t2:(y.toList==[105,110,116])=false:=beq_eq_false_iff_ne.2 qW;obtain⟨t,r',hr'⟩:=HWN.out (by rw[rZ];simp);subst hr';have hew:Id.endW y=4:=by unfold Id.endW;simp[rZ]
   have HE:Hid ((acc++[⟨4,⟨#[]⟩⟩],(r',false))=R):=hid (by
    have h1:=HEN.out.1;rw[hew]at h1;have h2:=(HEN.out.2 h1).1;rw[HX.out,h1,h2,hew];rfl)
   simp only[xJ]at hfu hln;clear hew HX rZ f_none mP qW;go_wp2_with(at_builtin;go_must(refine aI rfl _ _ _ rfl w.heap.size 44 _ 2 24 Tryz.underlying45 Id.mM rfl (by decide) Id.gU lv acc rfl (HA.out.row) [.int .u8 4,.string ⟨#[]⟩] rfl _ rfl (by simp) (by simp[Value.oneCell']) (by simp only[maxLen];omega) (by omega) (by omega) ?_);intro v' w4 hrow2 hb2 ho2;have fV:=hid (hrow2 ⟨4,⟨#[]⟩⟩ (λ_ _ h=>h) rfl);have HB2:=hid (HA.out.bel.trans hb2);clear hrow2 hb2 ho2);go_ret2;exact⟨_,_,rfl,by rw[<-HE.out];exact HA.out.at_.next,HB2.out,by rw[<-HE.out];exact fV.out⟩
  have t0:(y.toList==[110,111,110,101])=false:=beq_eq_false_iff_ne.2 f_none;have t1:(y.toList==[98,111,111,108])=false:=beq_eq_false_iff_ne.2 mP;have t2:(y.toList==[105,110,116])=false:=beq_eq_false_iff_ne.2 qW;have t3:(y.toList==[116,101,120,116])=false:=beq_eq_false_iff_ne.2 rZ;have hew:Id.endW y=0:=by unfold Id.endW;simp[f_none,mP,qW,rZ]
  obtain⟨⟨nm,s3⟩,HN3⟩:∃ N,Hid (Id.name (r,false)=N):=⟨_,hid rfl⟩;have HE:Hid ((acc++[⟨7,nm⟩],s3)=R):=hid (by
   have h1:=HEN.out.1;rw[hew]at h1;rw[HX.out,h1,HN3.out];rfl)
  have HNC:Hid (Calls Tryz.prog 209 #[.slice A n c,.int .i64 j] wr λe w2=>∃ i',e=.returned (.tuple #[.string nm,.int .i64 i'])/\Id.At l i' s3/\w2=wr):=hid (by
   have:=yS A l c HL.out j (r,false) HA.out.at_ wr HRW.out;rw[HN3.out,<-HN.out]at this;exact this)
  clear hew HX f_none mP qW rZ;go_wp2_with fail;refine(HNC.out).mono ?_;rintro e w5⟨i5,rfl,hat,hw⟩;obtain rfl:=hw.symm;have HAT:=hid hat;clear hat;go_wp2_with(at_builtin;go_must(refine aI rfl _ _ _ rfl w.heap.size 44 _ 2 24 Tryz.underlying45 Id.mM rfl (by decide) Id.gU lv acc rfl (HA.out.row) [.int .u8 7,.string nm] rfl _ rfl (by simp) (by simp[Value.oneCell']) (by simp only[maxLen];omega) (by omega) (by omega) ?_);intro v' w4 hrow2 hb2 ho2;have fV:=hid (hrow2 ⟨7,nm⟩ (λ_ _ h=>h) rfl);have HB2:=hid (HA.out.bel.trans hb2);clear hrow2 hb2 ho2);go_ret2;exact⟨_,_,rfl,by rw[<-HE.out];exact HAT.out,HB2.out,by rw[<-HE.out];exact fV.out⟩
namespace Id
structure RC(w:World)(A:Option Addr)(l:List Tk.Tok)(n c:Nat):Prop where
 len:n=l.length
 le:l.length<=1000000
 well:uo l
 rd:Tk.qy w A l
theorem RC.text{w:World}{A:Option Addr}{l:List Tk.Tok}{n c:Nat}(h:RC w A l n c)(W:World)(hb:Below w.heap.size w W)(i:Int)(s:St)(ha:At l i s):Calls Tryz.prog 210 #[.slice A n c,.int .i64 i] W λe w'=>e=.returned (.string (word s))/\w'=W:=by
 rw[h.len];exact vk A l c h.le i s ha W (h.rd.below hb)
theorem RC.step{w:World}{A:Option Addr}{l:List Tk.Tok}{n c:Nat}(h:RC w A l n c)(W:World)(hb:Below w.heap.size w W)(i:Int)(s:St)(ha:At l i s)(x:ByteArray)(hx:x.toList≠[]):Calls Tryz.prog 208 #[.slice A n c,.int .i64 i,.string x] W λe w'=>∃ i',e=.returned (.int .i64 i')/\At l i' (want s x)/\w'=W:=by
 rw[h.len];exact LC A l c h.le i s ha x hx W (h.rd.below hb)
theorem RC.name{w:World}{A:Option Addr}{l:List Tk.Tok}{n c:Nat}(h:RC w A l n c)(W:World)(hb:Below w.heap.size w W)(i:Int)(s:St)(ha:At l i s):Calls Tryz.prog 209 #[.slice A n c,.int .i64 i] W λe w'=>∃ i',e=.returned (.tuple #[.string (Id.name s).1,.int .i64 i'])/\At l i' (Id.name s).2/\w'=W:=by
 rw[h.len];exact yS A l c h.le i s ha W (h.rd.below hb)
theorem RC.sorts{w:World}{A:Option Addr}{l:List Tk.Tok}{n c:Nat}(h:RC w A l n c)(W:World)(hb:Below w.heap.size w W)(i:Int)(s:St)(ha:At l i s):Calls Tryz.prog 242 #[.slice A n c,.int .i64 i] W λe w'=>∃ v i',e=.returned (.tuple #[v,.int .i64 i'])/\At l i' (Id.sorts s).2/\Below W.heap.size W w'/\bG w' (some W.heap.size) v (Id.sorts s).1:=by
 rw[h.len];exact Ja A l c h.le h.well i s ha W (h.rd.below hb)
theorem RC.bound{w:World}{A:Option Addr}{l:List Tk.Tok}{n c:Nat}(h:RC w A l n c){i:Int}{s:St}(ha:At l i s):-1000001<=i/\i<=1000000:=by
 have:=h.le;obtain⟨k,hk,_,hi⟩:=ha;split at hi<;>omega
theorem At.left{l:List Tk.Tok}{i:Int}{s:St}(h:At l i s):s.1.length<=l.length:=by
 obtain⟨k,hk,e,_⟩:=h;rw[e];simp
theorem BF:bF.toList=[123]:=by simp[bF,ByteArray.toList_mk]
theorem ED:aJ.toList=[125]:=by simp[aJ,ByteArray.toList_mk]
theorem NY:iU.toList=[58]:=by simp[iU,ByteArray.toList_mk]
theorem ni:aQ.toList=[59]:=by simp[aQ,ByteArray.toList_mk]
theorem PX:iJ.toList=[40]:=by simp[iJ,ByteArray.toList_mk]
theorem NZ:gu.toList=[41]:=by simp[gu,ByteArray.toList_mk]
theorem QY:kW.toList=[46]:=by simp[kW,ByteArray.toList_mk]
theorem Oa:jw.toList=[45,62]:=by simp[jw,ByteArray.toList_mk]
theorem SI:wDo.toList=[100,111]:=by simp[wDo,ByteArray.toList_mk]
theorem SK:wAt.toList=[97,116]:=by simp[wAt,ByteArray.toList_mk]
theorem uM:iI.toList=[117,110,100,111]:=by simp[iI,ByteArray.toList_mk]
theorem zH(s:St):is s aJ=((word s).toList==[125]):=by rw[uU (by rw[ED];simp),ED]
def KC{α:Type}(w:World)(l:List Tk.Tok)(t:TypeId)(size:Nat)(E:World->List Value->α->Prop)(R:List α × St)(e:Ending)(w':World):Prop:=∃ v i' x,e=.returned (.tuple #[v,.int .i64 i'])/\At l i' R.2/\Below w.heap.size w w'/\ah w' (some w.heap.size) t size E v x/\(R.2.2=false->x=R.1)
structure BX{α:Type}(w:World)(l:List Tk.Tok)(read:St->α × St)(E:World->List Value->α->Prop)(t:TypeId)(size:Nat)(R:List α × St)(n:Nat)(i:Int)(v:Value)(wr:World)(s:St)(acc:List α):Prop where
 at_:At l i s
 fu:s.2=false->s.1.length+2<=n
 fo:1<=n
 ln:s.2=false->acc.length+s.1.length<=1000000
 bel:Below w.heap.size w wr
 row:ah wr (some w.heap.size) t size E v acc
 out:s.2=false->jA read n s acc=R
 bad:s.2=true->R.2=s
theorem Gf{α:Type}{read:St->α × St}(f:Nat){s:St}(acc:List α)(h:s.2=true):jA read f s acc=(acc,s):=by
 cases f with
 |zero=>rfl
 |succ f=>unfold jA;rw[if_pos h]
theorem iW{α:Type}{read:St->α × St}{f:Nat}{r:List Tk.Tok}{acc:List α}{R:List α × St}{x:α}{s5:St}(h:jA read (f+1) (r,false) acc=R)(hi:is (r,false) aJ=false)(hf:read (r,false)=(x,s5)):(s5.2=false->jA read f s5 (acc++[x])=R)/\(s5.2=true->R.2=s5):=by
 have h2:jA read f s5 (if s5.2 then acc else acc++[x])=R:=by rw[<-h];simp[jA,hi,hf]
 constructor
 ·intro hb
  rw[hb]at h2;exact h2
 ·intro hb
  rw[<-h2,Gf f _ hb]
theorem oh{s:St}{x:ByteArray}(h:s.2=true):want s x=s:=by
 obtain⟨r,b⟩:=s;simp only at h;subst h;rfl
theorem BG{s:St}{k:Nat}{p:Tk.Tok->Bool}(h:s.2=true):one s k p=(⟨0,⟨#[]⟩,0,0⟩,s):=by
 obtain⟨r,b⟩:=s;simp only at h;subst h;cases r<;>rfl
theorem Fj{s:St}(h:s.2=true):name s=(⟨#[]⟩,s):=by unfold name;rw[BG h]
theorem pG{s:St}(h:s.2=true):num s=(0,s):=by unfold num;rw[BG h]
theorem BZ{ws:List ByteArray}{s:St}(h:s.2=true):words ws s=(⟨#[]⟩,s):=by unfold words;rw[BG h]
theorem QG{s:St}(h:s.2=true):arg s=(⟨#[]⟩,s):=by unfold arg;rw[oh h,Fj h,oh h]
theorem uV{ws:List ByteArray}{r:List Tk.Tok}(hw:∀ t r',r=t::r'->t.kind=1∨t.kind=2∨(t.kind=3/\t.text.size<=2))(h3:∀ x∈ws,3<=x.size) :
  words ws (r,false)=if(ws.any λx=>(word (r,false)).toList==x.toList)then(word (r,false),(r.tail,false))else(⟨#[]⟩,(r,true)):=by
 have hsz:∀(a:ByteArray),a.size<=2->(ws.any λx=>a.toList==x.toList)=false:=λa ha=>by
  rw[List.any_eq_false];intro x hx e;have e2:=beq_iff_eq.1 e;have h1:a.toList.length=a.size:=by rw[ByteArray.toList_eq];simp
  have h2:x.toList.length=x.size:=by rw[ByteArray.toList_eq];simp
  have:=h3 x hx;rw[e2,h2]at h1;omega
 cases r with
 |nil =>
  have:word (([]:List Tk.Tok),false)=⟨#[]⟩:=rfl;rw[this,hsz _ (by decide)];rfl
 |cons t r' =>
  unfold words one;rcases hw t r' rfl with h|h|⟨h,h2⟩
  ·have hwd:word (t::r',false)=t.text:=by simp[word,h]
   rw[hwd];by_cases hc:(ws.any λx=>t.text.toList==x.toList)=true
   ·have ha:among ws t=true:=hc
    simp[h,ha,hc]
   ·rw[Bool.not_eq_true]at hc
    have ha:among ws t=false:=hc;simp[h,ha,hc]
  ·have hwd:word (t::r',false)=⟨#[]⟩:=by simp[word,h]
   rw[hwd,hsz _ (by decide)];simp[h]
  ·have hwd:word (t::r',false)=t.text:=by simp[word,h]
   rw[hwd,hsz _ h2];simp[h]
end Id
theorem wO(w0:World)(A:Option Addr)(l:List Tk.Tok)(n c:Nat)(hrc:Id.RC w0 A l n c)(i:Int)(s:Id.St)(ha:Id.At l i s)(w:World)(hb:Below w0.heap.size w0 w) :
  Calls Tryz.prog 213 #[.slice A n c,.int .i64 i] w λe w'=>∃ i',e=.returned (.tuple #[.string (Id.arg s).1,.int .i64 i'])/\Id.At l i' (Id.arg s).2/\w'=w:=by
 unfold Id.arg;have HC:=hid hrc;have HB:=hid hb;clear hrc hb;go_enter Tryz.func213,Tryz.ntmps213;go_wp2_with fail;refine(HC.out.step _ HB.out i s ha Id.iJ (by rw[Id.PX];simp)).mono ?_;rintro e w1⟨i1,rfl,h1,hw⟩;obtain rfl:=hw.symm;go_wp2_with fail;refine(HC.out.name _ HB.out i1 _ h1).mono ?_;rintro e w2⟨i2,rfl,h2,hw⟩;obtain rfl:=hw.symm;go_wp2_with fail;refine(HC.out.step _ HB.out i2 _ h2 Id.gu (by rw[Id.NZ];simp)).mono ?_;rintro e w3⟨i3,rfl,h3,hw⟩;obtain rfl:=hw.symm;go_wp2_with fail;go_ret2;exact⟨_,rfl,h3,rfl⟩
theorem yT(w0:World)(A:Option Addr)(l:List Tk.Tok)(n c:Nat)(hrc:Id.RC w0 A l n c)(i:Int)(s:Id.St)(ha:Id.At l i s)(w:World)(hb:Below w0.heap.size w0 w) :
  Calls Tryz.prog 211 #[.slice A n c,.int .i64 i] w (Id.KC w l 176 2 (Id.gJ (some w.heap.size)) (Id.within Id.field s)):=by
 obtain⟨R,HR⟩:∃ R,Hid (Id.within Id.field s=R):=⟨_,hid rfl⟩;rw[HR.out];have HC:=hid hrc;have HB:=hid hb;have hw0:=hb.size;clear hrc hb;go_enter Tryz.func211,Tryz.ntmps211;go_wp2_with fail;refine(HC.out.step _ HB.out i s ha Id.bF (by rw[Id.BF];simp)).mono ?_;rintro e w1⟨i1,rfl,h1,hw⟩;obtain rfl:=hw.symm;obtain⟨s1,H1⟩:∃ T,Hid (Id.want s Id.bF=T):=⟨_,hid rfl⟩;rw[H1.out]at h1;have HA0:=hid (show Id.BX w l Id.field (Id.gJ (some w.heap.size)) 176 2 R (s1.1.length+2) i1 (.slice none 0 0) w s1 []from⟨h1,λ_=>xB _,by omega,λ_=>by have:=h1.left;have:=HC.out.le;simp;omega,Below.refl _ _,ah.nil _ _ _ _ _,λ_=>by rw[<-HR.out];unfold Id.within;rw[H1.out],λhb=>by rw[<-HR.out];unfold Id.within;rw[H1.out];obtain⟨r,b⟩:=s1;simp only at hb;subst hb;rfl⟩);clear h1 ha;go_wp2_with fail;go_loopg [1,6] (s1.1.length+2) (λm vi vl wr=>∃(j:Int)(s:Id.St)(acc:List Id.Fld)(lv:Value),lv=vl/\vi=.int .i64 j/\Hid (Id.BX w l Id.field (Id.gJ (some w.heap.size)) 176 2 R m j lv wr s acc))
 case atStart=>exact⟨i1,s1,[],_,rfl,rfl,HA0⟩
 case round =>
  obtain⟨j,s,acc,lv,rfl,rfl,HA⟩:=hrel;obtain⟨f,rfl⟩:∃ f,gk=f+1:=⟨gk - 1,by have:=HA.out.fo;omega⟩;have hln:=HA.out.ln;have hfu:=HA.out.fu;have hbz:=HA.out.bel.size;obtain⟨hj1,hj2⟩:=HC.out.bound HA.out.at_;obtain⟨r,bad⟩:=s;simp only at hln hfu;cases bad
  case true =>
   have hj3:=HA.out.at_.bad rfl;have hj4:decide (0<=j)=false:=by simp;omega
   have hj5:¬0<=j:=by omega
   have hj6:decide (j<0)=true:=by simpa using hj3
   have HRb:=hid (HA.out.bad rfl);clear hfu hln;go_wp2_with fail;go_ret2;exact⟨_,_,[],rfl,by rw[HRb.out];exact HA.out.at_,HA.out.bel,ah.nil _ _ _ _ _,λe=>by rw[HRb.out]at e;cases e⟩
  obtain⟨hj3,_⟩:=HA.out.at_.good rfl;have hj4:decide (0<=j)=true:=by simpa using hj3
  have hj5:¬j<0:=by omega
  have hj6:decide (j<0)=false:=by simpa using hj3
  replace hfu:=hfu rfl;replace hln:=hln rfl;have HO:=hid (HA.out.out rfl);have HBW:=hid (HB.out.trans (HA.out.bel.mono hw0));have jf:=HBW.out.size;have HIR:=hid (Id.zH (r,false));go_wp2_with fail;refine(HC.out.text _ HBW.out j _ HA.out.at_).mono ?_;rintro e wq⟨rfl,hw⟩;obtain rfl:=hw.symm;obtain⟨y,HY⟩:∃ y,Hid (Id.word (r,false)=y):=⟨_,hid rfl⟩;rw[HY.out];by_cases ey:y.toList=[125]
  ·have t1:(y.toList==[125])=true:=beq_iff_eq.2 ey
   have hi:Id.is (r,false) Id.aJ=true:=by rw[HIR.out,HY.out];exact t1
   have HE:Hid (R=(acc,(r.tail,false))):=hid (by rw[<-HO.out];simp[Id.jA,hi]);obtain⟨t,r',hr'⟩:=Id.pI hi;injection hr' with hr' _
   subst hr';clear ey hi;go_wp2_with fail;go_ret2;exact⟨_,_,acc,rfl,by rw[HE.out];exact HA.out.at_.next,HA.out.bel,HA.out.row,λ_=>by rw[HE.out]⟩
  have t1:(y.toList==[125])=false:=beq_eq_false_iff_ne.2 ey;have HI:Hid (Id.is (r,false) Id.aJ=false):=hid (by rw[HIR.out,HY.out];exact t1);have HRL:=hid (Id.vT (r,false));have HRG:=hid (@Id.JF (r,false));clear ey;obtain⟨⟨nm,s2⟩,H2⟩:∃ T,Hid (Id.name (r,false)=T):=⟨_,hid rfl⟩;obtain⟨s3,H3⟩:∃ T,Hid (Id.want s2 Id.iU=T):=⟨_,hid rfl⟩;obtain⟨⟨ty,s4⟩,H4⟩:∃ T,Hid (Id.sorts s3=T):=⟨_,hid rfl⟩;obtain⟨s5,H5⟩:∃ T,Hid (Id.want s4 Id.aQ=T):=⟨_,hid rfl⟩;have HF:Hid (Id.field (r,false)=(⟨nm,ty⟩,s5)):=hid (by simp only[Id.field,H2.out,H3.out,H4.out,H5.out]);replace HRL:=hid (by have:=HRL.out;rw[HF.out]at this;exact this);replace HRG:=hid (by have:=HRG.out;rw[HF.out]at this;exact this);have hrl:=HRL.out;simp only at hrl;replace HRG:Hid (s5.2=false->s5.1.length<r.length):=HRG;have HBl:=hid ((Below.refl wr.heap.size wr).alloc (xB _) (.cells #[.string ⟨#[]⟩,.slice none 0 0] 176));go_wp2_with fail;refine(HC.out.name _ (HBW.out.trans (HBl.out.mono jf)) j _ HA.out.at_).mono ?_;rintro e wq⟨i2,rfl,hi2,hw⟩;obtain rfl:=hw.symm;rw[H2.out]at hi2 ⊢;simp only at hi2 ⊢;clear HBl;go_wp2_with fail;have hq:=Bk.new wr 176 #[.string nm,.slice none 0 0];have HBl:=hid ((Below.refl wr.heap.size wr).alloc (xB _) (.cells #[.string nm,.slice none 0 0] 176));generalize(wr.alloc (.cells #[.string nm,.slice none 0 0] 176))=W1 at *;refine(HC.out.step _ (HBW.out.trans (HBl.out.mono jf)) i2 _ hi2 Id.iU (by rw[Id.NY];simp)).mono ?_;rintro e wq⟨i3,rfl,hi3,hw⟩;obtain rfl:=hw.symm;rw[H3.out]at hi3;go_wp2_with fail;refine(HC.out.sorts _ (HBW.out.trans (HBl.out.mono jf)) i3 _ hi3).mono ?_;rintro e W3⟨v3,i4,rfl,hi4,hb3,hr3⟩;rw[H4.out]at hi4 hr3;simp only at hi4 hr3;obtain⟨A5,n5,c5,rfl⟩:=ah.is hr3;have hz1:=HBl.out.size;replace hq:=hq.below hb3 hq.lt;have HSR:Hid (Id.bG W3 (some w.heap.size) (.slice A5 n5 c5) ty):=hid (ah.mono hr3 (λ_ _ h=>h.weak (λb' e=>⟨_,rfl,by injection e with e;omega⟩)) (λ_ _ h=>h));replace HBl:=hid (HBl.out.trans (hb3.mono hz1));clear hb3 hr3 hz1;obtain⟨⟨f0,f1⟩,g0,g1⟩:=hq.k2;go_wp2_with fail;clear f0 f1 g0 g1;replace HSR:Hid (Id.bG (W3.setCell ⟨wr.heap.size,1,none⟩ (.slice A5 n5 c5)) (some w.heap.size) (.slice A5 n5 c5) ty):=hid (ah.kp HSR.out ((Only.set hq 1 (.slice A5 n5 c5)).kp w.heap.size (T:=[44]) (by decide)) (xB _) (List.mem_singleton.2 rfl) (λ_ _ h=>h));replace HBl:=hid (HBl.out.setCell (p:=⟨wr.heap.size,1,none⟩) (xB _) (.slice A5 n5 c5));replace hq:Bk (W3.setCell ⟨wr.heap.size,1,none⟩ (.slice A5 n5 c5)) wr.heap.size 176 #[.string nm,.slice A5 n5 c5]:=hq.aA 1 (.slice A5 n5 c5);generalize(W3.setCell ⟨wr.heap.size,1,none⟩ (.slice A5 n5 c5))=W4 at *;refine(HC.out.step _ (HBW.out.trans (HBl.out.mono jf)) i4 _ hi4 Id.aQ (by rw[Id.ni];simp)).mono ?_;rintro e wq⟨i5,rfl,hi5,hw⟩;obtain rfl:=hw.symm;rw[H5.out]at hi5;obtain⟨⟨f0,f1⟩,g0,g1⟩:=hq.k2;have HRO:=hid (ah.below HA.out.row HBl.out (Id.gJ.below HBl.out));have hsz:=HBl.out.size;go_wp2_with(at_builtin;go_must(refine aI rfl _ _ _ rfl w.heap.size 176 _ 2 40 Tryz.underlying40 Id.J5 rfl (by decide) (Id.gJ (some w.heap.size)) lv acc rfl HRO.out [.string nm,.slice A5 n5 c5] rfl _ rfl rfl (by simp[Value.oneCell']) (by simp only[maxLen];omega) (by omega) (by omega) ?_);intro v' w9 dX hb9 ho9;have fV:=hid dX;have HB9:=hid ((HA.out.bel.trans (HBl.out.mono hbz)).trans hb9);have HO9:=hid ho9;clear dX hb9 ho9);have hnx:=Id.iW HO.out HI.out HF.out;go_roundg f
  case rel=>exact⟨_,s5,acc++[⟨nm,ty⟩],v',rfl,rfl,hid ⟨hi5,λhb=>by have:=HRG.out hb;omega,by omega,λhb=>by have:=HRG.out hb;simp;omega,HB9.out,fV.out ⟨nm,ty⟩ (Id.gJ.kp (HO9.out.kp w.heap.size (T:=[44]) (by decide)) (xB _) (by simp)) ⟨_,rfl,Id.Srt.OZ (HO9.out.kp w.heap.size (T:=[44]) (by decide)) (xB _) (by simp) HSR.out⟩,hnx.1,hnx.2⟩⟩
  case measure=>omega
theorem IZ(w0:World)(A:Option Addr)(l:List Tk.Tok)(n c:Nat)(hrc:Id.RC w0 A l n c)(i:Int)(s:Id.St)(ha:Id.At l i s)(w:World)(hb:Below w0.heap.size w0 w) :
  Calls Tryz.prog 214 #[.slice A n c,.int .i64 i] w (Id.KC w l 184 3 Id.dU (Id.within Id.step s)):=by
 obtain⟨R,HR⟩:∃ R,Hid (Id.within Id.step s=R):=⟨_,hid rfl⟩;rw[HR.out];have HC:=hid hrc;have HB:=hid hb;have hw0:=hb.size;clear hrc hb;go_enter Tryz.func214,Tryz.ntmps214;go_wp2_with fail;refine(HC.out.step _ HB.out i s ha Id.bF (by rw[Id.BF];simp)).mono ?_;rintro e w1⟨i1,rfl,h1,hw⟩;obtain rfl:=hw.symm;obtain⟨s1,H1⟩:∃ T,Hid (Id.want s Id.bF=T):=⟨_,hid rfl⟩;rw[H1.out]at h1;have HA0:=hid (show Id.BX w l Id.step Id.dU 184 3 R (s1.1.length+2) i1 (.slice none 0 0) w s1 []from⟨h1,λ_=>xB _,by omega,λ_=>by have:=h1.left;have:=HC.out.le;simp;omega,Below.refl _ _,ah.nil _ _ _ _ _,λ_=>by rw[<-HR.out];unfold Id.within;rw[H1.out],λhb=>by rw[<-HR.out];unfold Id.within;rw[H1.out];obtain⟨r,b⟩:=s1;simp only at hb;subst hb;rfl⟩);clear h1 ha;go_wp2_with fail;go_loopg [1,6] (s1.1.length+2) (λm vi vl wr=>∃(j:Int)(s:Id.St)(acc:List Id.Stp)(lv:Value),lv=vl/\vi=.int .i64 j/\Hid (Id.BX w l Id.step Id.dU 184 3 R m j lv wr s acc))
 case atStart=>exact⟨i1,s1,[],_,rfl,rfl,HA0⟩
 case round =>
  obtain⟨j,s,acc,lv,rfl,rfl,HA⟩:=hrel;obtain⟨f,rfl⟩:∃ f,gk=f+1:=⟨gk - 1,by have:=HA.out.fo;omega⟩;have hln:=HA.out.ln;have hfu:=HA.out.fu;have hbz:=HA.out.bel.size;obtain⟨hj1,hj2⟩:=HC.out.bound HA.out.at_;obtain⟨r,bad⟩:=s;simp only at hln hfu;cases bad
  case true =>
   have hj3:=HA.out.at_.bad rfl;have hj4:decide (0<=j)=false:=by simp;omega
   have hj5:¬0<=j:=by omega
   have hj6:decide (j<0)=true:=by simpa using hj3
   have HRb:=hid (HA.out.bad rfl);clear hfu hln;go_wp2_with fail;go_ret2;exact⟨_,_,[],rfl,by rw[HRb.out];exact HA.out.at_,HA.out.bel,ah.nil _ _ _ _ _,λe=>by rw[HRb.out]at e;cases e⟩
  obtain⟨hj3,_⟩:=HA.out.at_.good rfl;have hj4:decide (0<=j)=true:=by simpa using hj3
  have hj5:¬j<0:=by omega
  have hj6:decide (j<0)=false:=by simpa using hj3
  replace hfu:=hfu rfl;replace hln:=hln rfl;have HO:=hid (HA.out.out rfl);have HBW:=hid (HB.out.trans (HA.out.bel.mono hw0));have jf:=HBW.out.size;have HIR:=hid (Id.zH (r,false));go_wp2_with fail;refine(HC.out.text _ HBW.out j _ HA.out.at_).mono ?_;rintro e wq⟨rfl,hw⟩;obtain rfl:=hw.symm;obtain⟨y,HY⟩:∃ y,Hid (Id.word (r,false)=y):=⟨_,hid rfl⟩;rw[HY.out];by_cases ey:y.toList=[125]
  ·have t1:(y.toList==[125])=true:=beq_iff_eq.2 ey
   have hi:Id.is (r,false) Id.aJ=true:=by rw[HIR.out,HY.out];exact t1
   have HE:Hid (R=(acc,(r.tail,false))):=hid (by rw[<-HO.out];simp[Id.jA,hi]);obtain⟨t,r',hr'⟩:=Id.pI hi;injection hr' with hr' _
   subst hr';clear ey hi;go_wp2_with fail;go_ret2;exact⟨_,_,acc,rfl,by rw[HE.out];exact HA.out.at_.next,HA.out.bel,HA.out.row,λ_=>by rw[HE.out]⟩
  have t1:(y.toList==[125])=false:=beq_eq_false_iff_ne.2 ey;have HI:Hid (Id.is (r,false) Id.aJ=false):=hid (by rw[HIR.out,HY.out];exact t1);have HRL:=hid (Id.Bz (r,false));have HRG:=hid (@Id.Lh (r,false));clear ey;obtain⟨s2,H2⟩:∃ T,Hid (Id.want (r,false) Id.wDo=T):=⟨_,hid rfl⟩;obtain⟨⟨n1,s3⟩,H3⟩:∃ T,Hid (Id.name s2=T):=⟨_,hid rfl⟩;obtain⟨s4,H4⟩:∃ T,Hid (Id.want s3 Id.kW=T):=⟨_,hid rfl⟩;obtain⟨⟨n2,s5⟩,H5⟩:∃ T,Hid (Id.name s4=T):=⟨_,hid rfl⟩;obtain⟨s6,H6⟩:∃ T,Hid (Id.want s5 Id.wAt=T):=⟨_,hid rfl⟩;obtain⟨⟨tn,s7⟩,H7⟩:∃ T,Hid (Id.num s6=T):=⟨_,hid rfl⟩;obtain⟨s8,H8⟩:∃ T,Hid (Id.want s7 Id.aQ=T):=⟨_,hid rfl⟩;have HF:Hid (Id.step (r,false)=(⟨n1,n2,tn⟩,s8)):=hid (by simp only[Id.step,H2.out,H3.out,H4.out,H5.out,H6.out,H7.out,H8.out]);replace HRL:=hid (by have:=HRL.out;rw[HF.out]at this;exact this);replace HRG:=hid (by have:=HRG.out;rw[HF.out]at this;exact this);have hrl:=HRL.out;simp only at hrl;replace HRG:Hid (s8.2=false->s8.1.length<r.length):=HRG;have HBl:=hid ((Below.refl wr.heap.size wr).alloc (xB _) (.cells #[.string ⟨#[]⟩,.string ⟨#[]⟩,.int .i64 0] 184));go_wp2_with fail;refine(HC.out.step _ (HBW.out.trans (HBl.out.mono jf)) j _ HA.out.at_ Id.wDo (by rw[Id.SI];simp)).mono ?_;rintro e wq⟨i2,rfl,hi2,hw⟩;obtain rfl:=hw.symm;rw[H2.out]at hi2;go_wp2_with fail;refine(HC.out.name _ (HBW.out.trans (HBl.out.mono jf)) i2 _ hi2).mono ?_;rintro e wq⟨i3,rfl,hi3,hw⟩;obtain rfl:=hw.symm;rw[H3.out]at hi3 ⊢;simp only at hi3 ⊢;clear HBl;go_wp2_with fail;have hq:=Bk.new wr 184 #[.string n1,.string ⟨#[]⟩,.int .i64 0];have HBl:=hid ((Below.refl wr.heap.size wr).alloc (xB _) (.cells #[.string n1,.string ⟨#[]⟩,.int .i64 0] 184));generalize(wr.alloc (.cells #[.string n1,.string ⟨#[]⟩,.int .i64 0] 184))=W1 at *;refine(HC.out.step _ (HBW.out.trans (HBl.out.mono jf)) i3 _ hi3 Id.kW (by rw[Id.QY];simp)).mono ?_;rintro e wq⟨i4,rfl,hi4,hw⟩;obtain rfl:=hw.symm;rw[H4.out]at hi4;go_wp2_with fail;refine(HC.out.name _ (HBW.out.trans (HBl.out.mono jf)) i4 _ hi4).mono ?_;rintro e wq⟨i5,rfl,hi5,hw⟩;obtain rfl:=hw.symm;rw[H5.out]at hi5 ⊢;simp only at hi5 ⊢;obtain⟨⟨f0,f1,f2⟩,g0,g1,g2⟩:=hq.k3;go_wp2_with fail;clear f0 f1 f2 g0 g1 g2;replace HBl:=hid (HBl.out.setCell (p:=⟨wr.heap.size,1,none⟩) (xB _) (.string n2));replace hq:Bk (W1.setCell ⟨wr.heap.size,1,none⟩ (.string n2)) wr.heap.size 184 #[.string n1,.string n2,.int .i64 0]:=hq.aA 1 (.string n2);generalize(W1.setCell ⟨wr.heap.size,1,none⟩ (.string n2))=W2 at *;refine(HC.out.step _ (HBW.out.trans (HBl.out.mono jf)) i5 _ hi5 Id.wAt (by rw[Id.SK];simp)).mono ?_;rintro e wq⟨i6,rfl,hi6,hw⟩;obtain rfl:=hw.symm;rw[H6.out]at hi6;have FB:=Id.iW HO.out HI.out HF.out;obtain⟨U7,U6⟩:=HC.out.bound hi6;obtain⟨r6,TY⟩:=s6;cases TY
  case true =>
   have hs7:=Id.pG (s:=(r6,true)) rfl;rw[H7.out]at hs7;injection hs7 with e1 e2
   subst e1 e2;have hj7:=hi6.bad rfl;have hj8:decide (0<=i6)=false:=by simp;omega
   have hj9:¬0<=i6:=by omega
   go_wp2_with fail;have hi7:=hi6;refine(HC.out.step _ (HBW.out.trans (HBl.out.mono jf)) i6 _ hi7 Id.aQ (by rw[Id.ni];simp)).mono ?_;rintro e wq⟨i8,rfl,hi8,hw⟩;obtain rfl:=hw.symm;rw[H8.out]at hi8;obtain⟨⟨f0,f1,f2⟩,g0,g1,g2⟩:=hq.k3;have HRO:=hid (ah.below HA.out.row HBl.out Id.dU.kp);have hsz:=HBl.out.size;go_wp2_with(at_builtin;go_must(refine aI rfl _ _ _ rfl w.heap.size 184 _ 3 40 Tryz.underlying103 Id.Dk rfl (by decide) Id.dU lv acc rfl HRO.out [.string n1,.string n2,.int .i64 0] rfl _ rfl rfl (by simp[Value.oneCell']) (by simp only[maxLen];omega) (by omega) (by omega) ?_);intro v' w9 dX hb9 ho9;have fV:=hid dX;have HB9:=hid ((HA.out.bel.trans (HBl.out.mono hbz)).trans hb9);have HO9:=hid ho9;clear dX hb9 ho9);have hnx:=Id.iW HO.out HI.out HF.out;go_roundg f
   case rel=>exact⟨_,s8,acc++[⟨n1,n2,0⟩],v',rfl,rfl,hid ⟨hi8,λhb=>by have:=HRG.out hb;omega,by omega,λhb=>by have:=HRG.out hb;simp;omega,HB9.out,fV.out ⟨n1,n2,0⟩ Id.dU.kp rfl,hnx.1,hnx.2⟩⟩
   case measure=>omega
  have hj7:=(hi6.good rfl).1;have hj8:decide (0<=i6)=true:=by simpa using hj7
  rcases hi6.cases with⟨hb,_⟩|⟨he,hik⟩|⟨k,hk,he,hik⟩
  ·cases hb
  ·injection he with he _
   subst he;have hs7:Id.num (([]:List Tk.Tok),false)=(0,([],true)):=rfl;rw[H7.out]at hs7;injection hs7 with e1 e2
   subst e1 e2;have hs8:=H8.out;rw[Id.oh rfl]at hs8;subst hs8;have HRb:=hid (FB.2 rfl);have U3:(n:Int)<=i6:=by rw[HC.out.len];omega
   clear hik FB;go_wp2_with fail;go_ret2;exact⟨_,_,[],rfl,by rw[HRb.out];exact hi6.fault,HA.out.bel.trans (HBl.out.mono hbz),ah.nil _ _ _ _ _,λe=>by rw[HRb.out]at e;cases e⟩
  ·subst hik
   injection he with he _
   obtain⟨t,ht⟩:∃ t,t=l[k]:=⟨_,rfl⟩;obtain⟨g,off,rfl,hcs⟩:=(HC.out.rd.below (HBW.out.trans (HBl.out.mono jf))) (by omega);obtain⟨t0,t1',t2,t3⟩:=hcs k hk;rw[<-ht]at t0 t1' t2 t3 he;subst he;have i1':(0:Int)<=(k:Int):=by omega
   have i2':(k:Int)<(n:Int):=by rw[HC.out.len];omega
   have i3':k<n:=by omega
   have hgl:g<W2.heap.size:=xH W2 _ t0;clear hcs ht;obtain⟨tk,tt,tn2,ta⟩:=t;simp only at t0 t1' t2 t3;by_cases hk2:tk=2
   case neg =>
    have tk2:((tk:Int) != 2)=true:=by rw[bne_iff_ne];omega
    have hs7:Id.num (⟨tk,tt,tn2,ta⟩::l.drop (k+1),false)=(0,(⟨tk,tt,tn2,ta⟩::l.drop (k+1),true)):=by unfold Id.num Id.one;simp[hk2]
    rw[H7.out]at hs7;injection hs7 with e1 e2
    subst e1 e2;have hs8:=H8.out;rw[Id.oh rfl]at hs8;subst hs8;have HRb:=hid (FB.2 rfl);have HI6:=hid hi6.fault;clear FB hk2 hi6;go_wp2_with fail;go_ret2;exact⟨_,_,[],rfl,by rw[HRb.out];exact HI6.out,HA.out.bel.trans (HBl.out.mono hbz),ah.nil _ _ _ _ _,λe=>by rw[HRb.out]at e;cases e⟩
   subst hk2;have hs7:Id.num (⟨2,tt,tn2,ta⟩::l.drop (k+1),false)=(tn2,(l.drop (k+1),false)):=by unfold Id.num Id.one;simp
   rw[H7.out]at hs7;injection hs7 with e1 e2
   subst e1 e2;have hi7:=hi6.next;clear FB hi6;obtain⟨⟨f0,f1,f2⟩,g0,g1,g2⟩:=hq.k3;go_wp2_with fail;clear f0 f1 f2 g0 g1 g2;clear t0 t1' t2 t3 hgl;replace HBl:=hid (HBl.out.setCell (p:=⟨wr.heap.size,2,none⟩) (xB _) (.int .i64 tn));replace hq:Bk (W2.setCell ⟨wr.heap.size,2,none⟩ (.int .i64 tn)) wr.heap.size 184 #[.string n1,.string n2,.int .i64 tn]:=hq.aA 2 (.int .i64 tn);generalize(W2.setCell ⟨wr.heap.size,2,none⟩ (.int .i64 tn))=W3 at *;refine(HC.out.step _ (HBW.out.trans (HBl.out.mono jf)) _ _ hi7 Id.aQ (by rw[Id.ni];simp)).mono ?_;rintro e wq⟨i8,rfl,hi8,hw⟩;obtain rfl:=hw.symm;rw[H8.out]at hi8;obtain⟨⟨f0,f1,f2⟩,g0,g1,g2⟩:=hq.k3;have HRO:=hid (ah.below HA.out.row HBl.out Id.dU.kp);have hsz:=HBl.out.size;go_wp2_with(at_builtin;go_must(refine aI rfl _ _ _ rfl w.heap.size 184 _ 3 40 Tryz.underlying103 Id.Dk rfl (by decide) Id.dU lv acc rfl HRO.out [.string n1,.string n2,.int .i64 tn] rfl _ rfl rfl (by simp[Value.oneCell']) (by simp only[maxLen];omega) (by omega) (by omega) ?_);intro v' w9 dX hb9 ho9;have fV:=hid dX;have HB9:=hid ((HA.out.bel.trans (HBl.out.mono hbz)).trans hb9);have HO9:=hid ho9;clear dX hb9 ho9);have hnx:=Id.iW HO.out HI.out HF.out;go_roundg f
   case rel=>exact⟨_,s8,acc++[⟨n1,n2,tn⟩],v',rfl,rfl,hid ⟨hi8,λhb=>by have:=HRG.out hb;omega,by omega,λhb=>by have:=HRG.out hb;simp;omega,HB9.out,fV.out ⟨n1,n2,tn⟩ Id.dU.kp rfl,hnx.1,hnx.2⟩⟩
   case measure=>omega
namespace Id
theorem PI:fO.toList=[103,105,118,101]:=by simp[fO,ByteArray.toList_mk]
theorem P9:fK.toList=[116,97,107,101]:=by simp[fK,ByteArray.toList_mk]
theorem PE:fM.toList=[110,111,116,101]:=by simp[fM,ByteArray.toList_mk]
theorem QS:nJ.toList=[105,110,116]:=by simp[nJ,ByteArray.toList_mk]
theorem PG:kH.toList=[110,111,110,101]:=by simp[kH,ByteArray.toList_mk]
theorem DY{r:List Tk.Tok}{y:ByteArray}(hw:∀ t r',r=t::r'->t.kind=1∨t.kind=2∨(t.kind=3/\t.text.size<=2))(hy:word (r,false)=y) :
  ((y.toList==[103,105,118,101])=false/\(y.toList==[116,97,107,101])=false/\(y.toList==[110,111,116,101])=false/\words [fO,fK,fM] (r,false)=(⟨#[]⟩,(r,true)))∨
  (((y.toList==[103,105,118,101])=true∨((y.toList==[103,105,118,101])=false/\(y.toList==[116,97,107,101])=true)∨((y.toList==[103,105,118,101])=false/\(y.toList==[116,97,107,101])=false/\(y.toList==[110,111,116,101])=true))/\∃ t r',r=t::r'/\words [fO,fK,fM] (r,false)=(y,(r',false))):=by
 have hx:=uV (ws:=[fO,fK,fM]) hw (by intro x hx;simp at hx;rcases hx with rfl|rfl|rfl<;>decide);rw[hy]at hx;simp only[List.any_cons,List.any_nil,Bool.or_false,PI,P9,PE]at hx;have hne:∀ x:List UInt8,x≠[]->(y.toList==x)=true->∃ t r',r=t::r':=λx h0 h=>by
  cases r with
  |nil =>
   have:y=⟨#[]⟩:=hy.symm;rw[this,iG]at h;exact absurd (beq_iff_eq.1 h).symm h0
  |cons t r'=>exact⟨t,r',rfl⟩
 cases h1:(y.toList==[103,105,118,101])
 ·cases h2:(y.toList==[116,97,107,101])
  ·cases h3:(y.toList==[110,111,116,101])
   ·rw[h1,h2,h3]at hx
    exact .inl ⟨rfl,rfl,rfl,hx⟩
   ·obtain⟨t,r',rfl⟩:=hne _ (by simp) h3
    rw[h1,h2,h3]at hx;exact .inr ⟨.inr (.inr ⟨rfl,rfl,rfl⟩),t,r',rfl,hx⟩
  ·obtain⟨t,r',rfl⟩:=hne _ (by simp) h2
   rw[h1,h2]at hx;exact .inr ⟨.inr (.inl ⟨rfl,rfl⟩),t,r',rfl,hx⟩
 ·obtain⟨t,r',rfl⟩:=hne _ (by simp) h1
  rw[h1]at hx;exact .inr ⟨.inl rfl,t,r',rfl,hx⟩
theorem EO{r:List Tk.Tok}{y:ByteArray}(hw:∀ t r',r=t::r'->t.kind=1∨t.kind=2∨(t.kind=3/\t.text.size<=2))(hy:word (r,false)=y) :
  ((y.toList==[105,110,116])=false/\(y.toList==[110,111,110,101])=false/\words [nJ,kH] (r,false)=(⟨#[]⟩,(r,true)))∨
  ((y.toList==[105,110,116])=true/\endW y=3/\∃ t r',r=t::r'/\words [nJ,kH] (r,false)=(y,(r',false)))∨
  ((y.toList==[105,110,116])=false/\(y.toList==[110,111,110,101])=true/\endW y=1/\∃ t r',r=t::r'/\words [nJ,kH] (r,false)=(y,(r',false))):=by
 have hx:=uV (ws:=[nJ,kH]) hw (by intro x hx;simp at hx;rcases hx with rfl|rfl<;>decide);rw[hy]at hx;simp only[List.any_cons,List.any_nil,Bool.or_false,QS,PG]at hx;have hne:∀ x:List UInt8,x≠[]->(y.toList==x)=true->∃ t r',r=t::r':=λx h0 h=>by
  cases r with
  |nil =>
   have:y=⟨#[]⟩:=hy.symm;rw[this,iG]at h;exact absurd (beq_iff_eq.1 h).symm h0
  |cons t r'=>exact⟨t,r',rfl⟩
 cases h1:(y.toList==[105,110,116])
 ·cases h2:(y.toList==[110,111,110,101])
  ·rw[h1,h2]at hx
   exact .inl ⟨rfl,rfl,hx⟩
  ·obtain⟨t,r',rfl⟩:=hne _ (by simp) h2
   rw[h1,h2]at hx;exact .inr (.inr ⟨rfl,rfl,by unfold endW;simp[beq_iff_eq.1 h2],t,r',rfl,hx⟩)
 ·obtain⟨t,r',rfl⟩:=hne _ (by simp) h1
  rw[h1]at hx;exact .inr (.inl ⟨rfl,by unfold endW;simp[beq_iff_eq.1 h1],t,r',rfl,hx⟩)
end Id
theorem EM(w0:World)(A:Option Addr)(l:List Tk.Tok)(n c:Nat)(hrc:Id.RC w0 A l n c)(i:Int)(s:Id.St)(ha:Id.At l i s)(w:World)(hb:Below w0.heap.size w0 w) :
  Calls Tryz.prog 212 #[.slice A n c,.int .i64 i] w (Id.KC w l 180 5 Id.dV (Id.within Id.method s)):=by
 obtain⟨R,HR⟩:∃ R,Hid (Id.within Id.method s=R):=⟨_,hid rfl⟩;rw[HR.out];have HC:=hid hrc;have HB:=hid hb;have hw0:=hb.size;clear hrc hb;go_enter Tryz.func212,Tryz.ntmps212;go_wp2_with fail;refine(HC.out.step _ HB.out i s ha Id.bF (by rw[Id.BF];simp)).mono ?_;rintro e w1⟨i1,rfl,h1,hw⟩;obtain rfl:=hw.symm;obtain⟨s1,H1⟩:∃ T,Hid (Id.want s Id.bF=T):=⟨_,hid rfl⟩;rw[H1.out]at h1;have HA0:=hid (show Id.BX w l Id.method Id.dV 180 5 R (s1.1.length+2) i1 (.slice none 0 0) w s1 []from⟨h1,λ_=>xB _,by omega,λ_=>by have:=h1.left;have:=HC.out.le;simp;omega,Below.refl _ _,ah.nil _ _ _ _ _,λ_=>by rw[<-HR.out];unfold Id.within;rw[H1.out],λhb=>by rw[<-HR.out];unfold Id.within;rw[H1.out];obtain⟨r,b⟩:=s1;simp only at hb;subst hb;rfl⟩);clear h1 ha;go_wp2_with fail;go_loopg [1,6] (s1.1.length+2) (λm vi vl wr=>∃(j:Int)(s:Id.St)(acc:List Id.Mth)(lv:Value),lv=vl/\vi=.int .i64 j/\Hid (Id.BX w l Id.method Id.dV 180 5 R m j lv wr s acc))
 case atStart=>exact⟨i1,s1,[],_,rfl,rfl,HA0⟩
 case round =>
  obtain⟨j,s,acc,lv,rfl,rfl,HA⟩:=hrel;obtain⟨f,rfl⟩:∃ f,gk=f+1:=⟨gk - 1,by have:=HA.out.fo;omega⟩;have hln:=HA.out.ln;have hfu:=HA.out.fu;have hbz:=HA.out.bel.size;obtain⟨hj1,hj2⟩:=HC.out.bound HA.out.at_;obtain⟨r,bad⟩:=s;simp only at hln hfu;cases bad
  case true =>
   have hj3:=HA.out.at_.bad rfl;have hj4:decide (0<=j)=false:=by simp;omega
   have hj5:¬0<=j:=by omega
   have hj6:decide (j<0)=true:=by simpa using hj3
   have HRb:=hid (HA.out.bad rfl);clear hfu hln;go_wp2_with fail;go_ret2;exact⟨_,_,[],rfl,by rw[HRb.out];exact HA.out.at_,HA.out.bel,ah.nil _ _ _ _ _,λe=>by rw[HRb.out]at e;cases e⟩
  obtain⟨hj3,_⟩:=HA.out.at_.good rfl;have hj4:decide (0<=j)=true:=by simpa using hj3
  have hj5:¬j<0:=by omega
  have hj6:decide (j<0)=false:=by simpa using hj3
  replace hfu:=hfu rfl;replace hln:=hln rfl;have HO:=hid (HA.out.out rfl);have HBW:=hid (HB.out.trans (HA.out.bel.mono hw0));have jf:=HBW.out.size;have HIR:=hid (Id.zH (r,false));go_wp2_with fail;refine(HC.out.text _ HBW.out j _ HA.out.at_).mono ?_;rintro e wq⟨rfl,hw⟩;obtain rfl:=hw.symm;obtain⟨y,HY⟩:∃ y,Hid (Id.word (r,false)=y):=⟨_,hid rfl⟩;rw[HY.out];by_cases ey:y.toList=[125]
  ·have t1:(y.toList==[125])=true:=beq_iff_eq.2 ey
   have hi:Id.is (r,false) Id.aJ=true:=by rw[HIR.out,HY.out];exact t1
   have HE:Hid (R=(acc,(r.tail,false))):=hid (by rw[<-HO.out];simp[Id.jA,hi]);obtain⟨t,r',hr'⟩:=Id.pI hi;injection hr' with hr' _
   subst hr';clear ey hi;go_wp2_with fail;go_ret2;exact⟨_,_,acc,rfl,by rw[HE.out];exact HA.out.at_.next,HA.out.bel,HA.out.row,λ_=>by rw[HE.out]⟩
  have t1:(y.toList==[125])=false:=beq_eq_false_iff_ne.2 ey;have HI:Hid (Id.is (r,false) Id.aJ=false):=hid (by rw[HIR.out,HY.out];exact t1);have HRL:=hid (Id.wS (r,false));have HRG:=hid (@Id.Gz (r,false));clear ey;obtain⟨⟨n1,s1'⟩,H1w⟩:∃ T,Hid (Id.words [Id.fO,Id.fK,Id.fM] (r,false)=T):=⟨_,hid rfl⟩;obtain⟨⟨n2,s2⟩,H2⟩:∃ T,Hid (Id.name s1'=T):=⟨_,hid rfl⟩;obtain⟨⟨n3,s3⟩,H3⟩:∃ T,Hid (Id.arg s2=T):=⟨_,hid rfl⟩;obtain⟨s4,H4⟩:∃ T,Hid (Id.want s3 Id.jw=T):=⟨_,hid rfl⟩;obtain⟨⟨n4,s5⟩,H5⟩:∃ T,Hid (Id.words [Id.nJ,Id.kH] s4=T):=⟨_,hid rfl⟩;obtain⟨ew,HEW⟩:∃ T,Hid (Id.endW n4=T):=⟨_,hid rfl⟩;obtain⟨⟨tb,s6⟩,H6⟩:∃ T,Hid (Id.take s5 Id.iI=T):=⟨_,hid rfl⟩;obtain⟨⟨nu,s7⟩,H7⟩:∃ T,Hid ((if tb=true then Id.name s6 else(⟨#[]⟩,s6))=T):=⟨_,hid rfl⟩;obtain⟨s8,H8⟩:∃ T,Hid (Id.want s7 Id.aQ=T):=⟨_,hid rfl⟩;have HF:Hid (Id.method (r,false)=(⟨n2,n3,ew,n1,nu⟩,s8)):=hid (by simp only[Id.method,H1w.out,H2.out,H3.out,H4.out,H5.out,HEW.out,H6.out,H7.out,H8.out]);replace HRL:=hid (by have:=HRL.out;rw[HF.out]at this;exact this);replace HRG:=hid (by have:=HRG.out;rw[HF.out]at this;exact this);have hrl:=HRL.out;simp only at hrl;replace HRG:Hid (s8.2=false->s8.1.length<r.length):=HRG;have HNX:=hid (Id.iW HO.out HI.out HF.out);have HBl:=hid ((Below.refl wr.heap.size wr).alloc (xB _) (.cells #[.string ⟨#[]⟩,.string ⟨#[]⟩,.int .u8 0,.string ⟨#[]⟩,.string ⟨#[]⟩] 180));have hec:=Id.DY (HA.out.at_.well HC.out.well) HY.out;rw[H1w.out]at hec;go_wp2_with fail;refine(HC.out.text _ (HBW.out.trans (HBl.out.mono jf)) j _ HA.out.at_).mono ?_;rintro e wq⟨rfl,hw⟩;obtain rfl:=hw.symm;rw[HY.out];clear HBl;rcases hec with⟨tg,tt,tn,hwd⟩|⟨hty,t,r',hr',hwd⟩
  ·injection hwd with e1 e2
   subst e1 e2;have hs:=H2.out;rw[Id.Fj rfl]at hs;injection hs with e1 e2
   subst e1 e2;have hs:=H3.out;rw[Id.QG rfl]at hs;injection hs with e1 e2
   subst e1 e2;have hs:=H4.out;rw[Id.oh rfl]at hs;subst hs;have hs:=H5.out;rw[Id.BZ rfl]at hs;injection hs with e1 e2
   subst e1 e2;have hs:Id.take ((r,true):Id.St) Id.iI=(false,(r,true)):=rfl;rw[H6.out]at hs;injection hs with e1 e2
   subst e1 e2;have hs:=H7.out;simp only[Bool.false_eq_true,if_false]at hs;injection hs with e1 e2
   subst e1 e2;have hs:=H8.out;rw[Id.oh rfl]at hs;subst hs;have HRb:=hid (HNX.out.2 rfl);have HA6:=hid HA.out.at_.fault;have HB6:=hid (HA.out.bel.trans (((Below.refl wr.heap.size wr).alloc (xB _) (.cells #[.string ⟨#[]⟩,.string ⟨#[]⟩,.int .u8 0,.string y,.string ⟨#[]⟩] 180)).mono hbz));go_wp2_with fail;go_ret2;exact⟨_,_,[],rfl,by rw[HRb.out];exact HA6.out,HB6.out,ah.nil _ _ _ _ _,λe=>by rw[HRb.out]at e;cases e⟩
  injection hwd with e1 e2
  subst e1 e2 hr';have hi1:=HA.out.at_.next;rcases hty with tg|⟨tg,tt⟩|⟨tg,tt,tn⟩
  all_goals
   have HBl:=hid ((Below.refl wr.heap.size wr).alloc (xB _) (.cells #[.string ⟨#[]⟩,.string ⟨#[]⟩,.int .u8 0,.string n1,.string ⟨#[]⟩] 180));go_wp2_with fail;refine(HC.out.name _ (HBW.out.trans (HBl.out.mono jf)) (j+1) _ hi1).mono ?_;rintro e wq⟨i2,rfl,hi2,hw⟩;obtain rfl:=hw.symm;rw[H2.out]at hi2 ⊢;simp only at hi2 ⊢;clear HBl;go_wp2_with fail;have hq:=Bk.new wr 180 #[.string n2,.string ⟨#[]⟩,.int .u8 0,.string n1,.string ⟨#[]⟩];have HBl:=hid ((Below.refl wr.heap.size wr).alloc (xB _) (.cells #[.string n2,.string ⟨#[]⟩,.int .u8 0,.string n1,.string ⟨#[]⟩] 180));generalize(wr.alloc (.cells #[.string n2,.string ⟨#[]⟩,.int .u8 0,.string n1,.string ⟨#[]⟩] 180))=W1 at *;refine(wO w0 A l n c HC.out i2 _ hi2 _ (HBW.out.trans (HBl.out.mono jf))).mono ?_;rintro e wq⟨i3,rfl,hi3,hw⟩;obtain rfl:=hw.symm;rw[H3.out]at hi3 ⊢;simp only at hi3 ⊢;obtain⟨⟨f0,f1,f2,f3,f4⟩,g0,g1,g2,g3,g4⟩:=hq.k5;go_wp2_with fail;clear f0 f1 f2 f3 f4 g0 g1 g2 g3 g4;replace HBl:=hid (HBl.out.setCell (p:=⟨wr.heap.size,1,none⟩) (xB _) (.string n3));replace hq:Bk (W1.setCell ⟨wr.heap.size,1,none⟩ (.string n3)) wr.heap.size 180 #[.string n2,.string n3,.int .u8 0,.string n1,.string ⟨#[]⟩]:=hq.aA 1 (.string n3);generalize(W1.setCell ⟨wr.heap.size,1,none⟩ (.string n3))=W2 at *;refine(HC.out.step _ (HBW.out.trans (HBl.out.mono jf)) i3 _ hi3 Id.jw (by rw[Id.Oa];simp)).mono ?_;rintro e wq⟨i4,rfl,hi4,hw⟩;obtain rfl:=hw.symm;rw[H4.out]at hi4;obtain⟨U9,U8⟩:=HC.out.bound hi4;obtain⟨r4,Ua⟩:=s4;cases Ua
   case true =>
    have hs:=H5.out;rw[Id.BZ rfl]at hs;injection hs with e1 e2
    subst e1 e2;have hs:Id.take ((r4,true):Id.St) Id.iI=(false,(r4,true)):=rfl;rw[H6.out]at hs;injection hs with e1 e2
    subst e1 e2;have hs:=H7.out;simp only[Bool.false_eq_true,if_false]at hs;injection hs with e1 e2
    subst e1 e2;have RQ:Id.endW ⟨#[]⟩=0:=Id.vU (by decide);rw[HEW.out]at RQ;subst RQ;have hj7:=hi4.bad rfl;have hj8:decide (0<=i4)=false:=by simp;omega
    have hj9:¬0<=i4:=by omega
    have hi7:=hi4;go_wp2_with fail;refine(HC.out.step _ (HBW.out.trans (HBl.out.mono jf)) i4 _ hi7 Id.aQ (by rw[Id.ni];simp)).mono ?_;rintro e wq⟨i8,rfl,hi8,hw⟩;obtain rfl:=hw.symm;rw[H8.out]at hi8;obtain⟨⟨f0,f1,f2,f3,f4⟩,g0,g1,g2,g3,g4⟩:=hq.k5;have HRO:=hid (ah.below HA.out.row HBl.out Id.dV.kp);have hsz:=HBl.out.size;go_wp2_with(at_builtin;go_must(refine aI rfl _ _ _ rfl w.heap.size 180 _ 5 72 Tryz.underlying99 Id.nS rfl (by decide) Id.dV lv acc rfl HRO.out [.string n2,.string n3,.int .u8 0,.string n1,.string ⟨#[]⟩] rfl _ rfl rfl (by simp[Value.oneCell']) (by simp only[maxLen];omega) (by omega) (by omega) ?_);intro v' w9 dX hb9 ho9;have fV:=hid dX;have HB9:=hid ((HA.out.bel.trans (HBl.out.mono hbz)).trans hb9);have HO9:=hid ho9;clear dX hb9 ho9);have hnx:=Id.iW HO.out HI.out HF.out;go_roundg f
    case rel=>exact⟨_,s8,acc++[⟨n2,n3,0,n1,⟨#[]⟩⟩],v',rfl,rfl,hid ⟨hi8,λhb=>by have:=HRG.out hb;omega,by omega,λhb=>by have:=HRG.out hb;simp;omega,HB9.out,fV.out ⟨n2,n3,0,n1,⟨#[]⟩⟩ Id.dV.kp rfl,hnx.1,hnx.2⟩⟩
    case measure=>omega
   have hj7:=(hi4.good rfl).1;have hj8:decide (0<=i4)=true:=by simpa using hj7
   obtain⟨y4,HY4⟩:∃ y,Hid (Id.word (r4,false)=y):=⟨_,hid rfl⟩;have RH:=Id.EO (hi4.well HC.out.well) HY4.out;rw[H5.out]at RH;go_wp2_with fail;refine(HC.out.text _ (HBW.out.trans (HBl.out.mono jf)) i4 _ hi4).mono ?_;rintro e wq⟨rfl,hw⟩;obtain rfl:=hw.symm;rw[HY4.out];rcases RH with⟨ti,t_o,hwd⟩|⟨ti,hew,t4,r4',hr4,hwd⟩|⟨ti,t_o,hew,t4,r4',hr4,hwd⟩
   case inl =>
    injection hwd with e1 e2
    subst e1 e2;have hs:Id.take ((r4,true):Id.St) Id.iI=(false,(r4,true)):=rfl;rw[H6.out]at hs;injection hs with e1 e2
    subst e1 e2;have hs:=H7.out;simp only[Bool.false_eq_true,if_false]at hs;injection hs with e1 e2
    subst e1 e2;have hs:=H8.out;rw[Id.oh rfl]at hs;subst hs;have HRb:=hid (HNX.out.2 rfl);have HI6:=hid hi4.fault;clear hi4;go_wp2_with fail;go_ret2;exact⟨_,_,[],rfl,by rw[HRb.out];exact HI6.out,HA.out.bel.trans (HBl.out.mono hbz),ah.nil _ _ _ _ _,λe=>by rw[HRb.out]at e;cases e⟩
   all_goals
    injection hwd with e1 e2
    subst e1 e2 hr4;rw[HEW.out]at hew;subst hew;have hi5:=hi4.next;have hj9:=(hi5.good rfl).1;have U2:decide (0<=i4+1)=true:=by simpa using hj9
    have HIU:=hid (Id.uU (s:=(r4',false)) (x:=Id.iI) (by rw[Id.uM];simp));obtain⟨y5,HY5⟩:∃ y,Hid (Id.word (r4',false)=y):=⟨_,hid rfl⟩
   case inr.inl =>
    obtain⟨⟨f0,f1,f2,f3,f4⟩,g0,g1,g2,g3,g4⟩:=hq.k5;go_wp2_with fail;clear f0 f1 f2 f3 f4 g0 g1 g2 g3 g4;replace HBl:=hid (HBl.out.setCell (p:=⟨wr.heap.size,2,none⟩) (xB _) (.int .u8 3));replace hq:Bk (W2.setCell ⟨wr.heap.size,2,none⟩ (.int .u8 3)) wr.heap.size 180 #[.string n2,.string n3,.int .u8 3,.string n1,.string ⟨#[]⟩]:=hq.aA 2 (.int .u8 3);generalize(W2.setCell ⟨wr.heap.size,2,none⟩ (.int .u8 3))=W3 at *;refine(HC.out.text _ (HBW.out.trans (HBl.out.mono jf)) (i4+1) _ hi5).mono ?_;rintro e wq⟨rfl,hw⟩;obtain rfl:=hw.symm;rw[HY5.out];cases hu:(y5.toList==[117,110,100,111])
    ·have hs:Id.take (r4',false) Id.iI=(false,(r4',false)):=by unfold Id.take;rw[HIU.out,HY5.out,Id.uM,hu];rfl
     rw[H6.out]at hs;injection hs with e1 e2
     subst e1 e2;have hs:=H7.out;simp only[Bool.false_eq_true,if_false]at hs;injection hs with e1 e2
     subst e1 e2;have hi7:=hi5;go_wp2_with fail;refine(HC.out.step _ (HBW.out.trans (HBl.out.mono jf)) (i4+1) _ hi7 Id.aQ (by rw[Id.ni];simp)).mono ?_;rintro e wq⟨i8,rfl,hi8,hw⟩;obtain rfl:=hw.symm;rw[H8.out]at hi8;obtain⟨⟨f0,f1,f2,f3,f4⟩,g0,g1,g2,g3,g4⟩:=hq.k5;have HRO:=hid (ah.below HA.out.row HBl.out Id.dV.kp);have hsz:=HBl.out.size;go_wp2_with(at_builtin;go_must(refine aI rfl _ _ _ rfl w.heap.size 180 _ 5 72 Tryz.underlying99 Id.nS rfl (by decide) Id.dV lv acc rfl HRO.out [.string n2,.string n3,.int .u8 3,.string n1,.string ⟨#[]⟩] rfl _ rfl rfl (by simp[Value.oneCell']) (by simp only[maxLen];omega) (by omega) (by omega) ?_);intro v' w9 dX hb9 ho9;have fV:=hid dX;have HB9:=hid ((HA.out.bel.trans (HBl.out.mono hbz)).trans hb9);have HO9:=hid ho9;clear dX hb9 ho9);have hnx:=Id.iW HO.out HI.out HF.out;go_roundg f
     case rel=>exact⟨_,s8,acc++[⟨n2,n3,3,n1,⟨#[]⟩⟩],v',rfl,rfl,hid ⟨hi8,λhb=>by have:=HRG.out hb;omega,by omega,λhb=>by have:=HRG.out hb;simp;omega,HB9.out,fV.out ⟨n2,n3,3,n1,⟨#[]⟩⟩ Id.dV.kp rfl,hnx.1,hnx.2⟩⟩
     case measure=>omega
    ·have hiu:Id.is (r4',false) Id.iI=true:=by rw[HIU.out,HY5.out,Id.uM,hu]
     obtain⟨t5,r5,hr5⟩:=Id.pI hiu;injection hr5 with hr5 _
     subst hr5;have hs:Id.take (t5::r5,false) Id.iI=(true,(r5,false)):=by unfold Id.take;rw[hiu];rfl
     rw[H6.out]at hs;injection hs with e1 e2
     subst e1 e2;have hi6:=hi5.next;replace H7:Hid (Id.name (r5,false)=(nu,s7)):=hid (by have:=H7.out;simpa using this);clear hiu;go_wp2_with fail;refine(HC.out.name _ (HBW.out.trans (HBl.out.mono jf)) (i4+1+1) _ hi6).mono ?_;rintro e wq⟨i7,rfl,hi7,hw⟩;obtain rfl:=hw.symm;rw[H7.out]at hi7 ⊢;simp only at hi7 ⊢;obtain⟨⟨f0,f1,f2,f3,f4⟩,g0,g1,g2,g3,g4⟩:=hq.k5;go_wp2_with fail;clear f0 f1 f2 f3 f4 g0 g1 g2 g3 g4;replace HBl:=hid (HBl.out.setCell (p:=⟨wr.heap.size,4,none⟩) (xB _) (.string nu));replace hq:Bk (W3.setCell ⟨wr.heap.size,4,none⟩ (.string nu)) wr.heap.size 180 #[.string n2,.string n3,.int .u8 3,.string n1,.string nu]:=hq.aA 4 (.string nu);generalize(W3.setCell ⟨wr.heap.size,4,none⟩ (.string nu))=W4 at *;refine(HC.out.step _ (HBW.out.trans (HBl.out.mono jf)) i7 _ hi7 Id.aQ (by rw[Id.ni];simp)).mono ?_;rintro e wq⟨i8,rfl,hi8,hw⟩;obtain rfl:=hw.symm;rw[H8.out]at hi8;obtain⟨⟨f0,f1,f2,f3,f4⟩,g0,g1,g2,g3,g4⟩:=hq.k5;have HRO:=hid (ah.below HA.out.row HBl.out Id.dV.kp);have hsz:=HBl.out.size;go_wp2_with(at_builtin;go_must(refine aI rfl _ _ _ rfl w.heap.size 180 _ 5 72 Tryz.underlying99 Id.nS rfl (by decide) Id.dV lv acc rfl HRO.out [.string n2,.string n3,.int .u8 3,.string n1,.string nu] rfl _ rfl rfl (by simp[Value.oneCell']) (by simp only[maxLen];omega) (by omega) (by omega) ?_);intro v' w9 dX hb9 ho9;have fV:=hid dX;have HB9:=hid ((HA.out.bel.trans (HBl.out.mono hbz)).trans hb9);have HO9:=hid ho9;clear dX hb9 ho9);have hnx:=Id.iW HO.out HI.out HF.out;go_roundg f
     case rel=>exact⟨_,s8,acc++[⟨n2,n3,3,n1,nu⟩],v',rfl,rfl,hid ⟨hi8,λhb=>by have:=HRG.out hb;omega,by omega,λhb=>by have:=HRG.out hb;simp;omega,HB9.out,fV.out ⟨n2,n3,3,n1,nu⟩ Id.dV.kp rfl,hnx.1,hnx.2⟩⟩
     case measure=>omega
   case inr.inr =>
    obtain⟨⟨f0,f1,f2,f3,f4⟩,g0,g1,g2,g3,g4⟩:=hq.k5;go_wp2_with fail;clear f0 f1 f2 f3 f4 g0 g1 g2 g3 g4;replace HBl:=hid (HBl.out.setCell (p:=⟨wr.heap.size,2,none⟩) (xB _) (.int .u8 1));replace hq:Bk (W2.setCell ⟨wr.heap.size,2,none⟩ (.int .u8 1)) wr.heap.size 180 #[.string n2,.string n3,.int .u8 1,.string n1,.string ⟨#[]⟩]:=hq.aA 2 (.int .u8 1);generalize(W2.setCell ⟨wr.heap.size,2,none⟩ (.int .u8 1))=W3 at *;refine(HC.out.text _ (HBW.out.trans (HBl.out.mono jf)) (i4+1) _ hi5).mono ?_;rintro e wq⟨rfl,hw⟩;obtain rfl:=hw.symm;rw[HY5.out];cases hu:(y5.toList==[117,110,100,111])
    ·have hs:Id.take (r4',false) Id.iI=(false,(r4',false)):=by unfold Id.take;rw[HIU.out,HY5.out,Id.uM,hu];rfl
     rw[H6.out]at hs;injection hs with e1 e2
     subst e1 e2;have hs:=H7.out;simp only[Bool.false_eq_true,if_false]at hs;injection hs with e1 e2
     subst e1 e2;have hi7:=hi5;go_wp2_with fail;refine(HC.out.step _ (HBW.out.trans (HBl.out.mono jf)) (i4+1) _ hi7 Id.aQ (by rw[Id.ni];simp)).mono ?_;rintro e wq⟨i8,rfl,hi8,hw⟩;obtain rfl:=hw.symm;rw[H8.out]at hi8;obtain⟨⟨f0,f1,f2,f3,f4⟩,g0,g1,g2,g3,g4⟩:=hq.k5;have HRO:=hid (ah.below HA.out.row HBl.out Id.dV.kp);have hsz:=HBl.out.size;go_wp2_with(at_builtin;go_must(refine aI rfl _ _ _ rfl w.heap.size 180 _ 5 72 Tryz.underlying99 Id.nS rfl (by decide) Id.dV lv acc rfl HRO.out [.string n2,.string n3,.int .u8 1,.string n1,.string ⟨#[]⟩] rfl _ rfl rfl (by simp[Value.oneCell']) (by simp only[maxLen];omega) (by omega) (by omega) ?_);intro v' w9 dX hb9 ho9;have fV:=hid dX;have HB9:=hid ((HA.out.bel.trans (HBl.out.mono hbz)).trans hb9);have HO9:=hid ho9;clear dX hb9 ho9);have hnx:=Id.iW HO.out HI.out HF.out;go_roundg f
     case rel=>exact⟨_,s8,acc++[⟨n2,n3,1,n1,⟨#[]⟩⟩],v',rfl,rfl,hid ⟨hi8,λhb=>by have:=HRG.out hb;omega,by omega,λhb=>by have:=HRG.out hb;simp;omega,HB9.out,fV.out ⟨n2,n3,1,n1,⟨#[]⟩⟩ Id.dV.kp rfl,hnx.1,hnx.2⟩⟩
     case measure=>omega
    ·have hiu:Id.is (r4',false) Id.iI=true:=by rw[HIU.out,HY5.out,Id.uM,hu]
     obtain⟨t5,r5,hr5⟩:=Id.pI hiu;injection hr5 with hr5 _
     subst hr5;have hs:Id.take (t5::r5,false) Id.iI=(true,(r5,false)):=by unfold Id.take;rw[hiu];rfl
     rw[H6.out]at hs;injection hs with e1 e2
     subst e1 e2;have hi6:=hi5.next;replace H7:Hid (Id.name (r5,false)=(nu,s7)):=hid (by have:=H7.out;simpa using this);clear hiu;go_wp2_with fail;refine(HC.out.name _ (HBW.out.trans (HBl.out.mono jf)) (i4+1+1) _ hi6).mono ?_;rintro e wq⟨i7,rfl,hi7,hw⟩;obtain rfl:=hw.symm;rw[H7.out]at hi7 ⊢;simp only at hi7 ⊢;obtain⟨⟨f0,f1,f2,f3,f4⟩,g0,g1,g2,g3,g4⟩:=hq.k5;go_wp2_with fail;clear f0 f1 f2 f3 f4 g0 g1 g2 g3 g4;replace HBl:=hid (HBl.out.setCell (p:=⟨wr.heap.size,4,none⟩) (xB _) (.string nu));replace hq:Bk (W3.setCell ⟨wr.heap.size,4,none⟩ (.string nu)) wr.heap.size 180 #[.string n2,.string n3,.int .u8 1,.string n1,.string nu]:=hq.aA 4 (.string nu);generalize(W3.setCell ⟨wr.heap.size,4,none⟩ (.string nu))=W4 at *;refine(HC.out.step _ (HBW.out.trans (HBl.out.mono jf)) i7 _ hi7 Id.aQ (by rw[Id.ni];simp)).mono ?_;rintro e wq⟨i8,rfl,hi8,hw⟩;obtain rfl:=hw.symm;rw[H8.out]at hi8;obtain⟨⟨f0,f1,f2,f3,f4⟩,g0,g1,g2,g3,g4⟩:=hq.k5;have HRO:=hid (ah.below HA.out.row HBl.out Id.dV.kp);have hsz:=HBl.out.size;go_wp2_with(at_builtin;go_must(refine aI rfl _ _ _ rfl w.heap.size 180 _ 5 72 Tryz.underlying99 Id.nS rfl (by decide) Id.dV lv acc rfl HRO.out [.string n2,.string n3,.int .u8 1,.string n1,.string nu] rfl _ rfl rfl (by simp[Value.oneCell']) (by simp only[maxLen];omega) (by omega) (by omega) ?_);intro v' w9 dX hb9 ho9;have fV:=hid dX;have HB9:=hid ((HA.out.bel.trans (HBl.out.mono hbz)).trans hb9);have HO9:=hid ho9;clear dX hb9 ho9);have hnx:=Id.iW HO.out HI.out HF.out;go_roundg f
     case rel=>exact⟨_,s8,acc++[⟨n2,n3,1,n1,nu⟩],v',rfl,rfl,hid ⟨hi8,λhb=>by have:=HRG.out hb;omega,by omega,λhb=>by have:=HRG.out hb;simp;omega,HB9.out,fV.out ⟨n2,n3,1,n1,nu⟩ Id.dV.kp rfl,hnx.1,hnx.2⟩⟩
     case measure=>omega
theorem iV{fn:Func}{p u:Tmp}{ty:TypeId}(h:fn.results=#[.cell p ty,.tmp u])(tmps:Array Value)(P:Program)(w:World) :
  (results fn tmps).run P w=((asAddr (tmps.getD p undef)).run P w).andThen λa w₁=>((loadVar ty a).run P w₁).andThen λx w₂=>.ok (.tuple #[x,tmps.getD u undef]) w₂:=by
 simp only[results,h];simp[Sem.run_bind,Result.andThen]
namespace Id
theorem KR:jm.toList=[114,101,99,111,114,100]:=by simp[jm,ByteArray.toList_mk]
theorem KX:jo.toList=[99,104,111,105,99,101]:=by simp[jo,ByteArray.toList_mk]
theorem I7:iL.toList=[115,101,114,118,105,99,101]:=by simp[iL,ByteArray.toList_mk]
theorem PD:lT.toList=[115,97,103,97]:=by simp[lT,ByteArray.toList_mk]
theorem KU:fP.toList=[109,111,100,117,108,101]:=by simp[fP,ByteArray.toList_mk]
theorem JI{r:List Tk.Tok}{y:ByteArray}(hw:∀ t r',r=t::r'->t.kind=1∨t.kind=2∨(t.kind=3/\t.text.size<=2))(hy:word (r,false)=y) :
  ((y.toList==[114,101,99,111,114,100])=false/\(y.toList==[99,104,111,105,99,101])=false/\(y.toList==[115,101,114,118,105,99,101])=false/\(y.toList==[115,97,103,97])=false/\words decls (r,false)=(⟨#[]⟩,(r,true)))∨
  (((y.toList==[114,101,99,111,114,100])=true∨((y.toList==[114,101,99,111,114,100])=false/\(y.toList==[99,104,111,105,99,101])=true)∨((y.toList==[114,101,99,111,114,100])=false/\(y.toList==[99,104,111,105,99,101])=false/\(y.toList==[115,101,114,118,105,99,101])=true)∨((y.toList==[114,101,99,111,114,100])=false/\(y.toList==[99,104,111,105,99,101])=false/\(y.toList==[115,101,114,118,105,99,101])=false/\(y.toList==[115,97,103,97])=true))/\∃ t r',r=t::r'/\words decls (r,false)=(y,(r',false))):=by
 have hx:=uV (ws:=decls) hw (by intro x hx;simp[decls]at hx;rcases hx with rfl|rfl|rfl|rfl<;>decide);rw[hy]at hx;simp only[decls,List.any_cons,List.any_nil,Bool.or_false,KR,KX,I7,PD]at hx;have hne:∀ x:List UInt8,x≠[]->(y.toList==x)=true->∃ t r',r=t::r':=λx h0 h=>by
  cases r with
  |nil =>
   have:y=⟨#[]⟩:=hy.symm;rw[this,iG]at h;exact absurd (beq_iff_eq.1 h).symm h0
  |cons t r'=>exact⟨t,r',rfl⟩
 cases h1:(y.toList==[114,101,99,111,114,100])
 ·cases h2:(y.toList==[99,104,111,105,99,101])
  ·cases h3:(y.toList==[115,101,114,118,105,99,101])
   ·cases h4:(y.toList==[115,97,103,97])
    ·rw[h1,h2,h3,h4]at hx
     exact .inl ⟨rfl,rfl,rfl,rfl,hx⟩
    ·obtain⟨t,r',rfl⟩:=hne _ (by simp) h4
     rw[h1,h2,h3,h4]at hx;exact .inr ⟨.inr (.inr (.inr ⟨rfl,rfl,rfl,rfl⟩)),t,r',rfl,hx⟩
   ·obtain⟨t,r',rfl⟩:=hne _ (by simp) h3
    rw[h1,h2,h3]at hx;exact .inr ⟨.inr (.inr (.inl ⟨rfl,rfl,rfl⟩)),t,r',rfl,hx⟩
  ·obtain⟨t,r',rfl⟩:=hne _ (by simp) h2
   rw[h1,h2]at hx;exact .inr ⟨.inr (.inl ⟨rfl,rfl⟩),t,r',rfl,hx⟩
 ·obtain⟨t,r',rfl⟩:=hne _ (by simp) h1
  rw[h1]at hx;exact .inr ⟨.inl rfl,t,r',rfl,hx⟩
theorem jI(f:Nat){s:St}(x:Sch)(h:s.2=true):cO f s x=(x,s):=by
 cases f with
 |zero=>rfl
 |succ f=>unfold cO;rw[if_pos (.inl h)]
theorem rO{f:Nat}{t:Tk.Tok}{r:List Tk.Tok}{x:Sch}{y:ByteArray}{s4:St}(hw:words decls (t::r,false)=(y,s4)):cO (f+1) (t::r,false) x =
  if y.toList=[114,101,99,111,114,100]then cO f (record false s4).2 { x with records:=x.records++[(record false s4).1] }else
  if y.toList=[99,104,111,105,99,101]then cO f (record true s4).2 { x with records:=x.records++[(record true s4).1] }else
  if y.toList=[115,101,114,118,105,99,101]then cO f (service s4).2 { x with services:=x.services++[(service s4).1] }else
  if y.toList=[115,97,103,97]then cO f (saga s4).2 { x with sagas:=x.sagas++[(saga s4).1] }else
  cO f s4 x:=by
 rw[cO,if_neg (by simp),hw]
def Tq(w:World)(l:List Tk.Tok)(R:Sch × St)(e:Ending)(w':World):Prop:=∃ v i' x,e=.returned (.tuple #[v,.int .i64 i'])/\At l i' R.2/\Below w.heap.size w w'/\ay w' (some w.heap.size) v x/\(R.2.2=false->x=R.1)
structure Sl(w:World)(l:List Tk.Tok)(R:Sch × St)(n:Nat)(i:Int)(wr:World)(s:St)(x:Sch):Prop where
 at_:At l i s
 fu:s.2=false->s.1.length+2<=n
 fo:1<=n
 ln:s.2=false->x.records.length+x.services.length+x.sagas.length+s.1.length<=1000000
 bel:Below w.heap.size w wr
 res:Bk wr w.heap.size 28 #[.string ⟨#[]⟩,.slice none 0 0,.slice none 0 0,.slice none 0 0]
 blk:sJ wr (w.heap.size+1) w.heap.size x
 out:s.2=false->cO n s x=R
 bad:s.2=true->R.2=s
end Id
theorem Gm(A:Option Addr)(l:List Tk.Tok)(n c:Nat)(w:World)(hrc:Id.RC w A l n c) :
  Calls Tryz.prog 185 #[.slice A n c] w (Id.Tq w l (Id.schema (l,false))):=by
 obtain⟨R,HR⟩:∃ R,Hid (Id.schema (l,false)=R):=⟨_,hid rfl⟩;rw[HR.out];have HC:=hid hrc;obtain⟨s1,H1⟩:∃ R,Hid (Id.want (l,false) Id.fP=R):=⟨_,hid rfl⟩;obtain⟨⟨nm,s2⟩,H2⟩:∃ R,Hid (Id.name s1=R):=⟨_,hid rfl⟩;obtain⟨s3,H3⟩:∃ R,Hid (Id.want s2 Id.aQ=R):=⟨_,hid rfl⟩;have HR0:Hid (Id.cO (s3.1.length+2) s3 ⟨nm,[],[],[]⟩=R):=hid (by rw[<-HR.out];unfold Id.schema;simp only[H1.out,H2.out,H3.out]);clear hrc;go_enter Tryz.func185,Tryz.ntmps185;go_wp2_with fail;refine(HC.out.step _ (((Below.refl w.heap.size w).alloc (xB _) _).alloc (by simp) _) 0 _ (Id.At.zero l) Id.fP (by rw[Id.KU];simp)).mono ?_;rintro e wq⟨i1,rfl,hi1,hw⟩;obtain rfl:=hw.symm;rw[H1.out]at hi1;go_wp2_with fail;refine(HC.out.name _ (((Below.refl w.heap.size w).alloc (xB _) _).alloc (by simp) _) i1 _ hi1).mono ?_;rintro e wq⟨i2,rfl,hi2,hw⟩;obtain rfl:=hw.symm;rw[H2.out]at hi2 ⊢;simp only at hi2 ⊢;go_wp2_with fail;have hq:=Bk.new (w.alloc (.cells #[.string ⟨#[]⟩,.slice none 0 0,.slice none 0 0,.slice none 0 0] 28)) 28 #[.string nm,.slice none 0 0,.slice none 0 0,.slice none 0 0];rw[World.size_alloc]at hq;have hres:=(Bk.new w 28 #[.string ⟨#[]⟩,.slice none 0 0,.slice none 0 0,.slice none 0 0]).alloc (.cells #[.string nm,.slice none 0 0,.slice none 0 0,.slice none 0 0] 28);have HBl:=hid (((Below.refl w.heap.size w).alloc (xB _) (.cells #[.string ⟨#[]⟩,.slice none 0 0,.slice none 0 0,.slice none 0 0] 28)).alloc (by simp) (.cells #[.string nm,.slice none 0 0,.slice none 0 0,.slice none 0 0] 28));generalize((w.alloc (.cells #[.string ⟨#[]⟩,.slice none 0 0,.slice none 0 0,.slice none 0 0] 28)).alloc (.cells #[.string nm,.slice none 0 0,.slice none 0 0,.slice none 0 0] 28))=W1 at *;refine(HC.out.step _ HBl.out i2 _ hi2 Id.aQ (by rw[Id.ni];simp)).mono ?_;rintro e wq⟨i3,rfl,hi3,hw⟩;obtain rfl:=hw.symm;rw[H3.out]at hi3;have HA0:=hid (show Id.Sl w l R (s3.1.length+2) i3 W1 s3 ⟨nm,[],[],[]⟩from⟨hi3,λ_=>xB _,by omega,λ_=>by have:=hi3.left;have:=HC.out.le;simp;omega,HBl.out,hres,⟨_,_,_,_,_,_,_,_,_,hq,ah.nil _ _ _ _ _,ah.nil _ _ _ _ _,ah.nil _ _ _ _ _⟩,λ_=>HR0.out,λhb=>by rw[<-HR0.out,Id.jI _ _ hb]⟩);clear hq hres hi3 hi2 hi1 HBl;go_wp2_with fail;go_loopg [5] (s3.1.length+2) (λm vi wr=>∃(j:Int)(s:Id.St)(x:Id.Sch),vi=.int .i64 j/\Hid (Id.Sl w l R m j wr s x))
 case atStart=>exact⟨i3,s3,_,rfl,HA0⟩
 case round =>
  obtain⟨j,s,x,rfl,HA⟩:=hrel;obtain⟨f,rfl⟩:∃ f,gk=f+1:=⟨gk - 1,by have:=HA.out.fo;omega⟩;have hln:=HA.out.ln;have hfu:=HA.out.fu;have hbz:=HA.out.bel.size;have hne:¬w.heap.size+1=w.heap.size:=by omega
  obtain⟨hj1,hj2⟩:=HC.out.bound HA.out.at_;obtain⟨A1,n1,c1,A2,n2,c2,A3,n3,c3,hq,r1,r2,r3⟩:=HA.out.blk;have hres:=HA.out.res;have HR1:=hid r1;have HR2:=hid r2;have HR3:=hid r3;clear r1 r2 r3;obtain⟨r,bad⟩:=s;obtain⟨xn,xr,xv,xg⟩:=x;simp only at hln hfu hq HR1 HR2 HR3;cases bad
  case true =>
   have hj3:=HA.out.at_.bad rfl;have hj4:decide (0<=j)=false:=by simp;omega
   have hj5:¬0<=j:=by omega
   have HRb:=hid (HA.out.bad rfl);clear hfu hln;obtain⟨⟨q0,q1,q2,q3⟩,q4,q5,q6,q7⟩:=hq.k4;obtain⟨⟨y0,y1,y2,y3⟩,y4,y5,y6,y7⟩:=hres.k4;go_wp2_with fail;clear q0 q1 q2 q3 q4 q5 q6 q7 y0 y1 y2 y3 y4 y5 y6 y7;have hqf:Bk _ w.heap.size 28 #[.string xn,.slice A1 n1 c1,.slice A2 n2 c2,.slice A3 n3 c3]:=((((hres.aA 0 (.string xn)).aA 1 (.slice A1 n1 c1)).aA 2 (.slice A2 n2 c2)).aA 3 (.slice A3 n3 c3));have hBf:=((((HA.out.bel.setCell (p:=⟨w.heap.size,0,none⟩) (xB _) (.string xn)).setCell (p:=⟨w.heap.size,1,none⟩) (xB _) (.slice A1 n1 c1)).setCell (p:=⟨w.heap.size,2,none⟩) (xB _) (.slice A2 n2 c2)).setCell (p:=⟨w.heap.size,3,none⟩) (xB _) (.slice A3 n3 c3));have hof:=((((Only.set hres 0 (.string xn)).trans (Only.set (hres.aA 0 (.string xn)) 1 (.slice A1 n1 c1))).trans (Only.set ((hres.aA 0 (.string xn)).aA 1 (.slice A1 n1 c1)) 2 (.slice A2 n2 c2))).trans (Only.set (((hres.aA 0 (.string xn)).aA 1 (.slice A1 n1 c1)).aA 2 (.slice A2 n2 c2)) 3 (.slice A3 n3 c3)));have hk:=hof.kp w.heap.size (T:=Id.qJ) (by decide);have g1:=HR1.out.kp hk (xB _) (by decide) (by decide) (by decide);have g2:=HR2.out.kp hk (xB _) (by decide) (by decide);have g3:=HR3.out.kp hk (xB _) (by decide) (by decide);generalize((((wr.setCell ⟨w.heap.size,0,none⟩ (.string xn)).setCell ⟨w.heap.size,1,none⟩ (.slice A1 n1 c1)).setCell ⟨w.heap.size,2,none⟩ (.slice A2 n2 c2)).setCell ⟨w.heap.size,3,none⟩ (.slice A3 n3 c3))=wf at *;obtain⟨⟨y0,y1,y2,y3⟩,_⟩:=hqf.k4;refine bodyPost_ret (v:=.tuple #[.agg #[.string xn,.slice A1 n1 c1,.slice A2 n2 c2,.slice A3 n3 c3],.int .i64 j]) ?_ rfl ⟨_,_,⟨xn,xr,xv,xg⟩,rfl,by rw[HRb.out];exact HA.out.at_,hBf,⟨_,_,_,_,_,_,_,_,_,rfl,g1,g2,g3⟩,λe=>by rw[HRb.out]at e;cases e⟩;rw[iV rfl];go_simp;try rfl
  obtain⟨hj3,hj3'⟩:=HA.out.at_.good rfl;have hj4:decide (0<=j)=true:=by simpa using hj3
  have HO:=hid (HA.out.out rfl);replace hfu:=hfu rfl;replace hln:=hln rfl;cases r
  case nil =>
   have HE:Hid (R=(⟨xn,xr,xv,xg⟩,([],false))):=hid (by rw[<-HO.out];unfold Id.cO;simp);have hj5:j=n:=by
    rcases HA.out.at_.cases with⟨hb,_⟩|⟨_,e⟩|⟨k,hk,e,_⟩
    ·cases hb
    ·rw[HC.out.len];exact e
    ·cases e
   have hj6:decide (j<(n:Int))=false:=by simp;omega
   have hj7:¬j<(n:Int):=by omega
   clear hj5;obtain⟨⟨q0,q1,q2,q3⟩,q4,q5,q6,q7⟩:=hq.k4;obtain⟨⟨y0,y1,y2,y3⟩,y4,y5,y6,y7⟩:=hres.k4;go_wp2_with fail;clear q0 q1 q2 q3 q4 q5 q6 q7 y0 y1 y2 y3 y4 y5 y6 y7;have hqf:Bk _ w.heap.size 28 #[.string xn,.slice A1 n1 c1,.slice A2 n2 c2,.slice A3 n3 c3]:=((((hres.aA 0 (.string xn)).aA 1 (.slice A1 n1 c1)).aA 2 (.slice A2 n2 c2)).aA 3 (.slice A3 n3 c3));have hBf:=((((HA.out.bel.setCell (p:=⟨w.heap.size,0,none⟩) (xB _) (.string xn)).setCell (p:=⟨w.heap.size,1,none⟩) (xB _) (.slice A1 n1 c1)).setCell (p:=⟨w.heap.size,2,none⟩) (xB _) (.slice A2 n2 c2)).setCell (p:=⟨w.heap.size,3,none⟩) (xB _) (.slice A3 n3 c3));have hof:=((((Only.set hres 0 (.string xn)).trans (Only.set (hres.aA 0 (.string xn)) 1 (.slice A1 n1 c1))).trans (Only.set ((hres.aA 0 (.string xn)).aA 1 (.slice A1 n1 c1)) 2 (.slice A2 n2 c2))).trans (Only.set (((hres.aA 0 (.string xn)).aA 1 (.slice A1 n1 c1)).aA 2 (.slice A2 n2 c2)) 3 (.slice A3 n3 c3)));have hk:=hof.kp w.heap.size (T:=Id.qJ) (by decide);have g1:=HR1.out.kp hk (xB _) (by decide) (by decide) (by decide);have g2:=HR2.out.kp hk (xB _) (by decide) (by decide);have g3:=HR3.out.kp hk (xB _) (by decide) (by decide);generalize((((wr.setCell ⟨w.heap.size,0,none⟩ (.string xn)).setCell ⟨w.heap.size,1,none⟩ (.slice A1 n1 c1)).setCell ⟨w.heap.size,2,none⟩ (.slice A2 n2 c2)).setCell ⟨w.heap.size,3,none⟩ (.slice A3 n3 c3))=wf at *;obtain⟨⟨y0,y1,y2,y3⟩,_⟩:=hqf.k4;refine bodyPost_ret (v:=.tuple #[.agg #[.string xn,.slice A1 n1 c1,.slice A2 n2 c2,.slice A3 n3 c3],.int .i64 j]) ?_ rfl ⟨_,_,⟨xn,xr,xv,xg⟩,rfl,by rw[HE.out];exact HA.out.at_,hBf,⟨_,_,_,_,_,_,_,_,_,rfl,g1,g2,g3⟩,λe=>by rw[HE.out]⟩;rw[iV rfl];go_simp;try rfl
  case cons t r' =>
   have hj5:j<(n:Int):=by
    rcases HA.out.at_.cases with⟨hb,_⟩|⟨e,_⟩|⟨k,hk,e,e2⟩
    ·cases hb
    ·cases e
    ·rw[HC.out.len];omega
   have hj6:decide (j<(n:Int))=true:=by simpa using hj5
   obtain⟨y,HY⟩:∃ y,Hid (Id.word (t::r',false)=y):=⟨_,hid rfl⟩;have hdc:=Id.JI (HA.out.at_.well HC.out.well) HY.out;simp only[xJ]at hfu hln;go_wp2_with fail;refine(HC.out.text _ HA.out.bel j _ HA.out.at_).mono ?_;rintro e wq⟨rfl,hw⟩;obtain rfl:=hw.symm;rw[HY.out];rcases hdc with⟨tr,tc,ts,ta,hwd⟩|⟨hty,t2,r2,hr2,hwd⟩
   case inl =>
    have hst:=Id.rO (f:=f) (x:=⟨xn,xr,xv,xg⟩) hwd;rw[HO.out,if_neg (by rw[Id.iG];simp),if_neg (by rw[Id.iG];simp),if_neg (by rw[Id.iG];simp),if_neg (by rw[Id.iG];simp),Id.jI _ _ rfl]at hst;have HE:=hid hst;clear hst hwd;obtain⟨⟨q0,q1,q2,q3⟩,q4,q5,q6,q7⟩:=hq.k4;obtain⟨⟨y0,y1,y2,y3⟩,y4,y5,y6,y7⟩:=hres.k4;go_wp2_with fail;clear q0 q1 q2 q3 q4 q5 q6 q7 y0 y1 y2 y3 y4 y5 y6 y7;have hqf:Bk _ w.heap.size 28 #[.string xn,.slice A1 n1 c1,.slice A2 n2 c2,.slice A3 n3 c3]:=((((hres.aA 0 (.string xn)).aA 1 (.slice A1 n1 c1)).aA 2 (.slice A2 n2 c2)).aA 3 (.slice A3 n3 c3));have hBf:=((((HA.out.bel.setCell (p:=⟨w.heap.size,0,none⟩) (xB _) (.string xn)).setCell (p:=⟨w.heap.size,1,none⟩) (xB _) (.slice A1 n1 c1)).setCell (p:=⟨w.heap.size,2,none⟩) (xB _) (.slice A2 n2 c2)).setCell (p:=⟨w.heap.size,3,none⟩) (xB _) (.slice A3 n3 c3));have hof:=((((Only.set hres 0 (.string xn)).trans (Only.set (hres.aA 0 (.string xn)) 1 (.slice A1 n1 c1))).trans (Only.set ((hres.aA 0 (.string xn)).aA 1 (.slice A1 n1 c1)) 2 (.slice A2 n2 c2))).trans (Only.set (((hres.aA 0 (.string xn)).aA 1 (.slice A1 n1 c1)).aA 2 (.slice A2 n2 c2)) 3 (.slice A3 n3 c3)));have hk:=hof.kp w.heap.size (T:=Id.qJ) (by decide);have g1:=HR1.out.kp hk (xB _) (by decide) (by decide) (by decide);have g2:=HR2.out.kp hk (xB _) (by decide) (by decide);have g3:=HR3.out.kp hk (xB _) (by decide) (by decide);generalize((((wr.setCell ⟨w.heap.size,0,none⟩ (.string xn)).setCell ⟨w.heap.size,1,none⟩ (.slice A1 n1 c1)).setCell ⟨w.heap.size,2,none⟩ (.slice A2 n2 c2)).setCell ⟨w.heap.size,3,none⟩ (.slice A3 n3 c3))=wf at *;obtain⟨⟨y0,y1,y2,y3⟩,_⟩:=hqf.k4;refine bodyPost_ret (v:=.tuple #[.agg #[.string xn,.slice A1 n1 c1,.slice A2 n2 c2,.slice A3 n3 c3],.int .i64 (-1 - j)]) ?_ rfl ⟨_,_,⟨xn,xr,xv,xg⟩,rfl,by rw[HE.out];exact HA.out.at_.fault,hBf,⟨_,_,_,_,_,_,_,_,_,rfl,g1,g2,g3⟩,λe=>by rw[HE.out]at e;cases e⟩;rw[iV rfl];go_simp;try rfl
   injection hr2 with e1 e2
   subst e1 e2;have HST:=hid (Id.rO (f:=f) (x:=⟨xn,xr,xv,xg⟩) hwd);have hi4:=HA.out.at_.next;obtain⟨⟨n5,s5⟩,H5⟩:∃ R,Hid (Id.name (r',false)=R):=⟨_,hid rfl⟩;clear hwd;rcases hty with tr|⟨tr,tc⟩|⟨tr,tc,ts⟩|⟨tr,tc,ts,ta⟩
   ·have tc:(y.toList==[99,104,111,105,99,101])=false:=by rw[beq_iff_eq.1 tr];decide
    obtain⟨HSx,hst⟩:∃ _:True,Id.cO f (Id.record false (r',false)).2 { (⟨xn,xr,xv,xg⟩:Id.Sch)with records:=xr++[(Id.record false (r',false)).1] }=R:=⟨trivial,by rw[<-HO.out,HST.out,if_pos (beq_iff_eq.1 tr)]⟩;obtain⟨⟨fs,s6⟩,H6⟩:∃ R,Hid (Id.within Id.field s5=R):=⟨_,hid rfl⟩;have HE:Hid (Id.cO f s6 { (⟨xn,xr,xv,xg⟩:Id.Sch)with records:=xr++[⟨n5,false,fs⟩] }=R):=hid (by rw[<-hst];simp only[Id.record,H5.out,H6.out]);have hl5:=Id.iD (r',false);rw[H5.out]at hl5;have hl6:=Id.lV Id.vT s5;rw[H6.out]at hl6;simp only at hl5 hl6;clear hst HSx;go_wp2_with fail;refine(HC.out.name _ HA.out.bel (j+1) _ hi4).mono ?_;rintro e wq⟨i5,rfl,hi5,hw⟩;obtain rfl:=hw.symm;rw[H5.out]at hi5 ⊢;simp only at hi5 ⊢;go_wp2_with fail;have hg:=Bk.new wr 42 #[.string n5,.bool false,.slice none 0 0];have HBl:=hid ((Below.refl wr.heap.size wr).alloc (xB _) (.cells #[.string n5,.bool false,.slice none 0 0] 42));generalize(wr.alloc (.cells #[.string n5,.bool false,.slice none 0 0] 42))=W1 at *;have hz1:=HBl.out.size;refine(yT w A l n c HC.out i5 _ hi5 _ (HA.out.bel.trans (HBl.out.mono hbz))).mono ?_;rintro e W3⟨v6,i6,x6,rfl,hi6,hb6,hr6,hx6⟩;rw[H6.out]at hi6 hx6;simp only at hi6 hx6;obtain⟨A6,n6,c6,rfl⟩:=ah.is hr6;have HR6:Hid (Id.jC W3 (some w.heap.size) (.slice A6 n6 c6) x6):=hid (ah.mono hr6 (λ_ _ h=>h.weak (λb' e=>⟨_,rfl,by injection e with e;omega⟩)) (λcs x he=>by obtain⟨u,e,hs⟩:=he;exact⟨u,e,ah.mono hs (λ_ _ h=>h.weak (λb' e=>⟨_,rfl,by injection e with e;omega⟩)) (λ_ _ h=>h)⟩));replace hg:=hg.below hb6 hg.lt;replace HBl:=hid (HBl.out.trans (hb6.mono hz1));have HX6:=hid hx6;clear hb6 hr6 hz1 hx6;have HQ3:=hid (hq.below HBl.out hq.lt);have hqn:¬w.heap.size+1=wr.heap.size:=by have:=hq.lt;omega
    have OI:¬wr.heap.size=w.heap.size+1:=by omega
    obtain⟨⟨f0,f1,f2⟩,g0,g1,g2⟩:=hg.k3;obtain⟨⟨q0,q1,q2,q3⟩,q4,q5,q6,q7⟩:=HQ3.out.k4;replace HR6:Hid (Id.jC (W3.setCell ⟨wr.heap.size,2,none⟩ (.slice A6 n6 c6)) (some w.heap.size) (.slice A6 n6 c6) x6):=hid (ah.kp HR6.out ((Only.set hg 2 (.slice A6 n6 c6)).kp w.heap.size (T:=[176,44]) (by decide)) (xB _) (by decide) (Id.gJ.kp ((Only.set hg 2 (.slice A6 n6 c6)).kp w.heap.size (T:=[176,44]) (by decide)) (xB _) (by decide)));have HB4:=hid (HBl.out.setCell (p:=⟨wr.heap.size,2,none⟩) (xB _) (.slice A6 n6 c6));have HQ4:=hid (HQ3.out.far (p:=⟨wr.heap.size,2,none⟩) hqn (.slice A6 n6 c6));have hsz:=HB4.out.size;have vY:=hid (ah.below HR1.out HB4.out (Id.jG.below HB4.out));have HRA:=hid (ah.below HR1.out HB4.out (Id.jG.below HB4.out));have HRB:=hid (ah.below HR2.out HB4.out (Id.kE.below HB4.out));have HRC:=hid (ah.below HR3.out HB4.out (Id.kF.below HB4.out));go_wp2_with(at_builtin;go_must(refine aI rfl _ _ _ rfl w.heap.size 42 _ 3 48 Tryz.underlying24 Id.F8 rfl (by decide) (Id.jG (some w.heap.size)) (.slice A1 n1 c1) xr rfl vY.out [.string n5,.bool false,.slice A6 n6 c6] rfl _ rfl (by simp) (by simp[Value.oneCell']) (by simp only[maxLen];omega) (by omega) (by omega) ?_);intro v9 w9 dX hb9 ho9;have hrr:=dX ⟨n5,false,x6⟩ (Id.jG.kp (T:=[176,44]) (ho9.kp w.heap.size (by decide)) (xB _) (by decide) (by decide)) ⟨_,rfl,ah.kp HR6.out (ho9.kp w.heap.size (T:=[176,44]) (by decide)) (xB _) (by decide) (Id.gJ.kp (ho9.kp w.heap.size (T:=[176,44]) (by decide)) (xB _) (by decide))⟩;obtain⟨A9,n9,c9,rfl⟩:=ah.is hrr;have fV:=hid hrr;have HB9:=hid hb9;have HO9:=hid ho9;have HQ9:=hid (ho9.bk HQ4.out (by decide));clear dX hb9 ho9 hrr q0 q1 q2 q3 q4 q5 q6 q7;have q8:w9.cell? ⟨w.heap.size+1,1,none⟩=some (.slice A1 n1 c1):=HQ9.out.cell 1;have q9:=HQ9.out.frozen 1);have HKX:=HO9.out.kp w.heap.size (T:=[101,180,105,184]) (by decide);have vK:¬w.heap.size=w.heap.size+1:=by omega
    have sN:=hid ((HO9.out.bk (hres.below HB4.out hres.lt) (by decide)).far (p:=⟨w.heap.size+1,1,none⟩) vK (.slice A9 n9 c9));go_roundg f
    case rel=>exact⟨i6,s6,{ (⟨xn,xr,xv,xg⟩:Id.Sch)with records:=xr++[⟨n5,false,x6⟩] },rfl,hid ⟨hi6,λ_=>by omega,by omega,λ_=>by simp;omega,((HA.out.bel.trans (HB4.out.mono hbz)).trans HB9.out).setCell (by simp) _,sN.out,Id.sJ.rec (x:=⟨xn,xr,xv,xg⟩) (y:=⟨n5,false,x6⟩) HQ9.out fV.out (Id.nY.kp HRB.out HKX (xB _) (by decide) (by decide)) (Id.nZ.kp HRC.out HKX (xB _) (by decide) (by decide)),λhb=>by rw[HX6.out hb];exact HE.out,λhb=>by rw[<-HE.out,Id.jI _ _ hb]⟩⟩
    case measure=>omega
   ·obtain⟨HSx,hst⟩:∃ _:True,Id.cO f (Id.record true (r',false)).2 { (⟨xn,xr,xv,xg⟩:Id.Sch)with records:=xr++[(Id.record true (r',false)).1] }=R:=⟨trivial,by rw[<-HO.out,HST.out,if_neg (beq_eq_false_iff_ne.1 tr),if_pos (beq_iff_eq.1 tc)]⟩
    obtain⟨⟨fs,s6⟩,H6⟩:∃ R,Hid (Id.within Id.field s5=R):=⟨_,hid rfl⟩;have HE:Hid (Id.cO f s6 { (⟨xn,xr,xv,xg⟩:Id.Sch)with records:=xr++[⟨n5,true,fs⟩] }=R):=hid (by rw[<-hst];simp only[Id.record,H5.out,H6.out]);have hl5:=Id.iD (r',false);rw[H5.out]at hl5;have hl6:=Id.lV Id.vT s5;rw[H6.out]at hl6;simp only at hl5 hl6;clear hst HSx;go_wp2_with fail;refine(HC.out.name _ HA.out.bel (j+1) _ hi4).mono ?_;rintro e wq⟨i5,rfl,hi5,hw⟩;obtain rfl:=hw.symm;rw[H5.out]at hi5 ⊢;simp only at hi5 ⊢;go_wp2_with fail;have hg:=Bk.new wr 42 #[.string n5,.bool true,.slice none 0 0];have HBl:=hid ((Below.refl wr.heap.size wr).alloc (xB _) (.cells #[.string n5,.bool true,.slice none 0 0] 42));generalize(wr.alloc (.cells #[.string n5,.bool true,.slice none 0 0] 42))=W1 at *;have hz1:=HBl.out.size;refine(yT w A l n c HC.out i5 _ hi5 _ (HA.out.bel.trans (HBl.out.mono hbz))).mono ?_;rintro e W3⟨v6,i6,x6,rfl,hi6,hb6,hr6,hx6⟩;rw[H6.out]at hi6 hx6;simp only at hi6 hx6;obtain⟨A6,n6,c6,rfl⟩:=ah.is hr6;have HR6:Hid (Id.jC W3 (some w.heap.size) (.slice A6 n6 c6) x6):=hid (ah.mono hr6 (λ_ _ h=>h.weak (λb' e=>⟨_,rfl,by injection e with e;omega⟩)) (λcs x he=>by obtain⟨u,e,hs⟩:=he;exact⟨u,e,ah.mono hs (λ_ _ h=>h.weak (λb' e=>⟨_,rfl,by injection e with e;omega⟩)) (λ_ _ h=>h)⟩));replace hg:=hg.below hb6 hg.lt;replace HBl:=hid (HBl.out.trans (hb6.mono hz1));have HX6:=hid hx6;clear hb6 hr6 hz1 hx6;have HQ3:=hid (hq.below HBl.out hq.lt);have hqn:¬w.heap.size+1=wr.heap.size:=by have:=hq.lt;omega
    have OI:¬wr.heap.size=w.heap.size+1:=by omega
    obtain⟨⟨f0,f1,f2⟩,g0,g1,g2⟩:=hg.k3;obtain⟨⟨q0,q1,q2,q3⟩,q4,q5,q6,q7⟩:=HQ3.out.k4;replace HR6:Hid (Id.jC (W3.setCell ⟨wr.heap.size,2,none⟩ (.slice A6 n6 c6)) (some w.heap.size) (.slice A6 n6 c6) x6):=hid (ah.kp HR6.out ((Only.set hg 2 (.slice A6 n6 c6)).kp w.heap.size (T:=[176,44]) (by decide)) (xB _) (by decide) (Id.gJ.kp ((Only.set hg 2 (.slice A6 n6 c6)).kp w.heap.size (T:=[176,44]) (by decide)) (xB _) (by decide)));have HB4:=hid (HBl.out.setCell (p:=⟨wr.heap.size,2,none⟩) (xB _) (.slice A6 n6 c6));have HQ4:=hid (HQ3.out.far (p:=⟨wr.heap.size,2,none⟩) hqn (.slice A6 n6 c6));have hsz:=HB4.out.size;have vY:=hid (ah.below HR1.out HB4.out (Id.jG.below HB4.out));have HRA:=hid (ah.below HR1.out HB4.out (Id.jG.below HB4.out));have HRB:=hid (ah.below HR2.out HB4.out (Id.kE.below HB4.out));have HRC:=hid (ah.below HR3.out HB4.out (Id.kF.below HB4.out));go_wp2_with(at_builtin;go_must(refine aI rfl _ _ _ rfl w.heap.size 42 _ 3 48 Tryz.underlying24 Id.F8 rfl (by decide) (Id.jG (some w.heap.size)) (.slice A1 n1 c1) xr rfl vY.out [.string n5,.bool true,.slice A6 n6 c6] rfl _ rfl (by simp) (by simp[Value.oneCell']) (by simp only[maxLen];omega) (by omega) (by omega) ?_);intro v9 w9 dX hb9 ho9;have hrr:=dX ⟨n5,true,x6⟩ (Id.jG.kp (T:=[176,44]) (ho9.kp w.heap.size (by decide)) (xB _) (by decide) (by decide)) ⟨_,rfl,ah.kp HR6.out (ho9.kp w.heap.size (T:=[176,44]) (by decide)) (xB _) (by decide) (Id.gJ.kp (ho9.kp w.heap.size (T:=[176,44]) (by decide)) (xB _) (by decide))⟩;obtain⟨A9,n9,c9,rfl⟩:=ah.is hrr;have fV:=hid hrr;have HB9:=hid hb9;have HO9:=hid ho9;have HQ9:=hid (ho9.bk HQ4.out (by decide));clear dX hb9 ho9 hrr q0 q1 q2 q3 q4 q5 q6 q7;have q8:w9.cell? ⟨w.heap.size+1,1,none⟩=some (.slice A1 n1 c1):=HQ9.out.cell 1;have q9:=HQ9.out.frozen 1);have HKX:=HO9.out.kp w.heap.size (T:=[101,180,105,184]) (by decide);have vK:¬w.heap.size=w.heap.size+1:=by omega
    have sN:=hid ((HO9.out.bk (hres.below HB4.out hres.lt) (by decide)).far (p:=⟨w.heap.size+1,1,none⟩) vK (.slice A9 n9 c9));go_roundg f
    case rel=>exact⟨i6,s6,{ (⟨xn,xr,xv,xg⟩:Id.Sch)with records:=xr++[⟨n5,true,x6⟩] },rfl,hid ⟨hi6,λ_=>by omega,by omega,λ_=>by simp;omega,((HA.out.bel.trans (HB4.out.mono hbz)).trans HB9.out).setCell (by simp) _,sN.out,Id.sJ.rec (x:=⟨xn,xr,xv,xg⟩) (y:=⟨n5,true,x6⟩) HQ9.out fV.out (Id.nY.kp HRB.out HKX (xB _) (by decide) (by decide)) (Id.nZ.kp HRC.out HKX (xB _) (by decide) (by decide)),λhb=>by rw[HX6.out hb];exact HE.out,λhb=>by rw[<-HE.out,Id.jI _ _ hb]⟩⟩
    case measure=>omega
   ·obtain⟨HSx,hst⟩:∃ _:True,Id.cO f (Id.service (r',false)).2 { (⟨xn,xr,xv,xg⟩:Id.Sch)with services:=xv++[(Id.service (r',false)).1] }=R:=⟨trivial,by rw[<-HO.out,HST.out,if_neg (beq_eq_false_iff_ne.1 tr),if_neg (beq_eq_false_iff_ne.1 tc),if_pos (beq_iff_eq.1 ts)]⟩
    obtain⟨⟨fs,s6⟩,H6⟩:∃ R,Hid (Id.within Id.method s5=R):=⟨_,hid rfl⟩;have HE:Hid (Id.cO f s6 { (⟨xn,xr,xv,xg⟩:Id.Sch)with services:=xv++[⟨n5,fs⟩] }=R):=hid (by rw[<-hst];simp only[Id.service,H5.out,H6.out]);have hl5:=Id.iD (r',false);rw[H5.out]at hl5;have hl6:=Id.lV Id.wS s5;rw[H6.out]at hl6;simp only at hl5 hl6;clear hst HSx;go_wp2_with fail;refine(HC.out.name _ HA.out.bel (j+1) _ hi4).mono ?_;rintro e wq⟨i5,rfl,hi5,hw⟩;obtain rfl:=hw.symm;rw[H5.out]at hi5 ⊢;simp only at hi5 ⊢;go_wp2_with fail;have hg:=Bk.new wr 101 #[.string n5,.slice none 0 0];have HBl:=hid ((Below.refl wr.heap.size wr).alloc (xB _) (.cells #[.string n5,.slice none 0 0] 101));generalize(wr.alloc (.cells #[.string n5,.slice none 0 0] 101))=W1 at *;have hz1:=HBl.out.size;refine(EM w A l n c HC.out i5 _ hi5 _ (HA.out.bel.trans (HBl.out.mono hbz))).mono ?_;rintro e W3⟨v6,i6,x6,rfl,hi6,hb6,hr6,hx6⟩;rw[H6.out]at hi6 hx6;simp only at hi6 hx6;obtain⟨A6,n6,c6,rfl⟩:=ah.is hr6;have HR6:Hid (ah W3 (some w.heap.size) 180 5 Id.dV (.slice A6 n6 c6) x6):=hid (ah.mono hr6 (λ_ _ h=>h.weak (λb' e=>⟨_,rfl,by injection e with e;omega⟩)) (λ_ _ h=>h));replace hg:=hg.below hb6 hg.lt;replace HBl:=hid (HBl.out.trans (hb6.mono hz1));have HX6:=hid hx6;clear hb6 hr6 hz1 hx6;have HQ3:=hid (hq.below HBl.out hq.lt);have hqn:¬w.heap.size+1=wr.heap.size:=by have:=hq.lt;omega
    have OI:¬wr.heap.size=w.heap.size+1:=by omega
    obtain⟨⟨f0,f1⟩,g0,g1⟩:=hg.k2;obtain⟨⟨q0,q1,q2,q3⟩,q4,q5,q6,q7⟩:=HQ3.out.k4;replace HR6:Hid (ah (W3.setCell ⟨wr.heap.size,1,none⟩ (.slice A6 n6 c6)) (some w.heap.size) 180 5 Id.dV (.slice A6 n6 c6) x6):=hid (ah.kp HR6.out ((Only.set hg 1 (.slice A6 n6 c6)).kp w.heap.size (T:=[180]) (by decide)) (xB _) (by decide) Id.dV.kp);have HB4:=hid (HBl.out.setCell (p:=⟨wr.heap.size,1,none⟩) (xB _) (.slice A6 n6 c6));have HQ4:=hid (HQ3.out.far (p:=⟨wr.heap.size,1,none⟩) hqn (.slice A6 n6 c6));have hsz:=HB4.out.size;have vY:=hid (ah.below HR2.out HB4.out (Id.kE.below HB4.out));have HRA:=hid (ah.below HR1.out HB4.out (Id.jG.below HB4.out));have HRB:=hid (ah.below HR2.out HB4.out (Id.kE.below HB4.out));have HRC:=hid (ah.below HR3.out HB4.out (Id.kF.below HB4.out));go_wp2_with(at_builtin;go_must(refine aI rfl _ _ _ rfl w.heap.size 101 _ 2 40 Tryz.underlying25 Id.OE rfl (by decide) (Id.kE (some w.heap.size)) (.slice A2 n2 c2) xv rfl vY.out [.string n5,.slice A6 n6 c6] rfl _ rfl (by simp) (by simp[Value.oneCell']) (by simp only[maxLen];omega) (by omega) (by omega) ?_);intro v9 w9 dX hb9 ho9;have hrr:=dX ⟨n5,x6⟩ (Id.kE.kp (T:=[180]) (ho9.kp w.heap.size (by decide)) (xB _) (by decide)) ⟨_,rfl,ah.kp HR6.out (ho9.kp w.heap.size (T:=[180]) (by decide)) (xB _) (by decide) Id.dV.kp⟩;obtain⟨A9,n9,c9,rfl⟩:=ah.is hrr;have fV:=hid hrr;have HB9:=hid hb9;have HO9:=hid ho9;have HQ9:=hid (ho9.bk HQ4.out (by decide));clear dX hb9 ho9 hrr q0 q1 q2 q3 q4 q5 q6 q7;have q8:w9.cell? ⟨w.heap.size+1,2,none⟩=some (.slice A2 n2 c2):=HQ9.out.cell 2;have q9:=HQ9.out.frozen 2);have HKX:=HO9.out.kp w.heap.size (T:=[42,176,44,105,184]) (by decide);have vK:¬w.heap.size=w.heap.size+1:=by omega
    have sN:=hid ((HO9.out.bk (hres.below HB4.out hres.lt) (by decide)).far (p:=⟨w.heap.size+1,2,none⟩) vK (.slice A9 n9 c9));go_roundg f
    case rel=>exact⟨i6,s6,{ (⟨xn,xr,xv,xg⟩:Id.Sch)with services:=xv++[⟨n5,x6⟩] },rfl,hid ⟨hi6,λ_=>by omega,by omega,λ_=>by simp;omega,((HA.out.bel.trans (HB4.out.mono hbz)).trans HB9.out).setCell (by simp) _,sN.out,Id.sJ.svc (x:=⟨xn,xr,xv,xg⟩) (y:=⟨n5,x6⟩) HQ9.out (Id.oV.kp HRA.out HKX (xB _) (by decide) (by decide) (by decide)) fV.out (Id.nZ.kp HRC.out HKX (xB _) (by decide) (by decide)),λhb=>by rw[HX6.out hb];exact HE.out,λhb=>by rw[<-HE.out,Id.jI _ _ hb]⟩⟩
    case measure=>omega
   ·obtain⟨HSx,hst⟩:∃ _:True,Id.cO f (Id.saga (r',false)).2 { (⟨xn,xr,xv,xg⟩:Id.Sch)with sagas:=xg++[(Id.saga (r',false)).1] }=R:=⟨trivial,by rw[<-HO.out,HST.out,if_neg (beq_eq_false_iff_ne.1 tr),if_neg (beq_eq_false_iff_ne.1 tc),if_neg (beq_eq_false_iff_ne.1 ts),if_pos (beq_iff_eq.1 ta)]⟩
    obtain⟨⟨n7,s7⟩,H7⟩:∃ R,Hid (Id.arg s5=R):=⟨_,hid rfl⟩;obtain⟨⟨fs,s6⟩,H6⟩:∃ R,Hid (Id.within Id.step s7=R):=⟨_,hid rfl⟩;have HE:Hid (Id.cO f s6 { (⟨xn,xr,xv,xg⟩:Id.Sch)with sagas:=xg++[⟨n5,n7,fs⟩] }=R):=hid (by rw[<-hst];simp only[Id.saga,H5.out,H7.out,H6.out]);have hl5:=Id.iD (r',false);rw[H5.out]at hl5;have hl7:=Id.Bf s5;rw[H7.out]at hl7;have hl6:=Id.lV Id.Bz s7;rw[H6.out]at hl6;simp only at hl5 hl6 hl7;clear hst HSx;go_wp2_with fail;refine(HC.out.name _ HA.out.bel (j+1) _ hi4).mono ?_;rintro e wq⟨i5,rfl,hi5,hw⟩;obtain rfl:=hw.symm;rw[H5.out]at hi5 ⊢;simp only at hi5 ⊢;go_wp2_with fail;have hg:=Bk.new wr 105 #[.string n5,.string ⟨#[]⟩,.slice none 0 0];have HBl:=hid ((Below.refl wr.heap.size wr).alloc (xB _) (.cells #[.string n5,.string ⟨#[]⟩,.slice none 0 0] 105));generalize(wr.alloc (.cells #[.string n5,.string ⟨#[]⟩,.slice none 0 0] 105))=W1 at *;refine(wO w A l n c HC.out i5 _ hi5 _ (HA.out.bel.trans (HBl.out.mono hbz))).mono ?_;rintro e wq⟨i7,rfl,hi7,hw⟩;obtain rfl:=hw.symm;rw[H7.out]at hi7 ⊢;simp only at hi7 ⊢;obtain⟨⟨f0,f1,f2⟩,g0,g1,g2⟩:=hg.k3;go_wp2_with fail;clear f0 f1 f2 g0 g1 g2;replace HBl:=hid (HBl.out.setCell (p:=⟨wr.heap.size,1,none⟩) (xB _) (.string n7));replace hg:Bk (W1.setCell ⟨wr.heap.size,1,none⟩ (.string n7)) wr.heap.size 105 #[.string n5,.string n7,.slice none 0 0]:=hg.aA 1 (.string n7);have TI:(W1.setCell ⟨wr.heap.size,1,none⟩ (.string n7)).heap.size=W1.heap.size:=by simp
    generalize(W1.setCell ⟨wr.heap.size,1,none⟩ (.string n7))=W2 at *;clear TI;have hz1:=HBl.out.size;refine(IZ w A l n c HC.out i7 _ hi7 _ (HA.out.bel.trans (HBl.out.mono hbz))).mono ?_;rintro e W3⟨v6,i6,x6,rfl,hi6,hb6,hr6,hx6⟩;rw[H6.out]at hi6 hx6;simp only at hi6 hx6;obtain⟨A6,n6,c6,rfl⟩:=ah.is hr6;have HR6:Hid (ah W3 (some w.heap.size) 184 3 Id.dU (.slice A6 n6 c6) x6):=hid (ah.mono hr6 (λ_ _ h=>h.weak (λb' e=>⟨_,rfl,by injection e with e;omega⟩)) (λ_ _ h=>h));replace hg:=hg.below hb6 hg.lt;replace HBl:=hid (HBl.out.trans (hb6.mono hz1));have HX6:=hid hx6;clear hb6 hr6 hz1 hx6;have HQ3:=hid (hq.below HBl.out hq.lt);have hqn:¬w.heap.size+1=wr.heap.size:=by have:=hq.lt;omega
    have OI:¬wr.heap.size=w.heap.size+1:=by omega
    obtain⟨⟨f0,f1,f2⟩,g0,g1,g2⟩:=hg.k3;obtain⟨⟨q0,q1,q2,q3⟩,q4,q5,q6,q7⟩:=HQ3.out.k4;replace HR6:Hid (ah (W3.setCell ⟨wr.heap.size,2,none⟩ (.slice A6 n6 c6)) (some w.heap.size) 184 3 Id.dU (.slice A6 n6 c6) x6):=hid (ah.kp HR6.out ((Only.set hg 2 (.slice A6 n6 c6)).kp w.heap.size (T:=[184]) (by decide)) (xB _) (by decide) Id.dU.kp);have HB4:=hid (HBl.out.setCell (p:=⟨wr.heap.size,2,none⟩) (xB _) (.slice A6 n6 c6));have HQ4:=hid (HQ3.out.far (p:=⟨wr.heap.size,2,none⟩) hqn (.slice A6 n6 c6));have hsz:=HB4.out.size;have vY:=hid (ah.below HR3.out HB4.out (Id.kF.below HB4.out));have HRA:=hid (ah.below HR1.out HB4.out (Id.jG.below HB4.out));have HRB:=hid (ah.below HR2.out HB4.out (Id.kE.below HB4.out));have HRC:=hid (ah.below HR3.out HB4.out (Id.kF.below HB4.out));go_wp2_with(at_builtin;go_must(refine aI rfl _ _ _ rfl w.heap.size 105 _ 3 56 Tryz.underlying26 Id.OG rfl (by decide) (Id.kF (some w.heap.size)) (.slice A3 n3 c3) xg rfl vY.out [.string n5,.string n7,.slice A6 n6 c6] rfl _ rfl (by simp) (by simp[Value.oneCell']) (by simp only[maxLen];omega) (by omega) (by omega) ?_);intro v9 w9 dX hb9 ho9;have hrr:=dX ⟨n5,n7,x6⟩ (Id.kF.kp (T:=[184]) (ho9.kp w.heap.size (by decide)) (xB _) (by decide)) ⟨_,rfl,ah.kp HR6.out (ho9.kp w.heap.size (T:=[184]) (by decide)) (xB _) (by decide) Id.dU.kp⟩;obtain⟨A9,n9,c9,rfl⟩:=ah.is hrr;have fV:=hid hrr;have HB9:=hid hb9;have HO9:=hid ho9;have HQ9:=hid (ho9.bk HQ4.out (by decide));clear dX hb9 ho9 hrr q0 q1 q2 q3 q4 q5 q6 q7;have q8:w9.cell? ⟨w.heap.size+1,3,none⟩=some (.slice A3 n3 c3):=HQ9.out.cell 3;have q9:=HQ9.out.frozen 3);have HKX:=HO9.out.kp w.heap.size (T:=[42,176,44,101,180]) (by decide);have vK:¬w.heap.size=w.heap.size+1:=by omega
    have sN:=hid ((HO9.out.bk (hres.below HB4.out hres.lt) (by decide)).far (p:=⟨w.heap.size+1,3,none⟩) vK (.slice A9 n9 c9));go_roundg f
    case rel=>exact⟨i6,s6,{ (⟨xn,xr,xv,xg⟩:Id.Sch)with sagas:=xg++[⟨n5,n7,x6⟩] },rfl,hid ⟨hi6,λ_=>by omega,by omega,λ_=>by simp;omega,((HA.out.bel.trans (HB4.out.mono hbz)).trans HB9.out).setCell (by simp) _,sN.out,Id.sJ.sag (x:=⟨xn,xr,xv,xg⟩) (y:=⟨n5,n7,x6⟩) HQ9.out (Id.oV.kp HRA.out HKX (xB _) (by decide) (by decide) (by decide)) (Id.nY.kp HRB.out HKX (xB _) (by decide) (by decide)) fV.out,λhb=>by rw[HX6.out hb];exact HE.out,λhb=>by rw[<-HE.out,Id.jI _ _ hb]⟩⟩
    case measure=>omega
namespace Id
theorem KO{l:List Tk.Tok}{t:Tk.Tok}(h:uo l)(ht:t.kind=1∨t.kind=2∨(t.kind=3/\t.text.size<=2)):uo (l++[t]):=λx hx=>by
 rcases List.mem_append.1 hx with h1|h1
 ·exact h x h1
 ·simp at h1;subst h1;exact ht
theorem NK{d:Nat}{s:ByteArray}{k:Nat}(h:(Tk.aW d s k).2=0):(Tk.aW d s k).1.kind=1∨(Tk.aW d s k).1.kind=2∨((Tk.aW d s k).1.kind=3/\(Tk.aW d s k).1.text.size<=2):=by
 unfold Tk.aW at h ⊢;split
 ·exact .inl rfl
 ·split
  ·dsimp only
   split
   ·exact .inr (.inl rfl)
   ·split
    ·exact .inr (.inl rfl)
    ·exact .inr (.inl rfl)
  ·split
   ·exact .inr (.inr ⟨rfl,by simp;omega⟩)
   ·split
    ·exact .inr (.inr ⟨rfl,(show Tk.arrow.size<=2 by decide)⟩)
    ·rename_i n1 n2 n3 n4
     rw[if_neg n1,if_neg n2,if_neg n3,if_neg n4]at h;cases h
theorem Cb(d:Nat)(s:ByteArray):∀(f k:Nat)(acc:List Tk.Tok),uo acc->uo (Tk.scan d s f k acc).1
 |0,k,acc,h=>by unfold Tk.scan;exact h
 |f+1,k,acc,h=>by
  unfold Tk.scan;split
  ·split
   ·intro t ht;cases ht
   ·rename_i he
    exact Cb d s f _ _ (KO h (NK (by simpa using he)))
  ·exact h
theorem NM(s:ByteArray):uo (Tk.all s).1:=by
 unfold Tk.all;split
 ·intro t ht;cases ht
 ·exact Cb _ _ _ _ _ (λt ht=>by cases ht)
theorem yR:∀(f:Nat)(s:St)(x:Sch),(s.2=false->s.1.length+2<=f)->(cO f s x).2.2=false->(cO f s x).2.1=[]
 |0,s,x,hf,h=>by
  unfold cO at h;have:=hf h;omega
 |f+1,s,x,hf,h=>by
  obtain⟨l,bad⟩:=s;cases bad
  case true=>rw[jI _ _ rfl]at h;cases h
  cases l with
  |nil=>unfold cO;simp
  |cons t r =>
   have hfu:=hf rfl;simp only[xJ]at hfu;have hwc:=FZ decls (t::r,false) rfl;generalize hw:words decls (t::r,false)=wd at *;obtain⟨y,s4⟩:=wd;rw[rO hw]at h ⊢;simp only[xJ]at hwc;have key:∀(s6:St)(x':Sch),s6.1.length<=s4.1.length->s4.2=false->(cO f s6 x').2.2=false->(cO f s6 x').2.1=[]:=λs6 x' h6 h4 hh=>yR f s6 x' (λ_=>by
    rcases hwc with⟨_,e⟩|⟨e,_⟩
    ·omega
    ·rw[h4]at e;cases e) hh
   rcases hwc with⟨h4,he⟩|⟨h4,he⟩
   ·split at h
    ·rename_i e;rw[if_pos e];exact key _ _ (CV _ _) h4 h
    ·rename_i e1;rw[if_neg e1]
     split at h
     ·rename_i e;rw[if_pos e];exact key _ _ (CV _ _) h4 h
     ·rename_i e2;rw[if_neg e2]
      split at h
      ·rename_i e;rw[if_pos e];exact key _ _ (IU _) h4 h
      ·rename_i e3;rw[if_neg e3]
       split at h
       ·rename_i e;rw[if_pos e];exact key _ _ (PO _) h4 h
       ·rename_i e4;rw[if_neg e4];exact key _ _ (xB _) h4 h
   ·subst he
    have hn:∀ L:List UInt8,L≠[]->¬(⟨#[]⟩:ByteArray).toList=L:=λL hL e=>hL (by rw[iG]at e;exact e.symm)
    rw[if_neg (hn _ (by simp)),if_neg (hn _ (by simp)),if_neg (hn _ (by simp)),if_neg (hn _ (by simp)),jI _ _ h4]at h;rw[h4]at h;cases h
theorem IV(s:St)(h:(schema s).2.2=false):(schema s).2.1=[]:=yR _ _ _ (λ_=>xB _) h
def spot(n:Nat)(r:List Tk.Tok):Nat:=match r with
 |[]=>n
 |t::_=>t.at_
theorem KN{α:Type}{zero:α}{read:St->α × St}{s:ByteArray}{l:List Tk.Tok}{at_:Nat}{x:α}{s3:St}(ht:Tk.all s=(l,at_,0))(hr:read (l,false)=(x,s3))(hb:s3.2=true∨s3.1≠[]):whole zero read s=(zero,spot s.size s3.1,120):=by
 unfold whole;rw[ht];simp only[hr];obtain⟨r,b⟩:=s3;cases r with
 |nil =>
  rcases hb with hb|hb
  ·simp only at hb;subst hb;rfl
  ·exact absurd rfl hb
 |cons t r=>rfl
theorem zU{α:Type}{zero:α}{read:St->α × St}{s:ByteArray}{l:List Tk.Tok}{at_:Nat}{x:α}(ht:Tk.all s=(l,at_,0))(hr:read (l,false)=(x,([],false))):whole zero read s=(x,0,0):=by
 unfold whole;rw[ht];simp only[hr];rfl
end Id
theorem Jc(s:ByteArray)(hs:s.size<=9223372036854775807)(A:Option Addr)(l:List Tk.Tok)(c:Nat)(hl:l.length<=1000000)(k:Nat)(hk:k<=l.length)(w:World)(hr:Tk.qy w A l) :
  Calls Tryz.prog 186 #[.string s,.slice A l.length c,.int .i64 k] w λe w'=>e=.returned (.int .i64 (Id.spot s.size (l.drop k)))/\w'=w:=by
 rcases Nat.lt_or_ge k l.length with hlt|hge
 ·obtain⟨g,off,rfl,hcs⟩:=hr (by omega)
  obtain⟨t0,t1,t2,t3⟩:=hcs k hlt;have HE:Hid (Id.spot s.size (l.drop k)=l[k].at_):=hid (by rw[xQ hlt];rfl);obtain⟨n,hn⟩:∃ n,n=l.length:=⟨_,rfl⟩;generalize l[k]=t at *;rw[<-hn]at hlt ⊢;have i1:(0:Int)<=(k:Int):=by omega
  have i2:(k:Int)<(n:Int):=by omega
  have i3:decide (n<=k)=false:=by simp;omega
  have i4:¬n<=k:=by omega
  clear hcs hr hn hl hk;go_enter Tryz.func186,Tryz.ntmps186;go_wp2_with fail;go_ret;exact⟨(by first|(rw[HE.out];done)|(rw[HE.out];rfl)),rfl⟩
 ·obtain rfl:k=l.length:=by omega
  have HE:Hid (Id.spot s.size (l.drop l.length)=s.size):=hid (by rw[List.drop_length];rfl);generalize hn:l.length=n at *;have hn2:=hid hn;clear hn hr hl hk hge;go_enter Tryz.func186,Tryz.ntmps186;go_wp2_with fail;go_ret;exact⟨(by first|(rw[HE.out];done)|(rw[HE.out];rfl)),rfl⟩
theorem Jg(s:ByteArray)(hs:s.size<=9223372036854775807)(w:World) :
  Calls Tryz.prog 148 #[.string s] w λe w'=>∃ v,e=.returned (.tuple #[v,.int .i64 (Id.parse s).2.1,.int .i64 (Id.parse s).2.2])/\Below w.heap.size w w'/\Id.ay w' (some w.heap.size) v (Id.parse s).1:=by
 obtain⟨R,HR⟩:∃ R,Hid (Id.parse s=R):=⟨_,hid rfl⟩;rw[HR.out];obtain⟨⟨pl,pat,pe⟩,HT⟩:∃ T,Hid (Tk.all s=T):=⟨_,hid rfl⟩;have hpl:=Tk.QH s;have HWL:=hid (Id.NM s);rw[HT.out]at hpl HWL;simp only at hpl HWL;have hbl:=(Below.refl w.heap.size w).alloc (xB _) (.cells #[.string ⟨#[]⟩,.slice none 0 0,.slice none 0 0,.slice none 0 0] 28);have hq:=Bk.new w 28 #[.string ⟨#[]⟩,.slice none 0 0,.slice none 0 0,.slice none 0 0];have hz1:(w.alloc (.cells #[.string ⟨#[]⟩,.slice none 0 0,.slice none 0 0,.slice none 0 0] 28)).heap.size=w.heap.size+1:=by simp
 go_enter Tryz.func148,Tryz.ntmps148;go_wp2_with fail;generalize(w.alloc (.cells #[.string ⟨#[]⟩,.slice none 0 0,.slice none 0 0,.slice none 0 0] 28))=w1 at *;refine(Oh s (by unfold maxLen;omega) _).mono ?_;rintro e w2⟨v2,rfl,hb2,hown⟩;rw[HT.out]at hown ⊢;simp only at hown ⊢;have hq2:=hq.below hb2 hq.lt;have hB2:Below w.heap.size w w2:=hbl.trans (hb2.mono (by omega));have hsz2:=hb2.size;by_cases hpe:pe=0
 case neg =>
  have HE:Hid (R=(Id.Sch.zero,pat,pe)):=hid (by rw[<-HR.out];unfold Id.parse Id.whole;rw[HT.out];simp[hpe]);have tpe:((pe:Int) != 0)=true:=by rw[bne_iff_ne];omega
  have Ur:decide (pe=0)=false:=by simpa using hpe
  clear hpe hq hbl hb2;obtain⟨⟨q0,q1,q2,q3⟩,q4,q5,q6,q7⟩:=hq2.k4;go_wp2_with fail;clear q0 q1 q2 q3 q4 q5 q6 q7;have hqf:Bk _ w.heap.size 28 #[.string ⟨#[]⟩,.slice none 0 0,.slice none 0 0,.slice none 0 0]:=((((hq2.aA 0 (.string ⟨#[]⟩)).aA 1 (.slice none 0 0)).aA 2 (.slice none 0 0)).aA 3 (.slice none 0 0));have hBf:=((((hB2.setCell (p:=⟨w.heap.size,0,none⟩) (xB _) (.string ⟨#[]⟩)).setCell (p:=⟨w.heap.size,1,none⟩) (xB _) (.slice none 0 0)).setCell (p:=⟨w.heap.size,2,none⟩) (xB _) (.slice none 0 0)).setCell (p:=⟨w.heap.size,3,none⟩) (xB _) (.slice none 0 0));generalize((((w2.setCell ⟨w.heap.size,0,none⟩ (.string ⟨#[]⟩)).setCell ⟨w.heap.size,1,none⟩ (.slice none 0 0)).setCell ⟨w.heap.size,2,none⟩ (.slice none 0 0)).setCell ⟨w.heap.size,3,none⟩ (.slice none 0 0))=wf at *;obtain⟨⟨y0,y1,y2,y3⟩,_⟩:=hqf.k4;refine bodyPost_ret (v:=.tuple #[.agg #[.string ⟨#[]⟩,.slice none 0 0,.slice none 0 0,.slice none 0 0],.int .i64 pat,.int .i64 pe]) ?_ rfl ⟨_,(by first|(rw[HE.out];done)|(rw[HE.out];rfl)),hBf,by rw[HE.out];exact Id.ay.zero _ _⟩;rw[rG rfl];go_simp;try rfl
 subst hpe;obtain⟨A,c,rfl,hrd,_⟩:=Tk.LH hown;have HRC:Hid (Id.RC w2 A pl pl.length c):=hid ⟨rfl,by omega,HWL.out,hrd⟩;obtain⟨⟨x,s3⟩,H3⟩:∃ T,Hid (Id.schema (pl,false)=T):=⟨_,hid rfl⟩;have sO:=hid (Id.IV (pl,false));have HBAD:=hid (λhb=>Id.KN (zero:=Id.Sch.zero) (read:=Id.schema) HT.out H3.out hb);obtain⟨n,hn⟩:∃ n,n=pl.length:=⟨_,rfl⟩;rw[<-hn]at HRC ⊢;have HN:=hid hn;have HQ2:=hid hq2;have HB2:=hid hB2;have HRD:=hid hrd;have hqb:=hq2.lt;clear hown hrd hq hq2 hb2 hB2 hbl hn hsz2;go_wp2_with fail;refine(Gm A pl n c w2 HRC.out).mono ?_;rintro e w3⟨v3,i3,x3,rfl,hat,hb3,hsv,hx⟩;rw[H3.out]at hat hx;simp only at hat hx;have HB3:=hid (HB2.out.trans (hb3.mono (by omega)));have HQ3:=hid (HQ2.out.below hb3 hqb);have Ud:=hid (HRD.out.below hb3);have hz3:=hb3.size;obtain⟨A5,n5,c5,A6,n6,c6,A7,n7,c7,rfl,r1,r2,r3⟩:=hsv;have HSV:Hid (Id.ay w3 (some w.heap.size) (.agg #[.string x3.name,.slice A5 n5 c5,.slice A6 n6 c6,.slice A7 n7 c7]) x3):=hid (Id.ay.weak (Id.I5 (by omega)) ⟨_,_,_,_,_,_,_,_,_,rfl,r1,r2,r3⟩);have HX:=hid hx;generalize x3.name=xn at *;have HRB:=hid ((HQ3.out.alloc (.cells #[.string xn,.slice A5 n5 c5,.slice A6 n6 c6,.slice A7 n7 c7] 28)));have HBB:=hid (HB3.out.alloc (by omega) (.cells #[.string xn,.slice A5 n5 c5,.slice A6 n6 c6,.slice A7 n7 c7] 28));have HSB:=hid (Id.ay.below ((Below.refl w3.heap.size w3).alloc (xB _) (.cells #[.string xn,.slice A5 n5 c5,.slice A6 n6 c6,.slice A7 n7 c7] 28)) HSV.out);have Uc:=hid (Ud.out.below ((Below.refl w3.heap.size w3).alloc (xB _) (.cells #[.string xn,.slice A5 n5 c5,.slice A6 n6 c6,.slice A7 n7 c7] 28)));have hsb:=Bk.new w3 28 #[.string xn,.slice A5 n5 c5,.slice A6 n6 c6,.slice A7 n7 c7];have hne:¬w3.heap.size=w.heap.size:=by omega
 obtain⟨k,hk,hkd,hki⟩:=hat;obtain⟨r3',bad⟩:=s3;simp only at hkd hki hx HX;cases bad
 case true =>
  have HE:Hid (R=(Id.Sch.zero,Id.spot s.size (pl.drop k),120)):=hid (by rw[<-HR.out,<-hkd];exact HBAD.out (.inl rfl));simp only[if_true]at hki;have hi1:decide (i3<0)=true:=by simp;omega
  have hi2:i3<0:=by omega
  have hi3:-1 - i3=(k:Int):=by omega
  have hi4:(-1000001:Int)<=i3:=by omega
  have HI3:=hid hi3;have HPC:=hid (Jc s hs A pl c (by omega) k hk _ Uc.out);rw[<-HN.out]at HPC;clear hi3 hki hx r1 r2 r3 hkd;go_wp2_with fail;rw[HI3.out];generalize(w3.alloc (.cells #[.string xn,.slice A5 n5 c5,.slice A6 n6 c6,.slice A7 n7 c7] 28))=w4 at *;refine(HPC.out).mono ?_;rintro e wq⟨rfl,hw⟩;obtain rfl:=hw.symm;have hq2:=HRB.out;have HB4:=HBB;obtain⟨⟨q0,q1,q2,q3⟩,q4,q5,q6,q7⟩:=hq2.k4;go_wp2_with fail;clear q0 q1 q2 q3 q4 q5 q6 q7;have hqf:Bk _ w.heap.size 28 #[.string ⟨#[]⟩,.slice none 0 0,.slice none 0 0,.slice none 0 0]:=((((hq2.aA 0 (.string ⟨#[]⟩)).aA 1 (.slice none 0 0)).aA 2 (.slice none 0 0)).aA 3 (.slice none 0 0));have hBf:=((((HB4.out.setCell (p:=⟨w.heap.size,0,none⟩) (xB _) (.string ⟨#[]⟩)).setCell (p:=⟨w.heap.size,1,none⟩) (xB _) (.slice none 0 0)).setCell (p:=⟨w.heap.size,2,none⟩) (xB _) (.slice none 0 0)).setCell (p:=⟨w.heap.size,3,none⟩) (xB _) (.slice none 0 0));generalize((((w4.setCell ⟨w.heap.size,0,none⟩ (.string ⟨#[]⟩)).setCell ⟨w.heap.size,1,none⟩ (.slice none 0 0)).setCell ⟨w.heap.size,2,none⟩ (.slice none 0 0)).setCell ⟨w.heap.size,3,none⟩ (.slice none 0 0))=wf at *;obtain⟨⟨y0,y1,y2,y3⟩,_⟩:=hqf.k4;refine bodyPost_ret (v:=.tuple #[.agg #[.string ⟨#[]⟩,.slice none 0 0,.slice none 0 0,.slice none 0 0],.int .i64 (Id.spot s.size (pl.drop k)),.int .i64 120]) ?_ rfl ⟨_,(by first|(rw[HE.out];done)|(rw[HE.out];rfl)),hBf,by rw[HE.out];exact Id.ay.zero _ _⟩;rw[rG rfl];go_simp;try rfl
 case false =>
  have hrn:r3'=[]:=by have:=sO.out;rw[H3.out]at this;exact this rfl
  subst hrn;have HE:Hid (R=(x3,0,0)):=hid (by rw[<-HR.out,HX.out rfl];exact Id.zU HT.out H3.out);simp only[Bool.false_eq_true,if_false]at hki;have hi1:decide (i3<0)=false:=by simp;omega
  have hi2:¬i3<0:=by omega
  have hi5:0<=i3:=by omega
  clear hki hx r1 r2 r3 hkd;obtain⟨⟨z0,z1,z2,z3⟩,_⟩:=hsb.k4;have hq2:=HRB.out;obtain⟨⟨q0,q1,q2,q3⟩,q4,q5,q6,q7⟩:=hq2.k4;go_wp2_with fail;clear q0 q1 q2 q3 q4 q5 q6 q7 z0 z1 z2 z3;generalize(w3.alloc (.cells #[.string xn,.slice A5 n5 c5,.slice A6 n6 c6,.slice A7 n7 c7] 28))=w4 at *;have hqf:Bk _ w.heap.size 28 #[.string xn,.slice A5 n5 c5,.slice A6 n6 c6,.slice A7 n7 c7]:=((((hq2.aA 0 (.string xn)).aA 1 (.slice A5 n5 c5)).aA 2 (.slice A6 n6 c6)).aA 3 (.slice A7 n7 c7));have hBf:=((((HBB.out.setCell (p:=⟨w.heap.size,0,none⟩) (xB _) (.string xn)).setCell (p:=⟨w.heap.size,1,none⟩) (xB _) (.slice A5 n5 c5)).setCell (p:=⟨w.heap.size,2,none⟩) (xB _) (.slice A6 n6 c6)).setCell (p:=⟨w.heap.size,3,none⟩) (xB _) (.slice A7 n7 c7));have hsf:=HSB.out.only ((((Only.set hq2 0 (.string xn)).trans (Only.set (hq2.aA 0 (.string xn)) 1 (.slice A5 n5 c5))).trans (Only.set ((hq2.aA 0 (.string xn)).aA 1 (.slice A5 n5 c5)) 2 (.slice A6 n6 c6))).trans (Only.set (((hq2.aA 0 (.string xn)).aA 1 (.slice A5 n5 c5)).aA 2 (.slice A6 n6 c6)) 3 (.slice A7 n7 c7))) (by decide);generalize((((w4.setCell ⟨w.heap.size,0,none⟩ (.string xn)).setCell ⟨w.heap.size,1,none⟩ (.slice A5 n5 c5)).setCell ⟨w.heap.size,2,none⟩ (.slice A6 n6 c6)).setCell ⟨w.heap.size,3,none⟩ (.slice A7 n7 c7))=wf at *;obtain⟨⟨y0,y1,y2,y3⟩,_⟩:=hqf.k4;refine bodyPost_ret (v:=.tuple #[.agg #[.string xn,.slice A5 n5 c5,.slice A6 n6 c6,.slice A7 n7 c7],.int .i64 0,.int .i64 0]) ?_ rfl ⟨_,(by first|(rw[HE.out];done)|(rw[HE.out];rfl)),hBf,by rw[HE.out];exact hsf⟩;rw[rG rfl];go_simp;try rfl
