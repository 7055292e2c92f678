import Derived.Test.YtogijkhenihaaaaGreatDoorGB16
import Derived.Test.YtogijkhenihaaaaGreatDoorGB17
set_option linter.all false
set_option maxRecDepth 100000
set_option maxHeartbeats 0
namespace Go.Proofs.YtogijkhenihaaaaGreatDoor
open Lib (hid)
namespace Chk
open Id
end Chk
section
open Go.BigFrame Go.RowKit
structure Chk.Lx(w wr:World)(S:Array Value):Prop where
 bel:Below w.heap.size w wr
 box:Bk wr w.heap.size 28 S
theorem Chk.Lx.below{w wr w':World}{S:Array Value}(h:Chk.Lx w wr S)(hb:Below wr.heap.size wr w'):Chk.Lx w w' S:=⟨h.bel.trans (hb.mono h.bel.size),h.box.below hb h.box.lt⟩
theorem Chk.Lx.start{w wr:World}{S:Array Value}(h:wr=w.alloc (.cells S 28)):Chk.Lx w wr S:=by
 subst h;exact⟨(Below.refl _ _).alloc (xB _) _,Bk.new _ _ _⟩
theorem Chk.Lx.only{w wr w':World}{S:Array Value}{e:TypeId}(h:Chk.Lx w wr S)(hb:Below w.heap.size wr w')(ho:Only e wr w')(he:28≠e):Chk.Lx w w' S:=⟨h.bel.trans hb,ho.bk h.box he⟩
end
namespace Chk
open Id
def ak:List Test->Option ByteArray
 |[]=>none
 |t::l=>if t.1=true then ak l else some t.2
theorem gV{b:Bool}{s:ByteArray}{l:List Test}(h:b=true):ak ((b,s)::l)=ak l:=by
 show(if b=true then ak l else some s)=_
 rw[if_pos h]
theorem fQ{b:Bool}{s:ByteArray}{l:List Test}(h:b=false):ak ((b,s)::l)=some s:=by
 show(if b=true then ak l else some s)=_
 rw[if_neg (by rw[h];decide)]
theorem AV:∀(a b:List Test),ak (a++b)=match ak a with|none=>ak b|some s=>some s
 |[],b=>rfl
 |(c,s)::l,b=>by
  cases c
  ·rfl
  ·exact AV l b
theorem wJ(e:Nat):∀ l:List Test,run e l none=(ak l).map λs=>(s,e)
 |[]=>rfl
 |(c,s)::l=>by
  show run e l (at_ c s e none)=_
  cases c
  ·rw[show at_ false s e none=some (s,e)from rfl,vg]
   rfl
  ·exact wJ e l
theorem yZ{l:List Test}:ak l=none↔∀ t∈l,t.1=true:=by
 rw[<-zx (e:=0),wJ];cases ak l<;>simp
theorem Du{α β:Type}{l:List α}{f g:α->List β}(h:∀ a∈l,f a=g a):l.flatMap f=l.flatMap g:=by
 induction l with
 |nil=>rfl
 |cons a l ih =>
  rw[yJ,yJ,h a (by simp),ih (λb hb=>h b (by simp[hb]))]
def lvl(rs:List Rec)(l:List Bool)(n:ByteArray):Bool:=match rs,l with
 |r::rs,b::l=>if r.name.toList==n.toList then b else lvl rs l n
 |_,_=>false
def lvT(rs:List Rec)(l:List Bool)(t:List Srt):Bool:=match t with
 |[]=>false
 |x::_=>x.kind != 7||lvl rs l x.name
def lvR(rs:List Rec)(l:List Bool)(r:Rec):Bool:=(r.choice&&r.fields.any λf=>lvT rs l f.type)||(!r.choice&&r.fields.all λf=>lvT rs l f.type)
def lvN(rs:List Rec)(l:List Bool):List Bool:=rs.map (lvR rs l)
def lvI(rs:List Rec):Nat->List Bool
 |0=>List.replicate rs.length false
 |k+1=>lvN rs (lvI rs k)
theorem kK(rs:List Rec)(k:Nat):(lvI rs k).length=rs.length:=by
 cases k<;>simp[lvI,lvN]
theorem Io:∀{rs:List Rec}{l:List Bool}{n:ByteArray},lvl rs l n=true->∃ i,∃(h:i<rs.length)(h':i<l.length),rs[i].name.toList=n.toList/\l[i]=true
 |[],l,n,h=>by unfold lvl at h;cases h
 |r::rs,[],n,h=>by unfold lvl at h;cases h
 |r::rs,b::l,n,h=>by
  unfold lvl at h;split at h
  next hn=>exact⟨0,by simp,by simp,by simpa using hn,h⟩
  next hn =>
   obtain⟨i,h1,h2,h3,h4⟩:=Io h;exact⟨i+1,by simp;omega,by simp;omega,by simpa using h3,by simpa using h4⟩
theorem MN:∀{rs:List Rec}{l:List Bool}{n:ByteArray}{seen:List ByteArray},jH seen (rs.map (·.name))->∀ i,∀(h:i<rs.length)(h':i<l.length),rs[i].name.toList=n.toList->l[i]=true->lvl rs l n=true
 |[],l,n,seen,hd,i,h,h',hn,hl=>absurd h (by simp)
 |r::rs,[],n,seen,hd,i,h,h',hn,hl=>absurd h' (by simp)
 |r::rs,b::l,n,seen,hd,0,h,h',hn,hl=>by
  unfold lvl;rw[if_pos (by simpa using hn)];exact hl
 |r::rs,b::l,n,seen,hd,i+1,h,h',hn,hl=>by
  have hd':bD seen r.name=false/\jH (seen++[r.name]) (rs.map (·.name)):=hd;have hi:i<rs.length:=by simpa using h
  have hne:¬(r.name.toList==n.toList)=true:=by
   intro he;have hk:=vV hd'.2 (a:=rs[i].name) (List.mem_map.2 ⟨rs[i],xR hi,rfl⟩);rw[lY]at hk;have e1:rs[i].name.toList=n.toList:=by simpa using hn
   have e2:r.name.toList=n.toList:=by simpa using he
   rw[e1,e2]at hk;simp at hk
  unfold lvl;rw[if_neg hne];exact MN hd'.2 i hi (by simpa using h') (by simpa using hn) (by simpa using hl)
theorem zf:∀{l:List ByteArray}{seen:List ByteArray},jH seen l->∀ i j,∀(hi:i<l.length)(hj:j<l.length),l[i].toList=l[j].toList->i=j
 |[],_,_,i,j,hi,_,_=>absurd hi (by simp)
 |a::l,seen,hd,0,0,_,_,_=>rfl
 |a::l,seen,hd,0,j+1,_,hj,he=>by
  have hd':bD seen a=false/\jH (seen++[a]) l:=hd;have hj':j<l.length:=by simpa using hj
  have hk:=vV hd'.2 (a:=l[j]) (xR hj');rw[lY]at hk;have e:a.toList=l[j].toList:=by simpa using he
  rw[e]at hk;simp at hk
 |a::l,seen,hd,i+1,0,hi,_,he=>by
  have hd':bD seen a=false/\jH (seen++[a]) l:=hd;have hj':i<l.length:=by simpa using hi
  have hk:=vV hd'.2 (a:=l[i]) (xR hj');rw[lY]at hk;have e:l[i].toList=a.toList:=by simpa using he
  rw[e]at hk;simp at hk
 |a::l,seen,hd,i+1,j+1,hi,hj,he=>by
  have hd':bD seen a=false/\jH (seen++[a]) l:=hd;rw[zf hd'.2 i j (by simpa using hi) (by simpa using hj) (by simpa using he)]
def Le(a b:List Bool):Prop:=a.length=b.length/\∀ i,∀(h:i<a.length)(h':i<b.length),a[i]=true->b[i]=true
theorem Fz:∀{rs:List Rec}{a b:List Bool}{n:ByteArray},Le a b->lvl rs a n=true->lvl rs b n=true
 |[],a,b,n,_,h=>by unfold lvl at h;cases h
 |r::rs,[],b,n,_,h=>by unfold lvl at h;cases h
 |r::rs,x::a,[],n,hl,h=>by have:=hl.1;simp at this
 |r::rs,x::a,y::b,n,hl,h=>by
  unfold lvl at h ⊢;split at h
  next hn=>rw[if_pos hn];exact hl.2 0 (by simp) (by simp) h
  next hn =>
   rw[if_neg hn];refine Fz ⟨by have:=hl.1;simpa using this,λi h1 h2 h3=>?_⟩ h;have:=hl.2 (i+1) (by simp;omega) (by simp;omega) (by simpa using h3);simpa using this
theorem F5{rs:List Rec}{a b:List Bool}(h:Le a b){t:List Srt}(ht:lvT rs a t=true):lvT rs b t=true:=by
 cases t with
 |nil=>exact ht
 |cons x t =>
  unfold lvT at ht ⊢;rw[Bool.or_eq_true]at ht ⊢;exact ht.imp id (Fz h)
theorem O7{rs:List Rec}{a b:List Bool}(h:Le a b){r:Rec}(hr:lvR rs a r=true):lvR rs b r=true:=by
 unfold lvR at hr ⊢;cases hc:r.choice
 ·rw[hc]at hr
  simp only[Bool.false_and,Bool.not_false,Bool.true_and,Bool.false_or,List.all_eq_true]at hr ⊢;exact λf hf=>F5 h (hr f hf)
 ·rw[hc]at hr
  simp only[Bool.true_and,Bool.not_true,Bool.false_and,Bool.or_false,List.any_eq_true]at hr ⊢;obtain⟨f,hf,ht⟩:=hr;exact⟨f,hf,F5 h ht⟩
theorem F6(rs:List Rec):∀ k,Le (lvI rs k) (lvI rs (k+1))
 |0=>⟨by rw[kK,kK],λi h h' ht=>by simp[lvI]at ht⟩
 |k+1=>⟨by rw[kK,kK],λi h h' ht=>by
   simp only[lvI,lvN,List.getElem_map]at ht ⊢;exact O7 (F6 rs k) ht⟩
theorem le_count:∀{a b:List Bool},Le a b->a≠b->a.countP id+1<=b.countP id
 |[],[],_,h=>absurd rfl h
 |[],_::_,h,_=>by have:=h.1;simp at this
 |_::_,[],h,_=>by have:=h.1;simp at this
 |x::a,y::b,h,hne=>by
  have ht:Le a b:=⟨by have:=h.1;simpa using this,λi h1 h2 h3=>by
   have:=h.2 (i+1) (by simp;omega) (by simp;omega) (by simpa using h3);simpa using this⟩
  have h0:=h.2 0 (by simp) (by simp);simp only[List.getElem_cons_zero]at h0;by_cases he:a=b
  ·subst he
   cases x<;>cases y<;>simp_all
  ·have:=le_count ht he
   cases x<;>cases y<;>simp_all<;>omega
theorem Ip(rs:List Rec):∀ k,lvI rs k=lvI rs (k+1)∨k+1<=(lvI rs (k+1)).countP id
 |0=>by
  by_cases h:lvI rs 0=lvI rs 1
  ·exact Or.inl h
  ·have:=le_count (F6 rs 0) h
   exact Or.inr (by omega)
 |k+1=>by
  rcases Ip rs k with h|h
  ·exact Or.inl (by show lvN rs (lvI rs k)=lvN rs (lvI rs (k+1));rw[<-h])
  ·by_cases he:lvI rs (k+1)=lvI rs (k+2)
   ·exact Or.inl he
   ·have:=le_count (F6 rs (k+1)) he
    exact Or.inr (by omega)
theorem Qm(rs:List Rec):lvI rs (rs.length+1)=lvN rs (lvI rs (rs.length+1)):=by
 rcases Ip rs (rs.length+1)with h|h
 ·exact h
 ·have:=List.countP_le_length (p:=(id:Bool->Bool)) (l:=lvI rs (rs.length+1+1))
  rw[kK]at this;omega
theorem Dh(rs:List Rec):∀ k i,∀(h:i<rs.length)(h':i<(lvI rs k).length),(lvI rs k)[i]=true->Val rs rs[i].name.toList
 |0,i,h,h',ht=>by simp[lvI]at ht
 |k+1,i,h,h',ht=>by
  simp only[lvI,lvN,List.getElem_map]at ht;have hT:∀{t:List Srt},lvT rs (lvI rs k) t=true->vN (Val rs) t:=by
   intro t hh;cases t with
   |nil=>cases hh
   |cons x t =>
    unfold lvT at hh;rw[Bool.or_eq_true]at hh;refine hh.imp (λh=>by simpa using h) (λh=>?_);obtain⟨j,h1,h2,h3,h4⟩:=Io h;rw[<-h3];exact Dh rs k j h1 h2 h4
  refine Val.step (xR h) ?_;unfold lvR at ht;cases hc:rs[i].choice
  ·rw[hc]at ht
   simp only[Bool.false_and,Bool.not_false,Bool.true_and,Bool.false_or,List.all_eq_true]at ht;exact⟨λe=>(by rw[hc]at e;cases e),λ_ f hf=>hT (ht f hf)⟩
  ·rw[hc]at ht
   simp only[Bool.true_and,Bool.not_true,Bool.false_and,Bool.or_false,List.any_eq_true]at ht;obtain⟨f,hf,h2⟩:=ht;exact⟨λ_=>⟨f,hf,hT h2⟩,λe=>(by rw[hc]at e;cases e)⟩
open Classical in
theorem Ql{rs:List Rec}(hd:jH [] (rs.map (·.name))){i:Nat}(h:i<rs.length):(lvI rs (rs.length+2))[i]'(by rw[kK];exact h)=pz rs rs[i].name:=by
 have hfix:lvI rs (rs.length+2)=lvI rs (rs.length+1):=(Qm rs).symm;rw[Bool.eq_iff_iff];unfold pz;rw[decide_eq_true_eq];refine⟨λht=>Dh rs _ i h _ ht,λhv=>?_⟩;have hP:=hv (λs=>∃ j,∃(h1:j<rs.length)(h2:j<(lvI rs (rs.length+2)).length),rs[j].name.toList=s/\(lvI rs (rs.length+2))[j]=true) (λr hr hp=>by
  obtain⟨j,hj,rfl⟩:=List.getElem_of_mem hr;refine⟨j,hj,by rw[kK];exact hj,rfl,?_⟩;have e:(lvI rs (rs.length+2))[j]'(by rw[kK];exact hj)=lvR rs (lvI rs (rs.length+1)) rs[j]:=by
   simp only[lvI,lvN,List.getElem_map]
  rw[e,<-hfix];have hT:∀{t:List Srt},vN (λs=>∃ j,∃(h1:j<rs.length)(h2:j<(lvI rs (rs.length+2)).length),rs[j].name.toList=s/\(lvI rs (rs.length+2))[j]=true) t->lvT rs (lvI rs (rs.length+2)) t=true:=by
   intro t hh;cases t with
   |nil=>exact hh.elim
   |cons x t =>
    unfold lvT;rw[Bool.or_eq_true];refine hh.imp (λh=>by simpa using h) (λ⟨j,h1,h2,h3,h4⟩=>MN hd j h1 h2 h3 h4)
  unfold lvR;cases hc:rs[j].choice
  ·simp only[Bool.false_and,Bool.not_false,Bool.true_and,Bool.false_or,List.all_eq_true]
   exact λf hf=>hT (hp.2 hc f hf)
  ·simp only[Bool.true_and,Bool.not_true,Bool.false_and,Bool.or_false,List.any_eq_true]
   obtain⟨f,hf,h2⟩:=hp.1 hc;exact⟨f,hf,hT h2⟩)
 obtain⟨j,h1,h2,h3,h4⟩:=hP;have:j=i:=zf hd j i (by simpa using h1) (by simpa using h) (by simpa using h3);subst this;exact h4
def jV(rs:List Rec)(l:List Bool):List Test:=List.zipWith (λr b=>(b,r.name)) rs l
def yh(e:ByteArray):Bool:=e.toList==fO.toList||e.toList==fK.toList||e.toList==fM.toList
def mQ(a b:ByteArray):Bool:=(a.toList==fO.toList&&b.toList==fK.toList)||(a.toList==fK.toList&&b.toList==fO.toList)||(a.toList==fM.toList&&b.toList==fM.toList)
def I9(m u:Mth):Bool:=u.arg.toList==m.arg.toList&&u.undo.toList.isEmpty&&u.result==1&&mQ m.effect u.effect
def rC(x:Sch)(rn:ByteArray)(m:Mth):Bool:=match meth x rn m.undo with
 |none=>false
 |some u=>I9 m u
def ru(x:Sch)(rn:ByteArray)(m:Mth):List Test:=[(m.undo.toList.isEmpty||rC x rn m,part rn m.name)]
def mZ(x:Sch)(v:Svc):List Test:=v.methods.flatMap (ru x v.name)
def iE(x:Sch):List Test:=x.services.flatMap (mZ x)
theorem xu{e:ByteArray}:yh e=!(contrary e).toList.isEmpty:=by
 unfold yh contrary;by_cases h1:e.toList=fO.toList
 ·rw[if_pos h1,h1];decide +kernel
 ·rw[if_neg h1]
  by_cases h2:e.toList=fK.toList
  ·rw[if_pos h2,h2];decide +kernel
  ·rw[if_neg h2]
   by_cases h3:e.toList=fM.toList
   ·rw[if_pos h3,h3];decide +kernel
   ·rw[if_neg h3]
    simp[h1,h2,h3]
theorem FM{a b:ByteArray}(h:yh a=true):mQ a b=(b.toList==(contrary a).toList):=by
 unfold yh at h;unfold mQ contrary;by_cases h1:a.toList=fO.toList
 ·rw[if_pos h1,h1]
  rw[show(fO.toList==fK.toList)=false by decide +kernel,show(fO.toList==fM.toList)=false by decide +kernel,show(fO.toList==fO.toList)=true by decide +kernel];simp
 ·rw[if_neg h1]
  by_cases h2:a.toList=fK.toList
  ·rw[if_pos h2,h2]
   rw[show(fK.toList==fO.toList)=false by decide +kernel,show(fK.toList==fM.toList)=false by decide +kernel,show(fK.toList==fK.toList)=true by decide +kernel];simp
  ·rw[if_neg h2]
   by_cases h3:a.toList=fM.toList
   ·rw[if_pos h3,h3]
    rw[show(fM.toList==fO.toList)=false by decide +kernel,show(fM.toList==fK.toList)=false by decide +kernel,show(fM.toList==fM.toList)=true by decide +kernel];simp
   ·simp[h1,h2,h3]at h
theorem NP{x:Sch}(h:∀ t∈bU x,t.1=true):iE x=nM x:=by
 refine Du λv hv=>Du λm hm=>?_
 have he:yh m.effect=true:=by
  have:=h (!(contrary m.effect).toList.isEmpty&&order x m.arg,part v.name m.name) (by
   unfold bU fU jd;exact List.mem_flatMap.2 ⟨v,hv,List.mem_flatMap.2 ⟨m,hm,by simp⟩⟩)
  rw[xu];simp only[xX]at this;exact this.1
 unfold ru dP rC jO;cases meth x v.name m.undo with
 |none=>rfl
 |some u =>
  show[(m.undo.toList.isEmpty||I9 m u,_)]=[(m.undo.toList.isEmpty||jh m u,_)]
  unfold I9 jh;rw[FM he]
theorem QL{x:Sch}{l:List Bool}:∀{rs:List Rec},l.length=rs.length->(∀ i,∀(h:i<rs.length)(h':i<l.length),l[i]=pz x.records rs[i].name)->jV rs l=rs.flatMap (lF x):=by
 intro rs hl h;unfold jV;induction rs generalizing l with
 |nil=>simp
 |cons r rs ih =>
  cases l with
  |nil=>simp at hl
  |cons b l =>
   rw[List.zipWith_cons_cons,yJ,ih (l:=l) (by simpa using hl) (λi h1 h2=>by have:=h (i+1) (by simp;omega) (by simp;omega);simpa using this)];have h0:=h 0 (by simp) (by simp);simp only[List.getElem_cons_zero]at h0;show(b,r.name)::_=[(pz x.records r.name,r.name)]++_
   rw[h0];rfl
theorem JJ{x:Sch}(h:∀ t∈eX x,t.1=true):jH [] (x.records.map (·.name)):=by
 unfold eX at h;exact(FK.1 (Dz.1 h).1).1
theorem KA{x:Sch}(h:∀ t∈eX x,t.1=true):jV x.records (lvI x.records (x.records.length+2))=jE x :=
 QL (kK _ _) (λi h1 h2=>Ql (JJ h) h1)
def dB:List (Option ByteArray × Nat)->ByteArray × Nat
 |[]=>(⟨#[]⟩,0)
 |(none,_)::l=>dB l
 |(some s,e)::_=>(s,e)
def JG(x:Sch):List (Option ByteArray × Nat):=[(ak (namesT x),120),(ak (gQ x),135),(ak (eX x),130),(ak (x.records.flatMap (eH x)),131),(ak (x.services.flatMap bZ),131),(ak (jV x.records (lvI x.records (x.records.length+2))),132),(ak (bU x),134),(ak (iE x),133),(ak (eU x),240),(ak (cZ x),241),(ak (dH x),133)]
def doc(x:Sch):ByteArray × Nat:=dB (JG x)
theorem jv(t:List Test)(e:Nat)(l:List (Option ByteArray × Nat))(m:List Flt)(h:ak t=none->dB l=first m):dB ((ak t,e)::l)=first (run e t none::m):=by
 rw[wJ];cases hf:ak t with
 |none=>exact h hf
 |some s=>rfl
theorem Dw(x:Sch):doc x=check x:=by
 unfold doc JG check dF;refine jv _ _ _ _ λh1=>jv _ _ _ _ λh2=>jv _ _ _ _ λh3=>?_
 have e:dB ((ak (x.records.flatMap (eH x)),131)::(ak (x.services.flatMap bZ),131)::[(ak (jV x.records (lvI x.records (x.records.length+2))),132),(ak (bU x),134),(ak (iE x),133),(ak (eU x),240),(ak (cZ x),241),(ak (dH x),133)])=dB ((ak (kJ x),131)::[(ak (jV x.records (lvI x.records (x.records.length+2))),132),(ak (bU x),134),(ak (iE x),133),(ak (eU x),240),(ak (cZ x),241),(ak (dH x),133)]):=by
  unfold kJ;rw[AV];cases ak (x.records.flatMap (eH x))with
  |none=>rfl
  |some s=>rfl
 rw[e];refine jv _ _ _ _ λh4=>?_
 rw[KA (yZ.1 h3)];refine jv _ _ _ _ λh5=>jv _ _ _ _ λh6=>?_
 rw[NP (yZ.1 h6)];exact jv _ _ _ _ λh7=>jv _ _ _ _ λh8=>jv _ _ _ _ λh9=>jv _ _ _ _ λh10=>rfl
def nK:List (ByteArray × List ByteArray)->List ByteArray->List Test
 |[],_=>[]
 |(n,ps)::l,seen=>(!bD seen n,n)::(jg n ps []++nK l (seen++[n]))
def iH(x:Sch):List (ByteArray × List ByteArray):=x.records.map (λr=>(r.name,r.fields.map (·.name)))++(x.services.map (λv=>(v.name,v.methods.map (·.name)))++x.sagas.map (λg=>(g.name,[])))
theorem Nu:∀(gs:List Sag)(seen:List ByteArray),nK (gs.map (λg=>(g.name,[]))) seen=qR gs seen
 |[],_=>rfl
 |g::gs,seen=>by
  show _::(jg g.name [] []++nK _ _)=_::qR gs _
  rw[Nu gs];rfl
theorem Nr:∀(vs:List Svc)(gs:List Sag)(seen:List ByteArray),nK (vs.map (λv=>(v.name,v.methods.map (·.name)))++gs.map (λg=>(g.name,[]))) seen=lN vs gs seen
 |[],gs,seen=>Nu gs seen
 |v::vs,gs,seen=>by
  show _::(jg v.name _ []++nK (vs.map (λv=>(v.name,v.methods.map (·.name)))++gs.map (λg=>(g.name,[]))) _)=_::(_++lN vs gs _)
  rw[Nr vs]
theorem Ns:∀(rs:List Rec)(vs:List Svc)(gs:List Sag)(seen:List ByteArray),nK (rs.map (λr=>(r.name,r.fields.map (·.name)))++(vs.map (λv=>(v.name,v.methods.map (·.name)))++gs.map (λg=>(g.name,[])))) seen=lQ rs vs gs seen
 |[],vs,gs,seen=>Nr vs gs seen
 |r::rs,vs,gs,seen=>by
  show _::(jg r.name _ []++nK (rs.map (λr=>(r.name,r.fields.map (·.name)))++(vs.map (λv=>(v.name,v.methods.map (·.name)))++gs.map (λg=>(g.name,[])))) _)=_::(_++lQ rs vs gs _)
  rw[Ns rs]
theorem Nj(x:Sch):nK (iH x) []=eX x:=Ns _ _ _ _
def zK(p:ByteArray × Nat):Value:=.tuple #[.string p.1,.int .i64 (p.2:Int)]
end Chk
section
open Go.BigFrame Go.RowKit
namespace Prn
open Id Chk
theorem pR{α β:Type}{f:α->List β}{l:List α}{m:Nat}(h:∀ a∈l,(f a).length<=m):(l.flatMap f).length<=l.length * m:=by
 induction l with
 |nil=>simp
 |cons a l ih =>
  rw[yJ,xI,xJ,Nat.succ_mul];have:=h a (by simp);have:=ih (λb hb=>h b (by simp[hb]));omega
theorem Jz{m:Nat}:∀{l:List ByteArray},(∀ u∈l,u.size<=m)->(jl l).length<=l.length * (m+1)
 |[],h=>by simp[jl]
 |a::l,h=>by
  have h1:a.data.toList.length<=m:=by have:=h a (by simp);simpa using this
  have h2:(l.flatMap λu=>32::u.data.toList).length<=l.length * (m+1):=pR (λu hu=>by have:=h u (by simp[hu]);simpa using this);show(a.data.toList++_).length<=_
  rw[xI,xJ,Nat.succ_mul];omega
theorem Qu{f:Fld}(h:f.type.length<=1000):(fF f).length<=1003:=by simp[fF];omega
theorem PZ{x:Sch}(h:Fine x){r:Rec}(hr:r∈x.records):(eu r).length<=99301:=by
 obtain⟨_,h2,h3⟩:=h.re r hr;have:=pR (f:=fF) (l:=r.fields) (λf hf=>Qu (h3 f hf).2.1);have h4:r.fields.length * 1003<=99 * 1003:=Nat.mul_le_mul_right _ h2;simp only[eu,xJ,xI,xO];omega
theorem NQ(m:Mth):(kR m).length<=2:=by unfold kR;split<;>simp
theorem PK{x:Sch}(h:Fine x){v:Svc}(hv:v∈x.services):(dn v).length<=99301:=by
 obtain⟨_,h2,_⟩:=h.sv v hv;have:=pR (f:=iZ) (l:=v.methods) (m:=10) (λm _=>by have:=NQ m;simp[iZ];omega);have h4:v.methods.length * 10<=99 * 10:=Nat.mul_le_mul_right _ h2;simp only[dn,xJ,xI,xO];omega
theorem PU{x:Sch}(h:Fine x){g:Sag}(hg:g∈x.sagas):(bW g).length<=99301:=by
 obtain⟨_,h2,_⟩:=h.sa g hg;have:=pR (f:=kD) (l:=g.steps) (m:=7) (λm _=>by simp[kD]);have h4:g.steps.length * 7<=99 * 7:=Nat.mul_le_mul_right _ h2;simp only[bW,xJ,xI,xO];omega
theorem Ia{x:Sch}(h:Fine x):(jP x).length<=297903003:=by
 have h1:=pR (f:=eu) (λr hr=>PZ h hr);have h2:=pR (f:=dn) (λr hr=>PK h hr);have h3:=pR (f:=bW) (λr hr=>PU h hr);have k1:x.records.length * 99301<=1000 * 99301:=Nat.mul_le_mul_right _ h.recs;have k2:x.services.length * 99301<=1000 * 99301:=Nat.mul_le_mul_right _ h.kU;have k3:x.sagas.length * 99301<=1000 * 99301:=Nat.mul_le_mul_right _ h.kV;simp only[jP,xJ,xI];omega
theorem NV{x:Sch}(h:Right x):∀ u∈jP x,u.size<=32:=by
 have:=LX (Ol (qm h));rwa [QW]at this
theorem Lu{x:Sch}(h:Right x)(hF:Fine x):(jl (jP x)).length<=9830799099:=by
 have h1:=Jz (NV h);have h2:(jP x).length * (32+1)<=297903003 * (32+1):=Nat.mul_le_mul_right _ (Ia hF);omega
theorem C9{x:Sch}(h:Right x){g:Sag}(hg:g∈x.sagas):∀ p∈g.steps,0<=p.at_/\p.at_<100:=λp hp=>by
 have:=(qm h).gs g hg p hp;exact⟨this.lo,by have:=this.hi;omega⟩
theorem Qo(l:List ByteArray):(jn l).size=(jl l).length:=by simp[jn,ByteArray.size]
noncomputable def text(x:Sch):ByteArray × Nat:=if(check x).2≠0 then(⟨#[]⟩,(check x).2)else if 65536<(jn (jP x)).size then(⟨#[]⟩,3)else(jn (jP x),0)
theorem text_size(x:Sch):(text x).1.size<=65536:=by
 unfold text;split
 ·exact Nat.zero_le _
 ·split
  ·exact Nat.zero_le _
  next h=>show(jn (jP x)).size<=65536;omega
noncomputable def print(x:Sch):Nat × Nat:=if(text x).2≠0 then(0,(text x).2)else(Sm.print (text x).1.data.toList,0)
end Prn
theorem LW(v:Value)(x:Id.Sch)(hF:Chk.Fine x)(w:World)(hk:Tk.KW w)(hv:Id.ay w none v x) :
  Calls Tryz.prog 13 #[v] w λe w'=>e=.returned (Chk.zK (Prn.text x))/\Below w.heap.size w w':=by
 obtain⟨R,HR⟩:∃ R,Hid (Prn.text x=R):=⟨_,hid rfl⟩;rw[HR.out];have HF:=hid hF;have HKW:=hid hk;have HV:=hid hv;obtain⟨A1,n1,c1,A2,n2,c2,A3,n3,c3,rfl,r1,r2,r3⟩:=hv;have HN1:Hid (n1=x.records.length):=hid (by obtain⟨_,_,e,_⟩:=ah.slice r1;injection e);have hm1:n1<=9223372036854775807:=by obtain⟨_,_,e,_,_⟩:=ah.slice r1;injection e;omega
 have H1:=hid r1;have HN2:Hid (n2=x.services.length):=hid (by obtain⟨_,_,e,_⟩:=ah.slice r2;injection e);have hm2:n2<=9223372036854775807:=by obtain⟨_,_,e,_,_⟩:=ah.slice r2;injection e;omega
 have H2:=hid r2;have HN3:Hid (n3=x.sagas.length):=hid (by obtain⟨_,_,e,_⟩:=ah.slice r3;injection e);have hm3:n3<=9223372036854775807:=by obtain⟨_,_,e,_,_⟩:=ah.slice r3;injection e;omega
 have H3:=hid r3;clear r1 r2 r3 hk hF;go_enter Tryz.func13,Tryz.ntmps13;go_upto_region 1 with(fail)
 refine aj (λV hV=>?_);have HL:=hid (Chk.Lx.start hV);clear hV;obtain⟨⟨q0,q1,q2,q3⟩,-⟩:=HL.out.box.k4;obtain⟨p,Hp⟩:∃ p,Hid (Chk.check x=p):=⟨_,hid rfl⟩;go_wp2_with fail;refine(Bc _ x HF.out _ (HKW.out.below HL.out.bel) (Id.ay.below HL.out.bel HV.out)).mono ?_;rw[Hp.out];rintro e W1⟨rfl,hb⟩;have HLx:=hid (HL.out.below hb);clear HL hb q0 q1 q2 q3;obtain⟨ps,pe⟩:=p;simp only;by_cases hpe:pe=0
 case neg =>
  have HE:Hid (R=(⟨#[]⟩,pe)):=hid (by rw[<-HR.out];unfold Prn.text;rw[Hp.out,if_pos hpe]);have t1:((pe:Int) != 0)=true:=by rw[bne_iff_ne];omega
  have t2:¬(pe:Int)=0:=by omega
  have t3:((pe:Int)==0)=false:=by rw[xG];omega
  clear hpe;go_wp2_with fail;go_ret2;exact⟨by rw[HE.out];rfl,HLx.out.bel⟩
 subst hpe;have hRt:=Chk.sF (x:=x) (by rw[Hp.out]);have HRt:=hid hRt;have HRR:Hid ((if 65536<(Prn.jn (Prn.jP x)).size then((⟨#[]⟩:ByteArray),3)else(Prn.jn (Prn.jP x),0))=R):=hid (by rw[<-HR.out];unfold Prn.text;rw[Hp.out];exact(if_neg (by simp)).symm);have HJL:=hid (Prn.Lu hRt HF.out);have HLEN:=hid (Prn.Ia HF.out);clear hRt HR Hp;obtain⟨⟨q0,q1,q2,q3⟩,-⟩:=HLx.out.box.k4;have bq:=HLx.out.bel.size;go_upto_region 5 with(fail)
 refine aj (λW2 hW=>?_);obtain⟨hbx,hqx,-⟩:=au hW;have HBX:=hid (HLx.out.box.below hbx HLx.out.box.lt);have hb2:=HLx.out.bel.trans (hbx.mono bq);have hwr:Prn.Wr W2 w.heap.size W1.heap.size []:=⟨bq,hb2.size,_,hqx,ah.nil _ _ _ _ _⟩;have HP:=hid (Prn.Put.start hb2 hwr);clear hW hbx hqx hb2 hwr HLx q0 q1 q2 q3;obtain⟨⟨q0,q1,q2,q3⟩,-⟩:=HBX.out.k4;have HSW:Hid (Prn.jP x=[Id.fP,x.name,Id.aQ]++x.records.flatMap Prn.eu++x.services.flatMap Prn.dn++x.sagas.flatMap Prn.bW):=hid (by simp[Prn.jP]);have hlen:(x.records.flatMap Prn.eu).length+(x.services.flatMap Prn.dn).length+(x.sagas.flatMap Prn.bW).length+3<=297903003:=by have h:=HLEN.out;rw[HSW.out]at h;simp only[xI,xJ,xO]at h;omega
 have KE:=HBX;go_wp2_with fail;refine(fB W1.heap.size [] [Id.fP,x.name,Id.aQ] 3 #[.string Id.fP,.string x.name,.string Id.aQ] rfl rfl w W2 _ _ HP.out (by simp)).mono ?_;rintro e W3⟨rfl,hp⟩;have HP3:=hid hp;have RS:=hp.on.bk KE.out (by decide) (by decide);clear hp HP q0 q1 q2 q3;have HBX:=hid RS;clear RS;obtain⟨⟨q0,q1,q2,q3⟩,-⟩:=HBX.out.k4;go_wp2_with fail;go_loopw [32] (λi wr=>∃(k:Nat),k<=n1/\i=.int .i64 k/\Hid (Prn.Put w W2 W1.heap.size [] ([Id.fP,x.name,Id.aQ]++(x.records.take k).flatMap Prn.eu) wr)) (λi _=>n1 - (intOf i).toNat)
 case atStart=>exact⟨0,by omega,rfl,HP3⟩
 case round =>
  clear q0 q1 q2 q3 HP3 HBX;obtain⟨k,hk,rfl,HP⟩:=hrel;obtain⟨V1,rfl⟩:∃ w',w'=wr:=⟨_,rfl⟩;have ik0:(0:Int)<=(k:Int):=by omega
  have HBX:=hid (HP.out.on.bk KE.out (by decide) (by decide));obtain⟨⟨q0,q1,q2,q3⟩,-⟩:=HBX.out.k4;by_cases hlt:k<n1
  case neg =>
   have HPn:Hid (Prn.Put w W2 W1.heap.size [] ([Id.fP,x.name,Id.aQ]++x.records.flatMap Prn.eu) V1):=hid (by have h:=HP.out;rw[yE (by have:=HN1.out;omega)]at h;exact h);clear HP;go_wp2_with fail;go_loopw [43] (λi wr=>∃(k:Nat),k<=n2/\i=.int .i64 k/\Hid (Prn.Put w W2 W1.heap.size [] ([Id.fP,x.name,Id.aQ]++x.records.flatMap Prn.eu++(x.services.take k).flatMap Prn.dn) wr)) (λi _=>n2 - (intOf i).toNat)
   case atStart=>exact⟨0,by omega,rfl,hid (HPn.out.cast (by rw[List.take_zero,List.flatMap_nil,List.append_nil]))⟩
   case round =>
    clear q0 q1 q2 q3 HPn HBX;obtain⟨k,hk,rfl,HP⟩:=hrel;obtain⟨V1,rfl⟩:∃ w',w'=wr:=⟨_,rfl⟩;have ik0:(0:Int)<=(k:Int):=by omega
    have HBX:=hid (HP.out.on.bk KE.out (by decide) (by decide));obtain⟨⟨q0,q1,q2,q3⟩,-⟩:=HBX.out.k4;by_cases hlt:k<n2
    case neg =>
     have HPn:Hid (Prn.Put w W2 W1.heap.size [] ([Id.fP,x.name,Id.aQ]++x.records.flatMap Prn.eu++x.services.flatMap Prn.dn) V1):=hid (by have h:=HP.out;rw[yE (by have:=HN2.out;omega)]at h;exact h);clear HP;go_wp2_with fail;go_loopw [54] (λi wr=>∃(k:Nat),k<=n3/\i=.int .i64 k/\Hid (Prn.Put w W2 W1.heap.size [] ([Id.fP,x.name,Id.aQ]++x.records.flatMap Prn.eu++x.services.flatMap Prn.dn++(x.sagas.take k).flatMap Prn.bW) wr)) (λi _=>n3 - (intOf i).toNat)
     case atStart=>exact⟨0,by omega,rfl,hid (HPn.out.cast (by rw[List.take_zero,List.flatMap_nil,List.append_nil]))⟩
     case round =>
      clear q0 q1 q2 q3 HPn HBX;obtain⟨k,hk,rfl,HP⟩:=hrel;obtain⟨V1,rfl⟩:∃ w',w'=wr:=⟨_,rfl⟩;have ik0:(0:Int)<=(k:Int):=by omega
      have HBX:=hid (HP.out.on.bk KE.out (by decide) (by decide));obtain⟨⟨q0,q1,q2,q3⟩,-⟩:=HBX.out.k4;by_cases hlt:k<n3
      case neg =>
       have HPn:Hid (Prn.Put w W2 W1.heap.size [] ([Id.fP,x.name,Id.aQ]++x.records.flatMap Prn.eu++x.services.flatMap Prn.dn++x.sagas.flatMap Prn.bW) V1):=hid (by have h:=HP.out;rw[yE (by have:=HN3.out;omega)]at h;exact h);clear HP;have HPz:Hid (Prn.Put w W2 W1.heap.size [] (Prn.jP x) V1):=hid (HPn.out.cast HSW.out.symm);clear HPn;go_wp2_with fail;refine(Am W1.heap.size (Prn.jP x) w.heap.size V1 (by have h:=HPz.out.wr;rw[yI]at h;exact h) (by have:=HLEN.out;omega) (by have:=HJL.out;omega)).mono ?_;rintro e V9⟨rfl,hb9⟩;have HJ9:Hid (V9=V9):=hid rfl;have HB9:=hid (HPz.out.bel.trans (hb9.mono HPz.out.bel.size));generalize Prn.jn (Prn.jP x)=J at *;clear hb9;by_cases h6:65536<J.size
       case pos =>
        have HE:Hid (R=(⟨#[]⟩,3)):=hid (by rw[<-HRR.out,if_pos h6]);have h6i:(65536:Int)<(J.size:Int):=by omega
        go_wp2_with fail;go_ret2;exact⟨by rw[HE.out];rfl,HB9.out⟩
       have HE:Hid (R=(J,0)):=hid (by rw[<-HRR.out,if_neg h6]);have h6i:¬(65536:Int)<(J.size:Int):=by omega
       go_wp2_with fail;go_ret2;exact⟨by rw[HE.out];rfl,HB9.out⟩
      have hka:k<x.sagas.length:=by rw[<-HN3.out];exact hlt
      have hmem:=xR hka;have hfl:=Prn.jS Prn.bW hka;have HTK:=hid (Prn.lX Prn.bW hka);obtain⟨g1,off1,cs,rfl,-,⟨u,he,HU⟩,hc⟩:=ah.get H3.out hka (by omega);have KF:=hid (Prn.C9 HRt.out hmem);obtain⟨r,Hr⟩:∃ r,Hid (x.sagas[k]=r):=⟨_,hid rfl⟩;rw[Hr.out]at he HU hfl HTK KF;subst he;have HU5:=hid HU;obtain⟨A5,n5,c5,rfl⟩:=ah.is HU;have b0:=hc 0 _ rfl;have b1:=hc 1 _ rfl;have b2:=hc 2 _ rfl;simp only[xK]at b0;have aC:g1<w.heap.size:=xH w _ b0;have b0:=(HP.out.bel.cell aC).trans b0;have b1:=(HP.out.bel.cell aC).trans b1;have b2:=(HP.out.bel.cell aC).trans b2;have bqs:=HP.out.bel.size;have qP:¬g1=V1.heap.size:=by omega
      have ik1:(k:Int)<(n3:Int):=by omega
      generalize hM:((x.sagas.take k).flatMap Prn.bW).length=m at hfl;have HM:=hid hM;generalize hM2:(Prn.bW r).length=m2 at hfl;have HM2:=hid hM2;clear hc HU hM hM2 Hr bqs hmem;go_upto_region 19 with(fail)
      refine aj (λV2 hW=>?_);obtain⟨hbx,hqx,-⟩:=au hW;have HPc:=hid (HP.out.below hbx);obtain⟨⟨d0,d1,d2⟩,-⟩:=hqx.k3;clear hW hbx hqx HP q0 q1 q2 q3 b0 b1 b2;go_wp2_with fail;refine(Jo W1.heap.size _ r _ w V2 HPc.out.bel HPc.out.wr HU5.out KF.out (by simp only[xI,xJ,xO,HM.out,HM2.out];omega)).mono ?_;rintro e V3⟨rfl,hp⟩;have HPg:Hid (Prn.Put w W2 W1.heap.size [] ([Id.fP,x.name,Id.aQ]++x.records.flatMap Prn.eu++x.services.flatMap Prn.dn++(x.sagas.take (k+1)).flatMap Prn.bW) V3):=hid ((HPc.out.step hp).cast (by rw[HTK.out];simp only[xU,yI]));clear hp;go_wp2_with fail;go_roundw
      case rel=>exact⟨k+1,by omega,by go_num,HPg⟩
      case measure=>simp[intOf]<;>omega
    have hka:k<x.services.length:=by rw[<-HN2.out];exact hlt
    have hmem:=xR hka;have hfl:=Prn.jS Prn.dn hka;have HTK:=hid (Prn.lX Prn.dn hka);obtain⟨g1,off1,cs,rfl,-,⟨u,he,HU⟩,hc⟩:=ah.get H2.out hka (by omega);obtain⟨r,Hr⟩:∃ r,Hid (x.services[k]=r):=⟨_,hid rfl⟩;rw[Hr.out]at he HU hfl HTK;subst he;have HU5:=hid HU;obtain⟨A5,n5,c5,rfl⟩:=ah.is HU;have b0:=hc 0 _ rfl;have b1:=hc 1 _ rfl;simp only[xK]at b0;have aC:g1<w.heap.size:=xH w _ b0;have b0:=(HP.out.bel.cell aC).trans b0;have b1:=(HP.out.bel.cell aC).trans b1;have bqs:=HP.out.bel.size;have qP:¬g1=V1.heap.size:=by omega
    have ik1:(k:Int)<(n2:Int):=by omega
    generalize hM:((x.services.take k).flatMap Prn.dn).length=m at hfl;have HM:=hid hM;generalize hM2:(Prn.dn r).length=m2 at hfl;have HM2:=hid hM2;clear hc HU hM hM2 Hr bqs hmem;go_upto_region 14 with(fail)
    refine aj (λV2 hW=>?_);obtain⟨hbx,hqx,-⟩:=au hW;have HPc:=hid (HP.out.below hbx);obtain⟨⟨d0,d1⟩,-⟩:=hqx.k2;clear hW hbx hqx HP q0 q1 q2 q3 b0 b1;go_wp2_with fail;refine(DX W1.heap.size _ r _ w V2 HPc.out.bel HPc.out.wr HU5.out (by simp only[xI,xJ,xO,HM.out,HM2.out];omega)).mono ?_;rintro e V3⟨rfl,hp⟩;have HPg:Hid (Prn.Put w W2 W1.heap.size [] ([Id.fP,x.name,Id.aQ]++x.records.flatMap Prn.eu++(x.services.take (k+1)).flatMap Prn.dn) V3):=hid ((HPc.out.step hp).cast (by rw[HTK.out];simp only[xU,yI]));clear hp;go_wp2_with fail;go_roundw
    case rel=>exact⟨k+1,by omega,by go_num,HPg⟩
    case measure=>simp[intOf]<;>omega
  have hka:k<x.records.length:=by rw[<-HN1.out];exact hlt
  have hmem:=xR hka;have hfl:=Prn.jS Prn.eu hka;have HTK:=hid (Prn.lX Prn.eu hka);obtain⟨g1,off1,cs,rfl,-,⟨u,he,HU⟩,hc⟩:=ah.get H1.out hka (by omega);obtain⟨r,Hr⟩:∃ r,Hid (x.records[k]=r):=⟨_,hid rfl⟩;rw[Hr.out]at he HU hfl HTK;subst he;have HU5:=hid HU;obtain⟨A5,n5,c5,rfl⟩:=ah.is HU;have b0:=hc 0 _ rfl;have b1:=hc 1 _ rfl;have b2:=hc 2 _ rfl;simp only[xK]at b0;have aC:g1<w.heap.size:=xH w _ b0;have b0:=(HP.out.bel.cell aC).trans b0;have b1:=(HP.out.bel.cell aC).trans b1;have b2:=(HP.out.bel.cell aC).trans b2;have bqs:=HP.out.bel.size;have qP:¬g1=V1.heap.size:=by omega
  have ik1:(k:Int)<(n1:Int):=by omega
  generalize hM:((x.records.take k).flatMap Prn.eu).length=m at hfl;have HM:=hid hM;generalize hM2:(Prn.eu r).length=m2 at hfl;have HM2:=hid hM2;clear hc HU hM hM2 Hr bqs hmem;go_upto_region 9 with(fail)
  refine aj (λV2 hW=>?_);obtain⟨hbx,hqx,-⟩:=au hW;have HPc:=hid (HP.out.below hbx);obtain⟨⟨d0,d1,d2⟩,-⟩:=hqx.k3;clear hW hbx hqx HP q0 q1 q2 q3 b0 b1 b2;go_wp2_with fail;refine(ET W1.heap.size _ r _ w V2 HPc.out.bel HPc.out.wr HU5.out (by simp only[xI,xJ,xO,HM.out,HM2.out];omega)).mono ?_;rintro e V3⟨rfl,hp⟩;have HPg:Hid (Prn.Put w W2 W1.heap.size [] ([Id.fP,x.name,Id.aQ]++(x.records.take (k+1)).flatMap Prn.eu) V3):=hid ((HPc.out.step hp).cast (by rw[HTK.out];simp only[xU,yI]));clear hp;go_wp2_with fail;go_roundw
  case rel=>exact⟨k+1,by omega,by go_num,HPg⟩
  case measure=>simp[intOf]<;>omega
theorem Jq(v:Value)(x:Id.Sch)(hF:Chk.Fine x)(w:World)(hk:Tk.KW w)(hv:Id.ay w none v x) :
  Calls Tryz.prog 14 #[v] w λe w'=>e=.returned (.tuple #[.int .u64 (Prn.print x).1,.int .i64 (Prn.print x).2])/\Below w.heap.size w w':=by
 obtain⟨R,HR⟩:∃ R,Hid (Prn.print x=R):=⟨_,hid rfl⟩;rw[HR.out];have HF:=hid hF;have HKW:=hid hk;have HV:=hid hv;obtain⟨A1,n1,c1,A2,n2,c2,A3,n3,c3,rfl,r1,r2,r3⟩:=hv;clear r1 r2 r3 hk hF;go_enter Tryz.func14,Tryz.ntmps14;go_upto_region 1 with(fail)
 refine aj (λV hV=>?_);have HL:=hid (Chk.Lx.start hV);clear hV;obtain⟨⟨q0,q1,q2,q3⟩,-⟩:=HL.out.box.k4;have hts:=Prn.text_size x;obtain⟨p,Hp⟩:∃ p,Hid (Prn.text x=p):=⟨_,hid rfl⟩;rw[Hp.out]at hts;go_wp2_with fail;refine(LW _ x HF.out _ (HKW.out.below HL.out.bel) (Id.ay.below HL.out.bel HV.out)).mono ?_;rw[Hp.out];unfold Chk.zK;rintro e W1⟨rfl,hb⟩;have HB:=hid (HL.out.bel.trans (hb.mono HL.out.bel.size));clear HL hb q0 q1 q2 q3;obtain⟨ps,pe⟩:=p;simp only at hts ⊢;by_cases hpe:pe=0
 case neg =>
  have HE:Hid (R=(0,pe)):=hid (by rw[<-HR.out];unfold Prn.print;rw[Hp.out,if_pos hpe]);have t1:((pe:Int) != 0)=true:=by rw[bne_iff_ne];omega
  have t2:¬(pe:Int)=0:=by omega
  have t3:((pe:Int)==0)=false:=by rw[xG];omega
  clear hpe;go_wp2_with fail;go_ret2;exact⟨by rw[HE.out];rfl,HB.out⟩
 subst hpe;have HE:Hid (R=(Sm.print ps.data.toList,0)):=hid (by rw[<-HR.out];unfold Prn.print;rw[Hp.out,if_neg (by simp)]);go_wp2_with fail;refine(OA ps (by unfold maxLen;omega) _).mono ?_;rintro e W2⟨rfl,rfl⟩;go_wp2_with fail;go_ret2;exact⟨by rw[HE.out];rfl,HB.out⟩
end
