import Derived.Test.YtogijkhenihaaaaGreatDoorGB15
import Derived.Test.YtogijkhenihaaaaGreatDoorGB12
set_option linter.all false
set_option maxRecDepth 100000
set_option maxHeartbeats 0
namespace Go.Proofs.YtogijkhenihaaaaGreatDoor
open Lib (hid)
namespace Chk
open Id
theorem vg(e:Nat)(p:ByteArray × Nat):∀ l:List Test,run e l (some p)=some p
 |[]=>rfl
 |t::l=>by
  have:at_ t.1 t.2 e (some p)=some p:=by unfold at_;cases t.1<;>rfl
  show run e l (at_ t.1 t.2 e (some p))=some p
  rw[this];exact vg e p l
theorem zx{e:Nat}:∀{l:List Test},run e l none=none↔∀ t∈l,t.1=true
 |[]=>by simp[run]
 |t::l=>by
  show run e l (at_ t.1 t.2 e none)=none↔_
  cases h:t.1
  ·have:at_ false t.2 e none=some (t.2,e):=rfl
   rw[this,vg];simp[h]
  ·have:at_ true t.2 e none=none:=rfl
   rw[this,zx];simp[h]
theorem EG{e:Nat}:∀{l:List Test}{p:ByteArray × Nat},run e l none=some p->p.2=e
 |[],p,h=>by cases h
 |t::l,p,h=>by
  replace h:run e l (at_ t.1 t.2 e none)=some p:=h;cases ht:t.1
  ·have:at_ t.1 t.2 e none=some (t.2,e):=by rw[ht];rfl
   rw[this,vg]at h;injection h with h
   rw[<-h]
  ·have:at_ t.1 t.2 e none=none:=by rw[ht];rfl
   rw[this]at h;exact EG h
def Right(x:Sch):Prop:=∀ f∈dF x,f=none
theorem FH:∀{l:List Flt},(∀ f∈l,∀ p,f=some p->p.2≠0)->(first l).2=0->∀ f∈l,f=none
 |[],_,_=>by simp
 |none::l,h,h0=>by
  intro f hf;rcases List.mem_cons.1 hf with rfl|hf
  ·rfl
  ·exact FH (l:=l) (λg hg=>h g (by simp[hg])) h0 f hf
 |some p::l,h,h0=>absurd h0 (h _ (by simp) p rfl)
theorem sF{x:Sch}(h:(check x).2=0):Right x:=by
 refine FH (λf hf p hp=>?_) h;unfold dF at hf;simp only[yH,List.not_mem_nil,or_false]at hf;rcases hf with h|h|h|h|h|h|h|h|h|h<;>(rw[h]at hp;rw[EG hp];decide)
theorem oD{x:Sch}:Right x↔(∀ t∈namesT x,t.1=true)/\(∀ t∈gQ x,t.1=true)/\(∀ t∈eX x,t.1=true)/\(∀ t∈kJ x,t.1=true)/\(∀ t∈jE x,t.1=true)/\(∀ t∈bU x,t.1=true)/\(∀ t∈nM x,t.1=true)/\(∀ t∈eU x,t.1=true)/\(∀ t∈cZ x,t.1=true)/\(∀ t∈dH x,t.1=true):=by
 unfold Right dF;simp only[yH,List.not_mem_nil,or_false,forall_eq_or_imp,forall_eq,zx]
def jH:List ByteArray->List ByteArray->Prop
 |_,[]=>True
 |seen,a::l=>bD seen a=false/\jH (seen++[a]) l
theorem FK:∀{seen A B:List ByteArray},jH seen (A++B)↔jH seen A/\jH (seen++A) B
 |seen,[],B=>by simp[jH]
 |seen,a::A,B=>by
  show(_/\jH (seen++[a]) (A++B))↔_
  rw[FK];show _↔(_/\jH (seen++[a]) A)/\jH (seen++(a::A)) B
  rw[xU,List.singleton_append,and_assoc]
theorem D6:∀{gs:List Sag}{seen:List ByteArray},(∀ t∈qR gs seen,t.1=true)↔jH seen (gs.map (·.name))
 |[],seen=>by simp[qR,jH]
 |g::gs,seen=>by
  unfold qR;simp only[yH,forall_eq_or_imp,List.map_cons,jH,Bool.not_eq_true'];rw[D6]
theorem Dy:∀{vs:List Svc}{gs:List Sag}{seen:List ByteArray},(∀ t∈lN vs gs seen,t.1=true)↔jH seen (vs.map (·.name)++gs.map (·.name))/\∀ v∈vs,∀ t∈jg v.name (v.methods.map (·.name)) [],t.1=true
 |[],gs,seen=>by
  unfold lN;rw[D6];simp
 |v::vs,gs,seen=>by
  unfold lN;simp only[yH,forall_eq_or_imp,List.map_cons,List.mem_append,Bool.not_eq_true'];have h1:(∀ t:Test,t∈jg v.name (v.methods.map (·.name)) []∨t∈lN vs gs (seen++[v.name])->t.1=true)↔(∀ t∈jg v.name (v.methods.map (·.name)) [],t.1=true)/\∀ t∈lN vs gs (seen++[v.name]),t.1=true:=⟨λh=>⟨λt ht=>h t (.inl ht),λt ht=>h t (.inr ht)⟩,λh t ht=>ht.elim (h.1 t) (h.2 t)⟩;rw[h1,Dy];show _↔(_/\jH _ _)/\_
  exact⟨λ⟨a,b,c,d⟩=>⟨⟨a,c⟩,b,d⟩,λ⟨⟨a,c⟩,b,d⟩=>⟨a,b,c,d⟩⟩
theorem Dz:∀{rs:List Rec}{vs:List Svc}{gs:List Sag}{seen:List ByteArray},(∀ t∈lQ rs vs gs seen,t.1=true)↔jH seen (rs.map (·.name)++(vs.map (·.name)++gs.map (·.name)))/\(∀ r∈rs,∀ t∈jg r.name (r.fields.map (·.name)) [],t.1=true)/\∀ v∈vs,∀ t∈jg v.name (v.methods.map (·.name)) [],t.1=true
 |[],vs,gs,seen=>by
  unfold lQ;rw[Dy];simp
 |r::rs,vs,gs,seen=>by
  unfold lQ;simp only[yH,forall_eq_or_imp,List.map_cons,List.mem_append,Bool.not_eq_true'];have h1:(∀ t:Test,t∈jg r.name (r.fields.map (·.name)) []∨t∈lQ rs vs gs (seen++[r.name])->t.1=true)↔(∀ t∈jg r.name (r.fields.map (·.name)) [],t.1=true)/\∀ t∈lQ rs vs gs (seen++[r.name]),t.1=true:=⟨λh=>⟨λt ht=>h t (.inl ht),λt ht=>h t (.inr ht)⟩,λh t ht=>ht.elim (h.1 t) (h.2 t)⟩;rw[h1,Dz];show _↔(_/\jH _ _)/\_
  exact⟨λ⟨a,b,c,d,e⟩=>⟨⟨a,c⟩,⟨b,d⟩,e⟩,λ⟨⟨a,c⟩,⟨b,d⟩,e⟩=>⟨a,b,c,d,e⟩⟩
theorem vV{a:ByteArray}:∀{seen l:List ByteArray},jH seen l->a∈l->bD seen a=false
 |seen,b::l,h,ha=>by
  rcases List.mem_cons.1 ha with rfl|ha
  ·exact h.1
  ·have:=vV h.2 ha
   rw[lY]at this;simp at this;exact this.1
theorem Fv{x:Sch}{a b:ByteArray}{m:Mth}(h:meth x a b=some m):∃ v∈x.services,v.name.toList=a.toList/\m∈v.methods:=by
 unfold meth at h;split at h
 ·cases h
 ·rename_i v hv
  exact⟨v,List.mem_of_find?_eq_some hv,by simpa using List.find?_some hv,List.mem_of_find?_eq_some h⟩
theorem Jv{x:Sch}{a a' b:ByteArray}(h:a.toList=a'.toList):meth x a b=meth x a' b:=by
 unfold meth;rw[h]
theorem right_step{x:Sch}(h:Right x){g:Sag}(hg:g∈x.sagas){k:Nat}(hk:k<g.steps.length):∃ m,meth x g.steps[k].service g.steps[k].method=some m/\m.arg.toList=g.arg.toList /\
  (k+1<g.steps.length->∃ u,meth x g.steps[k].service m.undo=some u/\u.arg.toList=m.arg.toList/\u.undo.toList.isEmpty=true/\u.effect.toList=(contrary m.effect).toList/\(contrary m.effect).toList.isEmpty=false):=by
 obtain⟨_,_,_,_,_,he,hu,_,hs,hw⟩:=oD.1 h;have hz:(g.steps[k],k)∈g.steps.zipIdx:=by
  rw[List.mem_iff_getElem];exact⟨k,by rw[List.length_zipIdx];exact hk,by rw[List.getElem_zipIdx,Nat.zero_add]⟩
 have h1:=hs (ji x g.arg g.steps[k],nth g.name k) (List.mem_flatMap.2 ⟨g,hg,List.mem_flatMap.2 ⟨_,hz,by simp[iR]⟩⟩);have h2:=hw (qc x g.steps.length (g.steps[k],k),nth g.name k) (List.mem_flatMap.2 ⟨g,hg,List.mem_flatMap.2 ⟨_,hz,by simp[lS]⟩⟩);simp only at h1 h2;unfold ji at h1;split at h1
 ·cases h1
 ·rename_i m hm
  unfold stepOf at h1;simp only[xX,beq_iff_eq]at h1;refine⟨m,hm,h1.1.1,λhlt=>?_⟩;unfold qc at h2;rw[hm]at h2;have hne:(k+1==g.steps.length)=false:=by rw[xG];omega
  simp only[hne,Bool.false_or,Option.getD_some,Bool.not_eq_true']at h2;obtain⟨v,hv,hvn,hmv⟩:=Fv hm;have h3:=hu (m.undo.toList.isEmpty||jO x v.name m,part v.name m.name) (List.mem_flatMap.2 ⟨v,hv,List.mem_flatMap.2 ⟨m,hmv,by simp[dP]⟩⟩);have h4:=he (!(contrary m.effect).toList.isEmpty&&order x m.arg,part v.name m.name) (List.mem_flatMap.2 ⟨v,hv,List.mem_flatMap.2 ⟨m,hmv,by simp[jd]⟩⟩);simp only[h2,Bool.false_or]at h3;simp only[xX,Bool.not_eq_true']at h4;unfold jO at h3;split at h3
  ·cases h3
  ·rename_i u hum
   unfold jh at h3;simp only[xX,beq_iff_eq]at h3;exact⟨u,by rw[<-Jv hvn];exact hum,h3.1.1.1,h3.1.1.2,h3.2,h4.1⟩
end Chk
namespace Prn
open Id Chk
def nT(w:ByteArray):Tk.Tok:=⟨1,w,0,0⟩
def sT(w:ByteArray):Tk.Tok:=⟨3,w,0,0⟩
def dT(n:Int):Tk.Tok:=⟨2,qO n,n.toNat,0⟩
def lU(x:Srt):Tk.Tok:=nT (bH x)
def BN(f:Fld):List Tk.Tok:=nT f.name::sT iU::(f.type.map lU++[sT aQ])
def Jl(r:Rec):List Tk.Tok:=nT (if r.choice then jo else jm)::nT r.name::sT bF::(r.fields.flatMap BN++[sT aJ])
def zV(m:Mth):List Tk.Tok:=if m.undo.toList.isEmpty then[]else[nT iI,nT m.undo]
def BH(m:Mth):List Tk.Tok:=nT m.effect::nT m.name::sT iJ::nT m.arg::sT gu::sT jw::lU ⟨m.result,⟨#[]⟩⟩::(zV m++[sT aQ])
def IC(v:Svc):List Tk.Tok:=nT iL::nT v.name::sT bF::(v.methods.flatMap BH++[sT aJ])
def Bv(p:Stp):List Tk.Tok:=[nT wDo,nT p.service,sT kW,nT p.method,nT wAt,dT p.at_,sT aQ]
def IW(g:Sag):List Tk.Tok:=nT lT::nT g.name::sT iJ::nT g.arg::sT gu::sT bF::(g.steps.flatMap Bv++[sT aJ])
def qJ(x:Sch):List Tk.Tok:=nT fP::nT x.name::sT aQ::(x.records.flatMap Jl++(x.services.flatMap IC++x.sagas.flatMap IW))
abbrev tx(l:List Tk.Tok):List ByteArray:=l.map (·.text)
theorem qA(a b:List Tk.Tok):tx (a++b)=tx a++tx b:=List.map_append
theorem rD{α:Type}{f:α->List Tk.Tok}{g:α->List ByteArray}(h:∀ a,tx (f a)=g a)(l:List α):tx (l.flatMap f)=l.flatMap g:=by
 induction l with
 |nil=>rfl
 |cons a l ih=>rw[yJ,yJ,qA,h,ih]
theorem zo(l:List Srt):tx (l.map lU)=l.map bH:=by
 induction l with
 |nil=>rfl
 |cons a l ih=>show _::tx (l.map lU)=_::_;rw[ih];rfl
theorem RX(f:Fld):tx (BN f)=fF f:=by
 show f.name::iU::tx (f.type.map lU++[sT aQ])=_
 rw[qA,zo];rfl
theorem Rq(r:Rec):tx (Jl r)=eu r:=by
 show _::r.name::bF::tx (r.fields.flatMap BN++[sT aJ])=_
 rw[qA,rD RX];rfl
theorem RD(m:Mth):tx (BH m)=iZ m:=by
 show m.effect::m.name::iJ::m.arg::gu::jw::_::tx (zV m++[sT aQ])=_
 rw[qA];unfold zV iZ kR;split<;>rfl
theorem QV(v:Svc):tx (IC v)=dn v:=by
 show _::v.name::bF::tx (v.methods.flatMap BH++[sT aJ])=_
 rw[qA,rD RD];rfl
theorem QX(g:Sag):tx (IW g)=bW g:=by
 show _::g.name::iJ::g.arg::gu::bF::tx (g.steps.flatMap Bv++[sT aJ])=_
 rw[qA,rD (f:=Bv) (g:=kD) (λp=>rfl)];rfl
theorem QW(x:Sch):tx (qJ x)=jP x:=by
 show _::x.name::aQ::tx (x.records.flatMap Jl++(x.services.flatMap IC++x.sagas.flatMap IW))=_
 rw[qA,qA,rD Rq,rD QV,rD QX];rfl
theorem Qn(l:List Tk.Tok):Tk.nX l=jl (tx l):=by
 cases l with
 |nil=>rfl
 |cons t l =>
  show _++l.flatMap _=_++(tx l).flatMap _
  congr 1
  induction l with
  |nil=>rfl
  |cons u l ih=>rw[yJ];show _=(u.text::tx l).flatMap _;rw[yJ,ih]
def Own(t:Tk.Tok):Prop:=(0<t.text.size/\Tk.aW 3 t.text 0=({ t with at_:=0 },0))/\t.text.size<=32
theorem jD{w:ByteArray}(h:Tk.isName w=true):Own (nT w):=by
 unfold Tk.isName at h;simp only[xX,decide_eq_true_eq]at h;obtain⟨⟨⟨⟨h1,h2⟩,h3⟩,h4⟩,h5⟩:=h;refine⟨⟨h1,?_⟩,h2⟩;have hb:Tk.bC (w[0]'(by omega)).toNat=true:=by
  rw[Tk.nI (by omega)]at h3;unfold Tk.bC;rw[h3];rfl
 rw[Tk.jJ (by omega) hb]at h5;show Tk.aW 3 w 0=(nT w,0)
 unfold Tk.aW;dsimp only;rw[if_pos h3,h5,Tk.FI,if_neg (by omega)];rfl
theorem jZ{w:ByteArray}(h:Tk.pJ w=true):w∈Tk.words:=by
 unfold Tk.pJ at h;obtain⟨x,hx,e⟩:=List.any_eq_true.1 h;have e2:w=x:=Tk.text_eq (by simpa using e);rw[e2];exact hx
theorem qE:∀ w∈Tk.words,Own (nT w):=by
 intro w hw;simp only[Tk.words,yH,List.not_mem_nil,or_false]at hw;rcases hw with rfl|rfl|rfl|rfl|rfl|rfl|rfl|rfl|rfl|rfl|rfl|rfl|rfl|rfl|rfl|rfl|rfl<;>exact⟨⟨by decide,by kernel_rfl⟩,by decide⟩
theorem LZ:Own (sT iU):=⟨⟨by decide,by kernel_rfl⟩,by decide⟩
theorem vF:Own (sT aQ):=⟨⟨by decide,by kernel_rfl⟩,by decide⟩
theorem zy:Own (sT bF):=⟨⟨by decide,by kernel_rfl⟩,by decide⟩
theorem wQ:Own (sT aJ):=⟨⟨by decide,by kernel_rfl⟩,by decide⟩
theorem EZ:Own (sT iJ):=⟨⟨by decide,by kernel_rfl⟩,by decide⟩
theorem CX:Own (sT gu):=⟨⟨by decide,by kernel_rfl⟩,by decide⟩
theorem Qc:Own (sT kW):=⟨⟨by decide,by kernel_rfl⟩,by decide⟩
theorem Mc:Own (sT jw):=⟨⟨by decide,by kernel_rfl⟩,by decide⟩
theorem O1(n:Nat)(h:n<10):qO (n:Int)=⟨#[UInt8.ofNat (48+n)]⟩:=by
 unfold qO;rw[Lib.itoa_nonneg,Lib.decDigits_one h]
theorem Qb{n:Int}(h0:0<=n)(h4:n<4):Own (dT n):=by
 have:n=((0:Nat):Int)∨n=((1:Nat):Int)∨n=((2:Nat):Int)∨n=((3:Nat):Int):=by omega
 rcases this with rfl|rfl|rfl|rfl<;>(unfold dT;rw[O1 _ (by decide)];exact⟨⟨by decide,by kernel_rfl⟩,by decide⟩)
def uG(x:Srt):Bool:=if x.kind=1∨x.kind=2∨x.kind=3∨x.kind=4 then x.name.toList.isEmpty else if x.kind=7 then Tk.isName x.name else false
def okP:List Srt->Bool
 |[]=>false
 |[x]=>uG x
 |x::y::l=>mid x&&okP (y::l)
structure OkM(m:Mth):Prop where
 ef:m.effect=fO∨m.effect=fK∨m.effect=fM
 nm:Tk.isName m.name=true
 ar:Tk.isName m.arg=true
 re:m.result=1∨m.result=3
 un:m.undo.toList.isEmpty=true∨Tk.isName m.undo=true
structure Sv(p:Stp):Prop where
 sv:Tk.isName p.service=true
 me:Tk.isName p.method=true
 lo:0<=p.at_
 hi:p.at_<4
structure Ok(x:Sch):Prop where
 nm:Tk.isName x.name=true
 rn:∀ r∈x.records,Tk.isName r.name=true
 rf:∀ r∈x.records,∀ f∈r.fields,Tk.isName f.name=true/\okP f.type=true
 vn:∀ v∈x.services,Tk.isName v.name=true
 vm:∀ v∈x.services,∀ m∈v.methods,OkM m
 gn:∀ g∈x.sagas,Tk.isName g.name=true/\Tk.isName g.arg=true
 gs:∀ g∈x.sagas,∀ p∈g.steps,Sv p
theorem empty_of{w:ByteArray}(h:w.toList.isEmpty=true):w=⟨#[]⟩:=Tk.text_eq (by
 rw[List.isEmpty_iff.1 h];decide +kernel)
theorem Dv{x:Srt}(h:uG x=true):(x=⟨1,⟨#[]⟩⟩∨x=⟨2,⟨#[]⟩⟩∨x=⟨3,⟨#[]⟩⟩∨x=⟨4,⟨#[]⟩⟩)∨(x.kind=7/\Tk.isName x.name=true):=by
 obtain⟨k,n⟩:=x;unfold uG at h;simp only at h ⊢;split at h
 next hk =>
  rw[empty_of h];left
  rcases hk with rfl|rfl|rfl|rfl<;>simp
 next hk =>
  split at h
  next h7=>exact .inr ⟨h7,h⟩
  next=>cases h
theorem Fq{x:Srt}(h:mid x=true):x=⟨5,⟨#[]⟩⟩∨x=⟨6,⟨#[]⟩⟩:=by
 obtain⟨k,n⟩:=x;unfold mid at h;simp only[xX,Bool.or_eq_true,beq_iff_eq]at h;rw[empty_of h.2];rcases h.1 with rfl|rfl<;>simp
theorem tC{x:Srt}(h:(x=⟨1,⟨#[]⟩⟩∨x=⟨2,⟨#[]⟩⟩∨x=⟨3,⟨#[]⟩⟩∨x=⟨4,⟨#[]⟩⟩)∨(x=⟨5,⟨#[]⟩⟩∨x=⟨6,⟨#[]⟩⟩)):Own (lU x):=by
 rcases h with(rfl|rfl|rfl|rfl)|(rfl|rfl)<;>exact⟨⟨by decide,by kernel_rfl⟩,by decide⟩
theorem IG{x:Srt}(h:x.kind=7):bH x=x.name:=by
 unfold bH;simp[h]
theorem tY:∀{t:List Srt},okP t=true->∀ x∈t,Own (lU x)
 |[],h,x,hx=>by cases hx
 |[y],h,x,hx=>by
  simp only[List.mem_singleton]at hx;subst hx;rcases Dv h with h1|⟨h7,hn⟩
  ·exact tC (.inl h1)
  ·unfold lU
   rw[IG h7];exact jD hn
 |y::z::l,h,x,hx=>by
  have h':(mid y&&okP (z::l))=true:=h;rw[xX]at h';rcases List.mem_cons.1 hx with rfl|hx
  ·exact tC (.inr (Fq h'.1))
  ·exact tY h'.2 x hx
def lH(l:List Tk.Tok):Prop:=∀ t∈l,Own t
theorem mg:lH []:=λt h=>by cases h
theorem aU{t:Tk.Tok}{l:List Tk.Tok}(h:Own t)(k:lH l):lH (t::l):=λu hu=>by
 rcases List.mem_cons.1 hu with rfl|hu
 ·exact h
 ·exact k u hu
theorem ou{a b:List Tk.Tok}(h:lH a)(k:lH b):lH (a++b):=λu hu=>(List.mem_append.1 hu).elim (h u) (k u)
theorem oH{α:Type}{f:α->List Tk.Tok}{l:List α}(h:∀ a∈l,lH (f a)):lH (l.flatMap f):=λu hu=>by
 obtain⟨a,ha,hu⟩:=List.mem_flatMap.1 hu;exact h a ha u hu
theorem Oo{f:Fld}(h:Tk.isName f.name=true/\okP f.type=true):lH (BN f):=aU (jD h.1) (aU LZ (ou (λt ht=>by
 obtain⟨x,hx,rfl⟩:=List.mem_map.1 ht;exact tY h.2 x hx) (aU vF mg)))
theorem Om{m:Mth}(h:OkM m):lH (BH m):=by
 refine aU ?_ (aU (jD h.nm) (aU EZ (aU (jD h.ar) (aU CX (aU Mc (aU ?_ (ou ?_ (aU vF mg))))))))
 ·rcases h.ef with e|e|e<;>(rw[e];exact qE _ (jZ (by decide +kernel)))
 ·rcases h.re with e|e<;>rw[e]
  ·exact tC (.inl (.inl rfl))
  ·exact tC (.inl (.inr (.inr (.inl rfl))))
 ·unfold zV
  split
  ·exact mg
  ·next hu =>
   rcases h.un with e|e
   ·exact absurd e hu
   ·exact aU (qE _ (jZ (by decide +kernel))) (aU (jD e) mg)
theorem Oj{p:Stp}(h:Sv p):lH (Bv p):=aU (qE _ (jZ (by decide +kernel))) (aU (jD h.sv) (aU Qc (aU (jD h.me) (aU (qE _ (jZ (by decide +kernel))) (aU (Qb h.lo h.hi) (aU vF mg))))))
theorem Ol{x:Sch}(h:Ok x):lH (qJ x):=by
 refine aU (qE _ (jZ (by decide +kernel))) (aU (jD h.nm) (aU vF (ou (oH λr hr=>?_) (ou (oH λv hv=>?_) (oH λg hg=>?_)))))
 ·refine aU ?_ (aU (jD (h.rn r hr)) (aU zy (ou (oH λf hf=>Oo (h.rf r hr f hf)) (aU wQ mg))))
  split<;>exact qE _ (jZ (by decide +kernel))
 ·exact aU (qE _ (jZ (by decide +kernel))) (aU (jD (h.vn v hv)) (aU zy (ou (oH λm hm=>Om (h.vm v hv m hm)) (aU wQ mg))))
 ·exact aU (qE _ (jZ (by decide +kernel))) (aU (jD (h.gn g hg).1) (aU EZ (aU (jD (h.gn g hg).2) (aU CX (aU zy (ou (oH λp hp=>Oj (h.gs g hg p hp)) (aU wQ mg)))))))
theorem Pm{l:List Tk.Tok}(h:lH l)(hs:(jn (tx l)).size<=65536):Tk.all (jn (tx l))=(Tk.placed l 0,0,0) :=
 Tk.Nz (λt ht=>(h t ht).1) (by rw[Qp,Qn]) hs
theorem LX{l:List Tk.Tok}(h:lH l):∀ u∈tx l,u.size<=32:=λu hu=>by
 obtain⟨t,ht,rfl⟩:=List.mem_map.1 hu;exact(h t ht).2
theorem rJ{w k:ByteArray}(h:Tk.isName w=true)(hk:k∈Tk.words):(w.toList==k.toList)=false:=by
 unfold Tk.isName at h;simp only[xX,Bool.not_eq_true']at h;have h4:=h.1.2;unfold Tk.pJ at h4;rw[List.any_eq_false]at h4;exact Bool.eq_false_iff.2 (h4 k hk)
theorem J3(w k:ByteArray)(r:List Tk.Tok):is (nT w::r,false) k=(w.toList==k.toList):=by simp[is,nT]
theorem Rz{w:ByteArray}(h:Tk.isName w=true)(r:List Tk.Tok):name (nT w::r,false)=(w,(r,false)):=by
 unfold name one;simp[nT,h]
theorem Nh{w:ByteArray}(h:Tk.isName w=true):endW w=0:=by
 have h1:=beq_eq_false_iff_ne.1 (rJ h (k:=⟨#[110,111,110,101]⟩) (jZ (by decide +kernel)));have h2:=beq_eq_false_iff_ne.1 (rJ h (k:=⟨#[98,111,111,108]⟩) (jZ (by decide +kernel)));have h3:=beq_eq_false_iff_ne.1 (rJ h (k:=⟨#[105,110,116]⟩) (jZ (by decide +kernel)));have h4:=beq_eq_false_iff_ne.1 (rJ h (k:=⟨#[116,101,120,116]⟩) (jZ (by decide +kernel)));rw[show(⟨#[110,111,110,101]⟩:ByteArray).toList=[110,111,110,101]by decide +kernel]at h1;rw[show(⟨#[98,111,111,108]⟩:ByteArray).toList=[98,111,111,108]by decide +kernel]at h2;rw[show(⟨#[105,110,116]⟩:ByteArray).toList=[105,110,116]by decide +kernel]at h3;rw[show(⟨#[116,101,120,116]⟩:ByteArray).toList=[116,101,120,116]by decide +kernel]at h4;unfold endW;rw[if_neg h1,if_neg h2,if_neg h3,if_neg h4]
theorem sZ{f:Nat}{w:ByteArray}{k:Nat}(h1:(w.toList==mY.toList)=false)(h2:(w.toList==oZ.toList)=false)(h3:endW w=k+1)(r:List Tk.Tok)(acc:List Srt):fA (f+1) (nT w::r,false) acc=(acc++[⟨k+1,⟨#[]⟩⟩],(r,false)):=by
 rw[fA];simp only[J3,h1,h2,Bool.false_eq_true,if_false];rw[if_pos (by simp[ends,nT,h3])];simp[head,nT,h3]
theorem wF:∀(t:List Srt)(f:Nat)(r:List Tk.Tok)(acc:List Srt),okP t=true->t.length<=f->fA f (t.map lU++r,false) acc=(acc++t,(r,false))
 |[],f,r,acc,h,hf=>by cases h
 |[x],0,r,acc,h,hf=>by simp at hf
 |[x],f+1,r,acc,h,hf=>by
  rcases Dv h with(rfl|rfl|rfl|rfl)|⟨h7,hn⟩
  ·exact sZ (w:=kH) (by decide +kernel) (by decide +kernel) (k:=0) (by decide +kernel) r acc
  ·exact sZ (w:=DZ) (by decide +kernel) (by decide +kernel) (k:=1) (by decide +kernel) r acc
  ·exact sZ (w:=nJ) (by decide +kernel) (by decide +kernel) (k:=2) (by decide +kernel) r acc
  ·exact sZ (w:=wText) (by decide +kernel) (by decide +kernel) (k:=3) (by decide +kernel) r acc
  ·obtain⟨k,n⟩:=x
   simp only at h7 hn;subst h7;show fA (f+1) (nT n::r,false) acc=_
   rw[fA];simp only[J3,rJ hn (k:=mY) (jZ (by decide +kernel)),rJ hn (k:=oZ) (jZ (by decide +kernel)),Bool.false_eq_true,if_false];rw[if_neg (by simp[ends,nT,Nh hn]),Rz hn]
 |x::y::l,0,r,acc,h,hf=>by simp at hf
 |x::y::l,f+1,r,acc,h,hf=>by
  have h':(mid x&&okP (y::l))=true:=h;rw[xX]at h';rcases Fq h'.1 with rfl|rfl
  ·show fA (f+1) (nT mY::((y::l).map lU++r),false) acc=_
   rw[fA];simp only[J3,show(mY.toList==mY.toList)=true by decide +kernel,Bool.false_eq_true,if_false,if_true,List.tail_cons];rw[wF (y::l) f r _ h'.2 (by simpa using hf)];simp
  ·show fA (f+1) (nT oZ::((y::l).map lU++r),false) acc=_
   rw[fA];simp only[J3,show(oZ.toList==mY.toList)=false by decide +kernel,show(oZ.toList==oZ.toList)=true by decide +kernel,Bool.false_eq_true,if_false,if_true,List.tail_cons];rw[wF (y::l) f r _ h'.2 (by simpa using hf)];simp
theorem NS{t:List Srt}(h:okP t=true)(r:List Tk.Tok):sorts (t.map lU++r,false)=(t,(r,false)):=by
 unfold sorts;rw[wF t _ r [] h (by simp;omega)];rfl
theorem EW:∀(l:List Tk.Tok)(k:Nat),(Tk.placed l k).map z=l.map z
 |[],_=>rfl
 |t::l,k=>by
  show z _::(Tk.placed l _).map z=z t::l.map z
  rw[EW l];rfl
theorem SL{t:Tk.Tok}(h:t.at_=0):z t=t:=by
 obtain⟨a,b,c,d⟩:=t;simp only at h;subst h;rfl
theorem Pz:∀{l:List Tk.Tok},(∀ t∈l,t.at_=0)->l.map z=l
 |[],_=>rfl
 |t::l,h=>by rw[List.map_cons,SL (h t (by simp)),Pz (λu hu=>h u (by simp[hu]))]
theorem rM{α:Type}{f:α->List Tk.Tok}{l:List α}(h:∀ a∈l,∀ t∈f a,t.at_=0):∀ t∈l.flatMap f,t.at_=0:=λt ht=>by
 obtain⟨a,ha,ht⟩:=List.mem_flatMap.1 ht;exact h a ha t ht
theorem FX(l:List Srt):∀ t∈l.map lU,t.at_=0:=λt ht=>by
 obtain⟨a,_,rfl⟩:=List.mem_map.1 ht;rfl
theorem Un(x:Sch):∀ t∈qJ x,t.at_=0:=by
 have hf:∀ f:Fld,∀ t∈BN f,t.at_=0:=λf t ht=>by
  simp only[BN,yH,List.mem_append,List.not_mem_nil,or_false]at ht;rcases ht with rfl|rfl|ht|rfl
  ·rfl
  ·rfl
  ·exact FX _ t ht
  ·rfl
 have hm:∀ m:Mth,∀ t∈BH m,t.at_=0:=λm t ht=>by
  simp only[BH,zV,yH,List.mem_append,List.not_mem_nil,or_false]at ht;rcases ht with rfl|rfl|rfl|rfl|rfl|rfl|rfl|ht|rfl
  ·rfl
  ·rfl
  ·rfl
  ·rfl
  ·rfl
  ·rfl
  ·rfl
  ·split at ht
   ·cases ht
   ·simp only[yH,List.not_mem_nil,or_false]at ht
    rcases ht with rfl|rfl<;>rfl
  ·rfl
 have hp:∀ p:Stp,∀ t∈Bv p,t.at_=0:=λp t ht=>by
  simp only[Bv,yH,List.not_mem_nil,or_false]at ht;rcases ht with rfl|rfl|rfl|rfl|rfl|rfl|rfl<;>rfl
 intro t ht;simp only[qJ,yH,List.mem_append]at ht;rcases ht with rfl|rfl|rfl|ht|ht|ht
 ·rfl
 ·rfl
 ·rfl
 ·refine rM (λr _ t ht=>?_) t ht
  simp only[Jl,yH,List.mem_append,List.not_mem_nil,or_false]at ht;rcases ht with rfl|rfl|rfl|ht|rfl
  ·rfl
  ·rfl
  ·rfl
  ·exact rM (λf _=>hf f) t ht
  ·rfl
 ·refine rM (λr _ t ht=>?_) t ht
  simp only[IC,yH,List.mem_append,List.not_mem_nil,or_false]at ht;rcases ht with rfl|rfl|rfl|ht|rfl
  ·rfl
  ·rfl
  ·rfl
  ·exact rM (λf _=>hm f) t ht
  ·rfl
 ·refine rM (λr _ t ht=>?_) t ht
  simp only[IW,yH,List.mem_append,List.not_mem_nil,or_false]at ht;rcases ht with rfl|rfl|rfl|rfl|rfl|rfl|ht|rfl
  ·rfl
  ·rfl
  ·rfl
  ·rfl
  ·rfl
  ·rfl
  ·exact rM (λf _=>hp f) t ht
  ·rfl
theorem Gt{α:Type}{read:St->α × St}(hz:∀ s,read (zs s)=((read s).1,zs (read s).2)){l:List Tk.Tok}(h0:∀ t∈l,t.at_=0){a:α}(h:read (l,false)=(a,([],false))):read (Tk.placed l 0,false)=(a,([],false)):=by
 have h1:=hz (Tk.placed l 0,false);rw[show zs (Tk.placed l 0,false)=(l,false)from by unfold zs;rw[EW,Pz h0],h]at h1;obtain⟨⟨b,q,e⟩,hb⟩:∃ p,read (Tk.placed l 0,false)=p:=⟨_,rfl⟩;rw[hb]at h1 ⊢;unfold zs at h1;simp only[Prod.mk.injEq]at h1;obtain⟨h2,h3,h4⟩:=h1;rw[<-h2,<-h4,List.map_eq_nil_iff.1 h3.symm]
theorem qm{x:Sch}(h:Right x):Ok x:=by
 obtain⟨hn,hc,hd,ht,hb,he,hu,hg,hs,hw⟩:=oD.1 h;unfold namesT at hn;simp only[yH,List.mem_append,forall_eq_or_imp]at hn;obtain⟨n0,n1⟩:=hn;have nr:∀ r∈x.records,Tk.isName r.name=true/\∀ f∈r.fields,Tk.isName f.name=true:=λr hr=>by
  have k:=λt (ht:t∈jR r)=>n1 t (.inl (List.mem_flatMap.2 ⟨r,hr,ht⟩))
  exact⟨k (nm r.name) (by simp[jR]),λf hf=>k (nm f.name) (by unfold jR;exact List.mem_cons_of_mem _ (List.mem_flatMap.2 ⟨f,hf,by simp[qF]⟩))⟩
 have nv:∀ v∈x.services,Tk.isName v.name=true/\∀ m∈v.methods,Tk.isName m.name=true:=λv hv=>by
  have k:=λt (ht:t∈dQ v)=>n1 t (.inr (.inl (List.mem_flatMap.2 ⟨v,hv,ht⟩)))
  exact⟨k (nm v.name) (by simp[dQ]),λf hf=>k (nm f.name) (by unfold dQ;exact List.mem_cons_of_mem _ (List.mem_flatMap.2 ⟨f,hf,by simp[oM]⟩))⟩
 have ng:∀ g∈x.sagas,Tk.isName g.name=true:=λg hg=>n1 (nm g.name) (.inr (.inr (List.mem_flatMap.2 ⟨g,hg,by simp[dK]⟩)))
 have fnd:∀ w:ByteArray,(find x w).isSome=true->Tk.isName w=true:=λw hw=>by
  obtain⟨r,hr⟩:=Option.isSome_iff_exists.1 hw;have h1:=List.find?_some hr;have h2:=List.mem_of_find?_eq_some hr;have e:r.name=w:=Tk.text_eq (by simpa using h1);rw[<-e];exact(nr r h2).1
 have ord:∀ w:ByteArray,order x w=true->Tk.isName w=true:=λw hw=>by
  refine fnd w ?_;unfold order at hw;split at hw
  ·cases hw
  ·next hf=>rw[hf];rfl
 have okt:∀ t:List Srt,okT x t=true->okP t=true:=by
  intro t;induction t with
  |nil=>intro h;cases h
  |cons a t ih =>
   intro h;cases t with
   |nil =>
    have h':fin x a=true:=h;show uG a=true
    unfold fin at h';unfold uG;split at h'
    next hk=>rw[if_pos hk];exact h'
    next hk =>
     rw[if_neg hk];split at h'
     next h7=>rw[if_pos h7];exact fnd _ h'
     next=>cases h'
   |cons b t =>
    have h':(mid a&&okT x (b::t))=true:=h;rw[xX]at h';show(mid a&&okP (b::t))=true
    rw[xX];exact⟨h'.1,ih h'.2⟩
 have ms:∀ v∈x.services,∀ m∈v.methods,(m.result=1∨m.result=3)/\(contrary m.effect).toList.isEmpty=false/\order x m.arg=true/\(m.undo.toList.isEmpty=true∨jO x v.name m=true):=λv hv m hm=>by
  have k1:=ht (m.result==3||m.result==1,Chk.part v.name m.name) (by unfold kJ;exact List.mem_append_right _ (List.mem_flatMap.2 ⟨v,hv,List.mem_flatMap.2 ⟨m,hm,by simp[jW]⟩⟩));have k2:=he (!(contrary m.effect).toList.isEmpty&&order x m.arg,Chk.part v.name m.name) (List.mem_flatMap.2 ⟨v,hv,List.mem_flatMap.2 ⟨m,hm,by simp[jd]⟩⟩);have k3:=hu (m.undo.toList.isEmpty||jO x v.name m,Chk.part v.name m.name) (List.mem_flatMap.2 ⟨v,hv,List.mem_flatMap.2 ⟨m,hm,by simp[dP]⟩⟩);simp only[Bool.or_eq_true,beq_iff_eq]at k1;simp only[xX,Bool.not_eq_true']at k2;simp only[Bool.or_eq_true]at k3;exact⟨k1.symm,k2.1,k2.2,k3⟩
 have mth:∀ a b m,meth x a b=some m->Tk.isName a=true/\Tk.isName b=true:=λa b m hm=>by
  obtain⟨v,hv,e,hmv⟩:=Fv hm;refine⟨by rw[<-Tk.text_eq e];exact(nv v hv).1,?_⟩;unfold meth at hm;split at hm
  ·cases hm
  ·have h1:=List.find?_some hm
   have e2:m.name=b:=Tk.text_eq (by simpa using h1);rw[<-e2];exact(nv v hv).2 m hmv
 refine⟨n0,λr hr=>(nr r hr).1,λr hr f hf=>⟨(nr r hr).2 f hf,?_⟩,λv hv=>(nv v hv).1,λv hv m hm=>?_,λg hg'=>⟨ng g hg',?_⟩,λg hg' p hp=>?_⟩
 ·have k:=ht (right x f.type,Chk.part r.name f.name) (by unfold kJ;exact List.mem_append_left _ (List.mem_flatMap.2 ⟨r,hr,List.mem_flatMap.2 ⟨f,hf,by simp[nN]⟩⟩))
  simp only at k;unfold right at k;rw[xX]at k;exact okt _ k.2
 ·obtain⟨k1,k2,k3,k4⟩:=ms v hv m hm
  refine⟨?_,(nv v hv).2 m hm,ord _ k3,k1,?_⟩
  ·unfold contrary at k2
   by_cases e1:m.effect.toList=fO.toList
   ·exact .inl (Tk.text_eq e1)
   ·rw[if_neg e1]at k2
    by_cases e2:m.effect.toList=fK.toList
    ·exact .inr (.inl (Tk.text_eq e2))
    ·rw[if_neg e2]at k2
     by_cases e3:m.effect.toList=fM.toList
     ·exact .inr (.inr (Tk.text_eq e3))
     ·rw[if_neg e3]at k2
      exact absurd k2 (by decide +kernel)
  ·refine k4.imp id λk=>?_
   unfold jO at k;split at k
   ·cases k
   ·next u hu'=>exact(mth _ _ _ hu').2
 ·have k:=hg (order x g.arg,g.name) (List.mem_flatMap.2 ⟨g,hg',by simp⟩)
  exact ord _ k
 ·obtain⟨k,hk,rfl⟩:=List.getElem_of_mem hp
  have hz:(g.steps[k],k)∈g.steps.zipIdx:=by
   rw[List.mem_iff_getElem];exact⟨k,by rw[List.length_zipIdx];exact hk,by rw[List.getElem_zipIdx,Nat.zero_add]⟩
  have h1:=hs (ji x g.arg g.steps[k],nth g.name k) (List.mem_flatMap.2 ⟨g,hg',List.mem_flatMap.2 ⟨_,hz,by simp[iR]⟩⟩);simp only at h1;unfold ji at h1;split at h1
  ·cases h1
  ·next m hm =>
   unfold stepOf at h1;simp only[xX,decide_eq_true_eq]at h1;exact⟨(mth _ _ _ hm).1,(mth _ _ _ hm).2,h1.1.2,h1.2⟩
end Prn
