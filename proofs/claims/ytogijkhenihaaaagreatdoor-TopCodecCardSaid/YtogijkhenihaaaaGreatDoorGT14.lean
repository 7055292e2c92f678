import Derived.Test.YtogijkhenihaaaaGreatDoorGT13
set_option linter.all false
set_option maxRecDepth 100000
set_option maxHeartbeats 0
namespace Go.Proofs.YtogijkhenihaaaaGreatDoor
open Lib (hid)
namespace Cd
open Ev
def nmF(l:List UInt8):Nat->Nat->Except Bool (Nat × Nat)
 |0,_=>.error true
 |g+1,i=>if i<l.length then(if i=9/\1<(l.getD i 0).toNat then .error true else if(l.getD i 0).toNat<128 then(if(l.getD i 0).toNat=0/\0<i then .error true else .ok (acc l (i+1),i+1))else nmF l g (i+1))else .error false
def num(b:List UInt8)(p:Nat):Except (Nat × Nat) (Nat × Nat):=match nmF (b.drop p) 10 0 with
 | .ok q=>.ok (q.1,p+q.2)
 | .error true=>.error (p,162)
 | .error false=>.error (b.length,160)
def bit(b:List UInt8)(p:Nat):Except (Nat × Nat) (Nat × Nat):=if p<b.length then(if 1<(b.getD p 0).toNat then .error (p,162)else .ok ((b.getD p 0).toNat,p+1))else .error (b.length,160)
theorem zU{l:List UInt8}{i:Nat}(h9:i<=9)(ha:acc l i<128 ^ i)(hc:(l.getD i 0).toNat % 128<128)(h1:i=9->(l.getD i 0).toNat % 128<2):acc l (i+1)=acc l i+(l.getD i 0).toNat % 128 * 128 ^ i:=by
 have hle:128 ^ i<=128 ^ 9:=Nat.pow_le_pow_right (by decide) h9;have hp9:(128:Nat) ^ 9=9223372036854775808:=by decide
 have hlt:(l.getD i 0).toNat % 128 * 128 ^ i<18446744073709551616:=by
  by_cases h:i=9
  ·have:=h1 h
   have h2:(l.getD i 0).toNat % 128 * 128 ^ i<=1 * 128 ^ i:=Nat.mul_le_mul_right _ (by omega);omega
  ·have hps:128 ^ (i+1)=128 ^ i * 128:=Nat.pow_succ ..
   have hle2:128 ^ (i+1)<=128 ^ 9:=Nat.pow_le_pow_right (by decide) (by omega);have h2:(l.getD i 0).toNat % 128 * 128 ^ i<=127 * 128 ^ i:=Nat.mul_le_mul_right _ (by omega);omega
 simp only[acc];rw[sZ,Nat.mod_eq_of_lt hlt,yx (7 * i) (by rw[sZ];exact ha) (by rw[sZ];exact Nat.mul_mod_left _ _)]
theorem RJ(l:List UInt8):∀(g i u j:Nat),g+i=10->acc l i<128 ^ i->nmF l g i=.ok (u,j) ->
  ∃ y,(0<i->y≠0)/\u=acc l i+128 ^ i * y/\y<2 * 128 ^ (9 - i)/\l.drop i=gY (9 - i) y++l.drop j/\i<j/\j<=l.length
 |0,i,u,j,hg,ha,h=>by unfold nmF at h;cases h
 |g+1,i,u,j,hg,ha,h=>by
  unfold nmF at h;split at h
  ·rename_i hi
   split at h
   ·cases h
   ·rename_i h9
    have hd:l.drop i=(l.getD i 0)::l.drop (i+1):=by
     rw[xQ hi,yG,yF hi,Option.getD_some]
    have hcb:(l.getD i 0).toNat<256:=UInt8.toNat_lt _;split at h
    ·rename_i hc
     split at h
     ·cases h
     ·rename_i h0
      injection h with h
      injection h with h1 h2
      subst h1 h2;have hm:(l.getD i 0).toNat % 128=(l.getD i 0).toNat:=Nat.mod_eq_of_lt hc;refine⟨(l.getD i 0).toNat,λhi0 h=>h0 ⟨h,hi0⟩,?_,?_,?_,Nat.lt_succ_self _,hi⟩
      ·rw[zU (by omega) ha (by omega) (λh=>by omega),hm,Nat.mul_comm]
      ·by_cases hi9:i=9
       ·have h2:¬1<(l.getD i 0).toNat:=λh=>h9 ⟨hi9,h⟩
        rw[hi9]at h2 ⊢;show _<2 * 128 ^ 0
        omega
       ·have:128 ^ 1<=128 ^ (9 - i):=Nat.pow_le_pow_right (by decide) (by omega)
        omega
      ·rw[hd]
       have hv:gY (9 - i) (l.getD i 0).toNat=[UInt8.ofNat (l.getD i 0).toNat]:=by
        cases h9i:9 - i with
        |zero=>rfl
        |succ m=>unfold gY;rw[if_pos hc]
       rw[hv,UInt8.ofNat_toNat,List.singleton_append]
    ·rename_i hc
     have hi8:i<=8:=by
      rcases Nat.lt_or_ge i 9 with h'|h'
      ·omega
      ·exact absurd ⟨by omega,by omega⟩ h9
     have ha':=zU (by omega) ha (Nat.mod_lt _ (by decide)) (λh=>by omega);have hps:128 ^ (i+1)=128 ^ i * 128:=Nat.pow_succ ..;have hb:(l.getD i 0).toNat % 128 * 128 ^ i<=127 * 128 ^ i:=Nat.mul_le_mul_right _ (by omega);obtain⟨y,y0,hu,hy,hl,hj,hjl⟩:=RJ l g (i+1) u j (by omega) (by omega) h;have y0:=y0 (by omega);obtain⟨c,hcn⟩:∃ c,(l.getD i 0).toNat=c+128:=⟨(l.getD i 0).toNat - 128,by omega⟩;have hcm:(l.getD i 0).toNat % 128=c:=by omega
     refine⟨c+128 * y,λ_=>by omega,?_,?_,?_,by omega,hjl⟩
     ·rw[hu,ha',hcm,hps,Nat.mul_add,Nat.mul_comm c,Nat.mul_assoc,Nat.add_assoc]
     ·have:128 ^ (9 - i)=128 ^ (9 - (i+1)) * 128:=by rw[<-Nat.pow_succ];congr 1;omega
      omega
     ·rw[hd,show 9 - i=(9 - (i+1))+1 by omega]
      unfold gY;rw[if_neg (by omega),show(c+128 * y) % 128+128=(l.getD i 0).toNat by omega,show(c+128 * y) / 128=y by omega,UInt8.ofNat_toNat,List.cons_append,<-hl]
  ·cases h
theorem yK{b:List UInt8}{p u q:Nat}(h:num b p=.ok (u,q)):u<18446744073709551616/\b.drop p=var u++b.drop q/\p<q/\q<=b.length:=by
 unfold num at h;split at h
 ·rename_i x hx
  injection h with h
  injection h with h1 h2
  obtain⟨y,-,hu,hy,hl,hj,hjl⟩:=RJ (b.drop p) 10 0 x.1 x.2 rfl (by simp[acc]) hx;have hacc:acc (b.drop p) 0=0:=rfl;rw[hacc]at hu;simp only[Nat.pow_zero,Nat.one_mul,Nat.zero_add,Nat.sub_zero,List.drop_zero,List.drop_drop]at hu hl hy;rw[List.length_drop]at hjl;subst h2;rw[<-h1,hu];exact⟨by simpa using hy,hl,by omega,by omega⟩
 ·cases h
 ·cases h
theorem Nr(l r:List UInt8)(y:Nat)(hy:y<18446744073709551616):∀(g i:Nat),g+i=9->l.drop i=gY g (y / 128 ^ i)++r->acc l i=y % 128 ^ i->(0<i->y / 128 ^ i≠0)->nmF l (g+1) i=.ok (y,i+(gY g (y / 128 ^ i)).length)
 |g,i,hgi,hl,ha,h0=>by
  have p0:0<128 ^ i:=Nat.pow_pos (by decide);have hdm:=Nat.div_add_mod y (128 ^ i);have hml:y % 128 ^ i<128 ^ i:=Nat.mod_lt _ p0;by_cases hq:y / 128 ^ i<128
  ·have e1:gY g (y / 128 ^ i)=[UInt8.ofNat (y / 128 ^ i)]:=by
    cases g with
    |zero=>rfl
    |succ g=>rw[gY,if_pos hq]
   rw[e1,List.cons_append,yI]at hl;obtain⟨h1,h2,_⟩:=tZ hl;have hc:(l.getD i 0).toNat=y / 128 ^ i:=by rw[h2,Sm.ofNat_toNat,Nat.mod_eq_of_lt (by omega)]
   have h9:i=9->y / 128 ^ i<2:=λhi9=>by
    subst hi9;rw[Nat.div_lt_iff_lt_mul (by decide)];omega
   unfold nmF;rw[if_pos h1,if_neg (by rw[hc];rintro⟨hi9,h⟩;have:=h9 hi9;omega),if_pos (by rw[hc];exact hq),if_neg (by rw[hc];rintro⟨h,hi⟩;exact h0 hi h),e1];rw[zU (by omega) (by rw[ha];exact hml) (by omega) (λh=>by have:=h9 h;rw[hc];omega),hc,ha,Nat.mod_eq_of_lt hq,Nat.mul_comm];rw[show y % 128 ^ i+128 ^ i * (y / 128 ^ i)=y by omega];rfl
  ·cases g with
   |zero =>
    have hi9:i=9:=by omega
    subst hi9;have:y / 128 ^ 9<2:=by rw[Nat.div_lt_iff_lt_mul (by decide)];omega
    omega
   |succ g =>
    have e1:gY (g+1) (y / 128 ^ i)=UInt8.ofNat (y / 128 ^ i % 128+128)::gY g (y / 128 ^ (i+1)):=by
     rw[gY,if_neg hq,Nat.div_div_eq_div_mul,<-Nat.pow_succ]
    rw[e1,List.cons_append]at hl;obtain⟨h1,h2,h3⟩:=tZ hl;have hc:(l.getD i 0).toNat=y / 128 ^ i % 128+128:=by rw[h2,Sm.ofNat_toNat,Nat.mod_eq_of_lt (by omega)]
    have ha':acc l (i+1)=y % 128 ^ (i+1):=by
     rw[zU (by omega) (by rw[ha];exact hml) (Nat.mod_lt _ (by decide)) (λh=>by omega),ha,hc,show(y / 128 ^ i % 128+128) % 128=y / 128 ^ i % 128 by omega,Nat.mod_pow_succ,Nat.mul_comm (y / 128 ^ i % 128)]
    have hn0:y / 128 ^ (i+1)≠0:=by
     rw[Nat.pow_succ,<-Nat.div_div_eq_div_mul];omega
    have ih:=Nr l r y hy g (i+1) (by omega) h3 ha' (λ_=>hn0);unfold nmF;rw[if_pos h1,if_neg (by rintro⟨hi9,h⟩;omega),if_neg (by rw[hc];omega),ih,e1];simp only[xJ];rw[show i+1+(gY g (y / 128 ^ (i+1))).length=i+((gY g (y / 128 ^ (i+1))).length+1)by omega]
theorem Cc{b r:List UInt8}{p y:Nat}(hy:y<18446744073709551616)(h:b.drop p=var y++r):num b p=.ok (y,p+(var y).length):=by
 have h1:=Nr (var y++r) r y hy 9 0 rfl (by simp[var]) (by simp[acc,Nat.mod_one]) (λh=>absurd h (by decide));simp only[Nat.pow_zero,Nat.div_one,Nat.zero_add]at h1;unfold num;rw[h,h1];rfl
theorem Ce{b:List UInt8}{p:Nat}{e:Nat × Nat}(hp:p<=b.length)(h:num b p=.error e):p<=e.1/\e.1<=b.length/\(e.2=162∨e.2=160):=by
 unfold num at h;split at h
 ·cases h
 ·injection h with h;subst h;exact⟨xB _,hp,.inl rfl⟩
 ·injection h with h;subst h;exact⟨hp,xB _,.inr rfl⟩
theorem KG{b:List UInt8}{p u q:Nat}(h:bit b p=.ok (u,q)):u<=1/\b.drop p=UInt8.ofNat u::b.drop q/\q=p+1/\q<=b.length:=by
 unfold bit at h;split at h
 ·rename_i hp
  split at h
  ·cases h
  ·rename_i h1
   injection h with h
   injection h with e1 e2
   subst e1 e2;refine⟨by omega,?_,rfl,hp⟩;rw[UInt8.ofNat_toNat,xQ hp,yG,yF hp,Option.getD_some]
 ·cases h
theorem NC{b r:List UInt8}{p u:Nat}(hu:u<=1)(h:b.drop p=UInt8.ofNat u::r):bit b p=.ok (u,p+1):=by
 obtain⟨h1,h2,h3⟩:=tZ h;unfold bit;have:(b.getD p 0).toNat=u:=by rw[h2,Sm.ofNat_toNat,Nat.mod_eq_of_lt (by omega)]
 rw[if_pos h1,if_neg (by omega),this]
theorem ND{b:List UInt8}{p:Nat}{e:Nat × Nat}(hp:p<=b.length)(h:bit b p=.error e):p<=e.1/\e.1<=b.length/\(e.2=162∨e.2=160):=by
 unfold bit at h;split at h
 ·split at h
  ·injection h with h;subst h;exact⟨xB _,hp,.inl rfl⟩
  ·cases h
 ·injection h with h;subst h;exact⟨hp,xB _,.inr rfl⟩
end Cd
section
open Go.BigFrame Go.RowKit
namespace Cd
open Id Chk Vl Ev
def E0:ByteArray:=⟨#[]⟩
theorem empty_eq{a:ByteArray}(h:a.toList.isEmpty=true):a=E0:=Tk.text_eq (by rw[List.isEmpty_iff.1 h];exact(List.isEmpty_iff.1 Bv).symm)
def zz(n:Int):Nat:=if 0<=n then 2 * n.toNat else 2 * (-(n+1)).toNat+1
def un(u:Nat):Int:=if u % 2=0 then((u / 2:Nat):Int)else -((u / 2:Nat):Int) - 1
theorem Zg(n:Int):un (zz n)=n:=by
 unfold un zz;split<;>split<;>omega
theorem Zd(u:Nat):zz (un u)=u:=by
 unfold un zz;split<;>split<;>omega
theorem VT{n:Int}(h1:-9223372036854775808<=n)(h2:n<=9223372036854775807):zz n<18446744073709551616:=by
 unfold zz;split<;>omega
structure OkN(n:Vl.Node):Prop where
 lo:-9223372036854775808<=n.int
 hi:n.int<=9223372036854775807
 tx:n.text.size<=9223372036854775807
def jD(n:Vl.Node):List UInt8 :=
 if n.kind=2 then[UInt8.ofNat n.int.toNat]else if n.kind=3 then var (zz n.int)else if n.kind=4 then var n.text.size++n.text.data.toList
 else if n.kind=5 then var n.kids.toNat else if n.kind=6 then[UInt8.ofNat n.kids.toNat]else if n.kind=8 then var n.int.toNat else[]
def encs(v:List Vl.Node):List UInt8:=v.flatMap jD
theorem GR(n:Vl.Node)(v:List Vl.Node):encs (n::v)=jD n++encs v:=rfl
theorem DR(a b:List Vl.Node):encs (a++b)=encs a++encs b:=List.flatMap_append
structure S where
 at_:Nat
 v:List Vl.Node
 sz:Nat
def S.put(x:S)(p:Nat)(n:Vl.Node)(z:Nat):S:=⟨p,x.v++[n],x.sz+z⟩
def S.inc(x:S):S:=⟨x.at_,x.v,x.sz+1⟩
abbrev Rs(α:Type):=Except (Nat × Nat) α
def qO(b:List UInt8)(p n:Nat):ByteArray:=⟨((b.drop p).take n).toArray⟩
def F8(b:List UInt8)(x:S)(q:Nat × Nat):Rs S:=if 4096<x.sz+q.1 then .error (x.at_,3)else if b.length<q.2+q.1 then .error (b.length,160)else .ok (x.put (q.2+q.1) ⟨4,0,qO b q.2 q.1,0⟩ q.1)
def BL(b:List UInt8)(k:Nat)(x:S):Rs S :=
 if k=1 then .ok (x.put x.at_ ⟨1,0,E0,0⟩ 0)
 else if k=2 then(match bit b x.at_ with
  | .error e=>.error e
  | .ok q=>.ok (x.put q.2 ⟨2,q.1,E0,0⟩ 0))
 else if k=3 then(match num b x.at_ with
  | .error e=>.error e
  | .ok q=>.ok (x.put q.2 ⟨3,un q.1,E0,0⟩ 0))
 else(match num b x.at_ with
  | .error e=>.error e
  | .ok q=>F8 b x q)
def BM(r:Rec)(b:List UInt8)(x:S):Rs (List (List Srt) × S):=match num b x.at_ with
 | .error e=>.error e
 | .ok q=>if r.fields.length<=q.1 then .error (x.at_,162)else .ok ([(r.fields.map (·.type)).getD q.1 []],x.put q.2 ⟨8,q.1,E0,1⟩ 0)
def rG(s:Sch)(b:List UInt8)(c:Srt)(t:List Srt)(x:S):Rs (List (List Srt) × S) :=
 if c.kind=5 then(match num b x.at_ with
  | .error e=>.error e
  | .ok q=>if 4096<q.1 then .error (x.at_,3)else .ok (List.replicate q.1 t,x.put q.2 ⟨5,0,E0,q.1⟩ 0))
 else if c.kind=6 then(match bit b x.at_ with
  | .error e=>.error e
  | .ok q=>.ok (List.replicate q.1 t,x.put q.2 ⟨6,0,E0,q.1⟩ 0))
 else if((find s c.name).getD ny).choice=true then BM ((find s c.name).getD ny) b x
 else .ok (((find s c.name).getD ny).fields.map (·.type),x.put x.at_ ⟨7,0,E0,((find s c.name).getD ny).fields.length⟩ 0)
def gI(f:List Srt->S->Rs S):List (List Srt)->S->Rs S
 |[],x=>.ok x
 |t::ts,x=>match f t x with
  | .error e=>.error e
  | .ok y=>gI f ts y
def goD(f:List Srt->S->Rs S)(o:Rs (List (List Srt) × S)):Rs S:=match o with
 | .error e=>.error e
 | .ok p=>gI f p.1 p.2
def jS(k:Nat):Prop:=k=1∨k=2∨k=3∨k=4
instance(k:Nat):Decidable (jS k):=by unfold jS;infer_instance
def full(x:S):Prop:=4096<=x.v.length∨4096<=x.sz
instance(x:S):Decidable (full x):=by unfold full;infer_instance
def dZ(s:Sch)(b:List UInt8):Nat->List Srt->S->Rs S
 |0,_,x=>.error (x.at_,151)
 |_+1,[],x=>.error (x.at_,162)
 |k+1,c::t,x=>if full x then .error (x.at_,3)else if jS c.kind then BL b c.kind x.inc else goD (dZ s b k) (rG s b c t x.inc)
theorem Z8(b:List UInt8){p:Nat}{l r:List UInt8}(h:b.drop p=l++r)(hl:l≠[]):b.drop (p+l.length)=r/\p+l.length+r.length=b.length:=by
 have h1:b.drop (p+l.length)=r:=by rw[<-List.drop_drop,h,List.drop_left]
 refine⟨h1,?_⟩;have:=congrArg List.length h;rw[List.length_drop,xI]at this;have:0<l.length:=List.length_pos_iff.2 hl;omega
theorem XM(u:Nat):var u≠[]:=λh=>by have:=(mO u).1;rw[h]at this;cases this
theorem size_cons(n:Vl.Node)(v:List Vl.Node):size (n::v)=1+n.text.size+size v:=by
 unfold size;rw[xJ,List.map_cons,List.sum_cons];omega
theorem size_nil:size []=0:=rfl
theorem Du(a b:List Vl.Node):size (a++b)=size a+size b:=by
 unfold size;rw[xI,List.map_append,List.sum_append];omega
theorem UJ{b tail:List UInt8}{k:Nat}{n:Vl.Node}{x:S}(hk:jS k)(hn:leaf k n=true)(ho:OkN n)(hb:b.drop x.at_=jD n++tail)(hx:x.sz+n.text.size<=4096) :
  BL b k x=.ok ⟨x.at_+(jD n).length,x.v++[n],x.sz+n.text.size⟩:=by
 obtain⟨nk,ni,nt,nd⟩:=n;obtain⟨o1,o2,o3⟩:=ho;unfold leaf at hn;simp only[xX,Bool.or_eq_true,beq_iff_eq]at hn o1 o2 o3 hx;obtain⟨⟨⟨rfl,rfl⟩,h3⟩,h4⟩:=hn;unfold BL;unfold jS at hk;by_cases k1:nk=1
 ·subst k1
  have e1:ni=0:=by omega
  have e2:nt=E0:=empty_eq (by rcases h4 with h|h;exact h;omega);subst e1 e2;rw[if_pos rfl];rfl
 by_cases k2:nk=2
 ·subst k2
  have e1:ni=0∨ni=1:=by omega
  have e2:nt=E0:=empty_eq (by rcases h4 with h|h;exact h;omega);subst e2;rw[if_neg k1,if_pos rfl];have hi:((ni.toNat:Nat):Int)=ni:=by omega
  have h:=NC (b:=b) (p:=x.at_) (u:=ni.toNat) (r:=tail) (by omega) hb;rw[h];show Except.ok (S.mk _ _ _)=_
  rw[show(((ni.toNat,x.at_+1):Nat × Nat).1:Int)=ni from hi];rfl
 by_cases k3:nk=3
 ·subst k3
  have e2:nt=E0:=empty_eq (by rcases h4 with h|h;exact h;omega);subst e2;rw[if_neg k1,if_neg k2,if_pos rfl];have hz:=VT o1 o2;have h:=Cc (b:=b) (p:=x.at_) (r:=tail) hz hb;rw[h];simp only;rw[Zg];rfl
 ·obtain rfl:nk=4:=by omega
  have e1:ni=0:=by omega
  subst e1;rw[if_neg k1,if_neg k2,if_neg k3];have he:jD ⟨4,0,nt,0⟩=var nt.size++nt.data.toList:=rfl;rw[he]at hb ⊢;have h:=Cc (b:=b) (p:=x.at_) (y:=nt.size) (r:=nt.data.toList++tail) (by omega) (by rw[hb,xU]);obtain⟨d1,d2⟩:=Z8 b (l:=var nt.size) (r:=nt.data.toList++tail) (by rw[hb,xU]) (XM _);rw[h];simp only;unfold F8;have hlen:nt.data.toList.length=nt.size:=by rw[Array.length_toList];rfl
  rw[xI,hlen]at d2;rw[if_neg (by simp only;omega),if_neg (by simp only;omega)];have hc:qO b (x.at_+(var nt.size).length) nt.size=nt:=by
   unfold qO;rw[d1,List.take_append_of_le_length (by rw[hlen];exact xB _),yE (by rw[hlen];exact xB _)]
  simp only[hc,xI,hlen];unfold S.put;rw[Nat.add_assoc]
theorem Ve{s:Sch}{b tail:List UInt8}{lim:Nat}{c:Srt}{t:List Srt}{n:Vl.Node}{x:S}{ks:List (List Srt)}(hk:¬jS c.kind)(hn:kR s lim c t n=some ks)(ho:OkN n)(hl:ks.length<=4096)(hb:b.drop x.at_=jD n++tail) :
  rG s b c t x=.ok (ks,⟨x.at_+(jD n).length,x.v++[n],x.sz⟩)/\n.text.size=0:=by
 obtain⟨nk,ni,nt,nd⟩:=n;obtain⟨o1,o2,o3⟩:=ho;simp only at o1 o2 o3;unfold rG;unfold kR at hn;by_cases h5:c.kind=5
 ·rw[if_pos (.inl h5)]at hn
  unfold kW at hn;split at hn
  ·rename_i hc
   obtain⟨a1,a2,a3,a4,a5⟩:=hc;simp only at a1 a2 a3 a4 a5;injection hn with hn
   subst hn;rw[List.length_replicate]at hl;have e2:=empty_eq a3;subst e2 a2 a1;rw[if_pos h5];rw[h5]at hb ⊢;simp only at hl;have he:jD ⟨5,0,E0,nd⟩=var nd.toNat:=rfl;rw[he]at hb ⊢;rw[Cc (b:=b) (p:=x.at_) (r:=tail) (by omega) hb];simp only;rw[if_neg (by omega),show((nd.toNat:Nat):Int)=nd by omega];exact⟨rfl,rfl⟩
  ·cases hn
 by_cases h6:c.kind=6
 ·rw[if_pos (.inr h6)]at hn
  unfold kW at hn;split at hn
  ·rename_i hc
   obtain⟨a1,a2,a3,a4,a5⟩:=hc;simp only at a1 a2 a3 a4 a5;injection hn with hn
   subst hn;rw[List.length_replicate]at hl;have e2:=empty_eq a3;subst e2 a2 a1;rw[if_neg h5,if_pos h6];rw[h6]at hb ⊢;have hn1:nd<=1:=by
    unfold Ak at a5;rw[if_pos h6]at a5;exact_mod_cast a5
   have he:jD ⟨6,0,E0,nd⟩=[UInt8.ofNat nd.toNat]:=rfl;rw[he]at hb ⊢;rw[NC (b:=b) (p:=x.at_) (r:=tail) (u:=nd.toNat) (by omega) hb];simp only;rw[show((nd.toNat:Nat):Int)=nd by omega];exact⟨rfl,rfl⟩
  ·cases hn
 ·rw[if_neg (by omega)]at hn
  rw[if_neg h5,if_neg h6];generalize(find s c.name).getD ny=r at *;unfold mQ at hn;split at hn
  ·rename_i hc
   rw[if_pos hc];split at hn
   ·rename_i h
    obtain⟨a1,a2,a3,a4,a5⟩:=h;simp only at a1 a2 a3 a4 a5;injection hn with hn
    subst hn a1 a3;have e2:=empty_eq a2;subst e2;have he:jD ⟨8,ni,E0,1⟩=var ni.toNat:=rfl;rw[he]at hb ⊢;unfold BM;rw[Cc (b:=b) (p:=x.at_) (r:=tail) (by omega) hb];simp only;rw[if_neg (by omega),show((ni.toNat:Nat):Int)=ni by omega];exact⟨rfl,rfl⟩
   ·cases hn
  ·rename_i hc
   rw[if_neg hc];split at hn
   ·rename_i h
    obtain⟨a1,a2,a3,a4⟩:=h;simp only at a1 a2 a3 a4;injection hn with hn
    subst hn a1 a2 a4;have e2:=empty_eq a3;subst e2;exact⟨rfl,rfl⟩
   ·cases hn
theorem J6{f:List Srt->List Vl.Node->Option (Nat × List Vl.Node)}{g:Nat->List UInt8->List Srt->S->Rs S}
  (hf:∀ t r d r',f t r=some (d,r')->(∀ n∈r,OkN n)->∃ m,r=m++r'/\m≠[]/\∀ b k x tail,d<=k->b.drop x.at_=encs m++tail->x.v.length+m.length<=4096->x.sz+size m<=4096->g k b t x=.ok ⟨x.at_+(encs m).length,x.v++m,x.sz+size m⟩) :
  ∀(ts:List (List Srt))(d:Nat)(r:List Vl.Node)(e:Nat)(r':List Vl.Node),fQ f ts d r=some (e,r')->(∀ n∈r,OkN n)->d<=e/\∃ m,r=m++r'/\ts.length<=m.length/\∀ b k x tail,e<=k->b.drop x.at_=encs m++tail->x.v.length+m.length<=4096->x.sz+size m<=4096 ->
   gI (g k b) ts x=.ok ⟨x.at_+(encs m).length,x.v++m,x.sz+size m⟩
 |[],d,r,e,r',h,ho=>by
  injection h with h
  injection h with h1 h2
  subst h1 h2;refine⟨xB _,[],rfl,xB _,λb k x tail _ _ _ _=>?_⟩;unfold gI;simp[encs,size_nil]
 |t::ts,d,r,e,r',h,ho=>by
  unfold fQ at h;split at h
  ·cases h
  ·rename_i p hp
   obtain⟨a,q⟩:=p;obtain⟨m,rfl,hm0,hm⟩:=hf t r a q hp ho;obtain⟨h1,m',rfl,hl',hm'⟩:=J6 hf ts _ q e r' h (λn hn=>ho n (by simp[hn]));simp only at h1;have hpos:0<m.length:=List.length_pos_iff.2 hm0;refine⟨by omega,m++m',by rw[xU],by rw[xI,xJ];omega,λb k x tail hk hb hx hz=>?_⟩;rw[DR,xU]at hb;rw[xI]at hx;rw[Du]at hz;unfold gI;rw[hm b k x (encs m'++tail) (by omega) hb (by omega) (by omega)];simp only;rw[hm' b k ⟨x.at_+(encs m).length,x.v++m,x.sz+size m⟩ tail hk (by simp only;rw[<-List.drop_drop,hb,List.drop_left]) (by simp only;rw[xI];omega) (by simp only;omega)];rw[DR,Du,xI,xU,Nat.add_assoc,Nat.add_assoc]
theorem RG{s:Sch}:∀(F:Nat)(t:List Srt)(r:List Vl.Node)(d:Nat)(r':List Vl.Node),ofF s none F t r=some (d,r')->(∀ n∈r,OkN n) ->
  ∃ m,r=m++r'/\m≠[]/\∀ b k x tail,d<=k->b.drop x.at_=encs m++tail->x.v.length+m.length<=4096->x.sz+size m<=4096->dZ s b k t x=.ok ⟨x.at_+(encs m).length,x.v++m,x.sz+size m⟩
 |0,t,r,d,r',h,ho=>by unfold ofF at h;cases h
 |F+1,[],r,d,r',h,ho=>by unfold ofF at h;cases h
 |F+1,c::t,[],d,r',h,ho=>by unfold ofF at h;cases h
 |F+1,c::t,n::r,d,r',h,ho=>by
  unfold ofF at h;have hon:=ho n (by simp);split at h
  ·rename_i hl
   split at h
   ·rename_i hlf
    injection h with h
    injection h with h1 h2
    subst h1 h2;refine⟨[n],rfl,by simp,λb k x tail hk hb hx hz=>?_⟩;obtain⟨k,rfl⟩:∃ j,k=j+1:=⟨k - 1,by omega⟩;have hs:size [n]=1+n.text.size:=by rw[size_cons,size_nil];rfl
    rw[hs]at hz ⊢;simp only[xJ,xO]at hx;have he:encs [n]=jD n:=by simp[encs]
    rw[he]at hb ⊢;unfold dZ;rw[if_neg (by unfold full;omega),if_pos (show jS c.kind from hl),UJ hl hlf hon (by exact hb) (by unfold S.inc;simp only;omega)];unfold S.inc;simp only;rw[Nat.add_assoc]
   ·cases h
  ·rename_i hl
   obtain⟨ks,e,hks,rfl,h2⟩:=uJ h;obtain⟨-,m,rfl,hlm,hm⟩:=J6 (g:=λk b=>dZ s b k) (λt r d r' hh hoo=>RG F t r d r' hh hoo) ks 0 r e r' h2 (λn' hn'=>ho n' (by simp[hn']));refine⟨n::m,rfl,by simp,λb k x tail hk hb hx hz=>?_⟩;obtain⟨k,rfl⟩:∃ j,k=j+1:=⟨k - 1,by omega⟩;rw[GR,xU]at hb;rw[size_cons]at hz;simp only[xJ]at hx;obtain⟨h3,h4⟩:=Ve (x:=x.inc) hl hks hon (by omega) hb;unfold dZ;rw[if_neg (by unfold full;omega),if_neg (show ¬jS c.kind from hl),h3];show gI (dZ s b k) ks _=_
   rw[hm b k ⟨x.inc.at_+(jD n).length,x.inc.v++[n],x.inc.sz⟩ tail (by omega) (by show b.drop (x.at_+(jD n).length)=_;rw[<-List.drop_drop,hb,List.drop_left]) (by show(x.v++[n]).length+_<=_;rw[xI];simp only[xJ,xO];omega) (by show x.sz+1+_<=_;omega)];rw[GR,size_cons,h4,xI];show Except.ok (S.mk (x.at_+(jD n).length+(encs m).length) (x.v++[n]++m) (x.sz+1+size m))=_
   rw[xU,List.singleton_append,Nat.add_assoc,Nat.add_assoc]
structure Got(b:List UInt8)(x y:S)(m:List Vl.Node):Prop where
 v:y.v=x.v++m
 bs:b.drop x.at_=encs m++b.drop y.at_
 le:x.at_<=y.at_
 lim:y.at_<=b.length
 sz:y.sz=x.sz+size m
 ok:∀ n∈m,OkN n
theorem Got.trans{b:List UInt8}{x y z:S}{m m':List Vl.Node}(h:Got b x y m)(k:Got b y z m'):Got b x z (m++m') :=
 ⟨by rw[k.v,h.v,xU],by rw[h.bs,k.bs,DR,xU],xM h.le k.le,k.lim,by rw[k.sz,h.sz,Du];omega,λn hn=>by rcases List.mem_append.1 hn with h1|h1;exact h.ok n h1;exact k.ok n h1⟩
theorem nX{k:Nat}{i:Int}{d:Int}(h1:-9223372036854775808<=i)(h2:i<=9223372036854775807):OkN ⟨k,i,E0,d⟩:=⟨h1,h2,by show(0:Nat)<=_;omega⟩
theorem UK{b:List UInt8}{k:Nat}{x y:S}(hk:jS k)(hx:x.at_<=b.length)(h:BL b k x=.ok y)(hz:x.sz<=4096):∃ n,leaf k n=true/\OkN n/\y=⟨y.at_,x.v++[n],x.sz+n.text.size⟩/\b.drop x.at_=jD n++b.drop y.at_/\x.at_<=y.at_/\y.at_<=b.length/\y.sz<=4096:=by
 unfold BL at h;unfold jS at hk;have hE:E0.toList.isEmpty=true:=Bv;by_cases k1:k=1
 ·subst k1
  rw[if_pos rfl]at h;injection h with h
  subst h;exact⟨⟨1,0,E0,0⟩,by unfold leaf;simp only[hE];rfl,nX (by omega) (by omega),rfl,rfl,xB _,hx,hz⟩
 rw[if_neg k1]at h;by_cases k2:k=2
 ·subst k2
  rw[if_pos rfl]at h;split at h
  ·cases h
  ·rename_i q hq
   obtain⟨u,q⟩:=q;obtain⟨a1,a2,a3,a4⟩:=KG hq;injection h with h
   subst h;refine⟨⟨2,u,E0,0⟩,?_,nX (by omega) (by omega),rfl,?_,by show x.at_<=q;omega,a4,hz⟩
   ·unfold leaf
    simp only[hE,Bool.true_or,Bool.and_true,beq_self_eq_true,Bool.true_and];rcases(by omega:u=0∨u=1)with rfl|rfl<;>rfl
   ·show _=[UInt8.ofNat ((u:Int)).toNat]++_
    rw[Int.toNat_natCast];exact a2
 rw[if_neg k2]at h;by_cases k3:k=3
 ·subst k3
  rw[if_pos rfl]at h;split at h
  ·cases h
  ·rename_i q hq
   obtain⟨u,q⟩:=q;obtain⟨a1,a2,a3,a4⟩:=yK hq;injection h with h
   subst h;refine⟨⟨3,un u,E0,0⟩,?_,nX (by unfold un;split<;>omega) (by unfold un;split<;>omega),rfl,?_,by show x.at_<=q;omega,a4,hz⟩
   ·unfold leaf
    simp only[hE,Bool.true_or,Bool.or_true,Bool.and_true,beq_self_eq_true,Bool.true_and]
   ·show _=var (zz (un u))++_
    rw[Zd];exact a2
 ·obtain rfl:k=4:=by omega
  rw[if_neg k3]at h;split at h
  ·cases h
  ·rename_i q hq
   obtain⟨u,q⟩:=q;obtain⟨a1,a2,a3,a4⟩:=yK hq;unfold F8 at h;split at h
   ·cases h
   ·split at h
    ·cases h
    ·rename_i g1 g2
     simp only at g1 g2;injection h with h
     subst h;have hts:(qO b q u).size=u:=by
      show((b.drop q).take u).toArray.size=u
      rw[List.size_toArray,List.length_take,List.length_drop];omega
     refine⟨⟨4,0,qO b q u,0⟩,?_,⟨by simp,by simp,by show(qO b q u).size<=_;omega⟩,?_,?_,by show x.at_<=q+u;omega,by show q+u<=_;omega,by show x.sz+u<=_;omega⟩
     ·unfold leaf
      simp
     ·show S.mk _ _ (x.sz+u)=S.mk _ _ (x.sz+(qO b q u).size)
      rw[hts];rfl
     ·show _=(var (qO b q u).size++(qO b q u).data.toList)++b.drop (q+u)
      rw[hts,a2,xU];show _=var u++((b.drop q).take u++b.drop (q+u))
      rw[<-List.drop_drop,List.take_append_drop]
theorem JK{s:Sch}{b:List UInt8}{c:Srt}{t:List Srt}{x y:S}{ks:List (List Srt)}(hx:x.at_<=b.length)(hff:∀ r∈s.records,r.fields.length<=4096)(h:rG s b c t x=.ok (ks,y)):∃ n,OkN n/\n.text.size=0/\y=⟨y.at_,x.v++[n],x.sz⟩/\b.drop x.at_=jD n++b.drop y.at_/\x.at_<=y.at_/\y.at_<=b.length/\ks.length<=4096/\∀ lim,ks.length<=lim->kR s lim c t n=some ks:=by
 unfold rG at h;have hE:E0.toList.isEmpty=true:=Bv;by_cases h5:c.kind=5
 ·rw[if_pos h5]at h
  split at h
  ·cases h
  ·rename_i q hq
   obtain⟨u,q⟩:=q;obtain⟨a1,a2,a3,a4⟩:=yK hq;split at h
   ·cases h
   ·rename_i g1
    simp only at g1;injection h with h
    injection h with h1 h2
    subst h1 h2;refine⟨⟨5,0,E0,u⟩,nX (by omega) (by omega),rfl,rfl,?_,by show x.at_<=q;omega,a4,by rw[List.length_replicate];omega,λlim hl=>?_⟩
    ·show _=var ((u:Int)).toNat++_
     rw[Int.toNat_natCast];exact a2
    ·rw[List.length_replicate]at hl
     unfold kR;rw[if_pos (.inl h5)];unfold kW;rw[if_pos ⟨h5.symm,rfl,hE,by simp,by simp only;unfold Ak;rw[if_neg (by omega)];exact_mod_cast hl⟩];simp only[Int.toNat_natCast]
 rw[if_neg h5]at h;by_cases h6:c.kind=6
 ·rw[if_pos h6]at h
  split at h
  ·cases h
  ·rename_i q hq
   obtain⟨u,q⟩:=q;obtain⟨a1,a2,a3,a4⟩:=KG hq;injection h with h
   injection h with h1 h2
   subst h1 h2;refine⟨⟨6,0,E0,u⟩,nX (by omega) (by omega),rfl,rfl,?_,by show x.at_<=q;omega,a4,by rw[List.length_replicate];omega,λlim hl=>?_⟩
   ·show _=[UInt8.ofNat ((u:Int)).toNat]++_
    rw[Int.toNat_natCast];exact a2
   ·unfold kR
    rw[if_pos (.inr h6)];unfold kW;rw[if_pos ⟨h6.symm,rfl,hE,by simp,by simp only;unfold Ak;rw[if_pos h6];exact_mod_cast a1⟩];simp only[Int.toNat_natCast]
 rw[if_neg h6]at h;have hfew:((find s c.name).getD ny).fields.length<=4096:=by
  cases hf:find s c.name with
  |none=>exact Nat.zero_le _
  |some r=>exact hff r (wJ hf).1
 have hko:∀ lim n,kR s lim c t n=mQ ((find s c.name).getD ny) n:=λlim n=>by unfold kR;rw[if_neg (by omega)]
 generalize(find s c.name).getD ny=r at *;split at h
 ·rename_i hc
  unfold BM at h;split at h
  ·cases h
  ·rename_i q hq
   obtain⟨u,q⟩:=q;obtain⟨a1,a2,a3,a4⟩:=yK hq;split at h
   ·cases h
   ·rename_i g1
    simp only at g1;injection h with h
    injection h with h1 h2
    subst h1 h2;refine⟨⟨8,u,E0,1⟩,nX (by omega) (by omega),rfl,rfl,?_,by show x.at_<=q;omega,a4,by simp,λlim hl=>?_⟩
    ·show _=var ((u:Int)).toNat++_
     rw[Int.toNat_natCast];exact a2
    ·rw[hko]
     unfold mQ;rw[if_pos hc,if_pos ⟨rfl,hE,rfl,by simp only;omega,by simp only;omega⟩];simp only[Int.toNat_natCast]
 ·rename_i hc
  injection h with h
  injection h with h1 h2
  subst h1 h2;refine⟨⟨7,0,E0,r.fields.length⟩,nX (by omega) (by omega),rfl,rfl,rfl,xB _,hx,by rw[List.length_map];exact hfew,λlim hl=>?_⟩;rw[hko];unfold mQ;rw[if_neg hc,if_pos ⟨rfl,rfl,hE,rfl⟩]
theorem J7{s:Sch}{b:List UInt8}{k:Nat}{g:List Srt->S->Rs S}
  (hg:∀ t x y,g t x=.ok y->x.at_<=b.length->∃ m d,Got b x y m/\m≠[]/\1<=d/\d<=k/\y.v.length<=4096/\y.sz<=4096/\∀ r F,(m++r).length<F->ofF s none F t (m++r)=some (d,r)) :
  ∀(ts:List (List Srt))(x y:S),gI g ts x=.ok y->x.at_<=b.length->x.v.length<=4096->x.sz<=4096->∃ m,Got b x y m/\ts.length<=m.length/\y.v.length<=4096/\y.sz<=4096/\∀ d0,∃ e,e<=max d0 k/\∀ r F,(m++r).length<F->fQ (ofF s none F) ts d0 (m++r)=some (e,r)
 |[],x,y,h,hx,hv,hz=>by
  injection h with h
  subst h;exact⟨[],⟨by rw[List.append_nil],rfl,xB _,hx,rfl,by simp⟩,xB _,hv,hz,λd0=>⟨d0,by omega,λr F _=>rfl⟩⟩
 |t::ts,x,y,h,hx,hv,hz=>by
  unfold gI at h;split at h
  ·cases h
  ·rename_i z hz1
   obtain⟨m,d,g1,g2,g3,g4,g5,g6,g7⟩:=hg t x z hz1 hx;obtain⟨m',i1,i2,i3,i4,i5⟩:=J7 hg ts z y h g1.lim g5 g6;have hpos:0<m.length:=List.length_pos_iff.2 g2;refine⟨m++m',g1.trans i1,by rw[xI,xJ];omega,i3,i4,λd0=>?_⟩;obtain⟨e,he,hm⟩:=i5 (max d0 d);refine⟨e,by omega,λr F hF=>?_⟩;unfold fQ;rw[xU]at hF ⊢;rw[g7 (m'++r) F hF];simp only;exact hm r F (by rw[xI]at hF;omega)
theorem Kq{s:Sch}{b:List UInt8}(hff:∀ r∈s.records,r.fields.length<=4096):∀(k:Nat)(t:List Srt)(x y:S),dZ s b k t x=.ok y->x.at_<=b.length->∃ m d,Got b x y m/\m≠[]/\1<=d/\d<=k/\y.v.length<=4096/\y.sz<=4096/\∀ r F,(m++r).length<F->ofF s none F t (m++r)=some (d,r)
 |0,t,x,y,h,hx=>by unfold dZ at h;cases h
 |k+1,[],x,y,h,hx=>by unfold dZ at h;cases h
 |k+1,c::t,x,y,h,hx=>by
  unfold dZ at h;split at h
  ·cases h
  ·rename_i hfull
   unfold full at hfull;split at h
   ·rename_i hl
    obtain⟨n,a1,a2,a3,a4,a5,a6,a7⟩:=UK hl (x:=x.inc) hx h (by unfold S.inc;simp only;omega);have hv:y.v=x.v++[n]:=by rw[a3];rfl
    have hz:y.sz=x.sz+1+n.text.size:=by rw[a3];rfl
    have he:encs [n]=jD n:=by simp[encs]
    refine⟨[n],1,⟨hv,by rw[he];exact a4,a5,a6,by rw[hz,size_cons,size_nil];omega,by simpa using a2⟩,by simp,xB _,by omega,by rw[hv,xI,List.length_singleton];omega,a7,λr F hF=>?_⟩;obtain⟨F,rfl⟩:∃ G,F=G+1:=⟨F - 1,by omega⟩;rw[List.singleton_append];unfold ofF;rw[if_pos (show c.kind=1∨c.kind=2∨c.kind=3∨c.kind=4 from hl),if_pos a1]
   ·rename_i hl
    unfold goD at h;split at h
    ·cases h
    ·rename_i p hp
     obtain⟨ks,z⟩:=p;obtain⟨n,a1,a2,a3,a4,a5,a6,a7,a8⟩:=JK (x:=x.inc) hx hff hp;have hv:z.v=x.v++[n]:=by rw[a3];rfl
     have hz:z.sz=x.sz+1:=by rw[a3];rfl
     obtain⟨m,i1,i2,i3,i4,i5⟩:=J7 (λt x y h hx=>Kq hff k t x y h hx) ks z y h a6 (by rw[hv,xI,List.length_singleton];omega) (by omega);obtain⟨e,he,hm⟩:=i5 0;have g0:Got b x z [n]:=⟨hv,by rw[show encs [n]=jD n by simp[encs]];exact a4,a5,a6,by rw[hz,size_cons,size_nil];omega,by simpa using a1⟩;refine⟨n::m,e+1,g0.trans i1,by simp,by omega,by omega,i3,i4,λr F hF=>?_⟩;obtain⟨F,rfl⟩:∃ G,F=G+1:=⟨F - 1,by omega⟩;simp only[List.cons_append,xJ,xI]at hF ⊢;unfold ofF;rw[if_neg (show ¬(c.kind=1∨c.kind=2∨c.kind=3∨c.kind=4)from hl),Option.getD_none,a8 _ (by rw[xI];omega)];show up (fQ (ofF s none F) ks 0 (m++r))=_
     rw[hm r F (by rw[xI];omega)];rfl
def errs(e:Nat):Prop:=e=151∨e=3∨e=162∨e=160
theorem UH{b:List UInt8}{k:Nat}{x:S}{e:Nat × Nat}(hx:x.at_<=b.length)(h:BL b k x=.error e):e.1<=b.length/\errs e.2:=by
 unfold BL at h;have key:∀ e':Nat × Nat,(e'.2=162∨e'.2=160)->errs e'.2:=λ(e':Nat × Nat) h=>by unfold errs;omega
 split at h
 ·cases h
 split at h
 ·split at h
  ·rename_i e1 he
   injection h with h
   subst h;have:=ND hx he;exact⟨this.2.1,key _ this.2.2⟩
  ·cases h
 split at h
 ·split at h
  ·rename_i e1 he
   injection h with h
   subst h;have:=Ce hx he;exact⟨this.2.1,key _ this.2.2⟩
  ·cases h
 ·split at h
  ·rename_i e1 he
   injection h with h
   subst h;have:=Ce hx he;exact⟨this.2.1,key _ this.2.2⟩
  ·unfold F8 at h
   split at h
   ·injection h with h;subst h;exact⟨hx,.inr (.inl rfl)⟩
   ·split at h
    ·injection h with h;subst h;exact⟨xB _,.inr (.inr (.inr rfl))⟩
    ·cases h
theorem Vd{s:Sch}{b:List UInt8}{c:Srt}{t:List Srt}{x:S}{e:Nat × Nat}(hx:x.at_<=b.length)(h:rG s b c t x=.error e):e.1<=b.length/\errs e.2:=by
 unfold rG at h;have key:∀ e':Nat × Nat,(e'.2=162∨e'.2=160)->errs e'.2:=λ(e':Nat × Nat) h=>by unfold errs;omega
 split at h
 ·split at h
  ·rename_i e1 he
   injection h with h
   subst h;have:=Ce hx he;exact⟨this.2.1,key _ this.2.2⟩
  ·split at h
   ·injection h with h;subst h;exact⟨hx,.inr (.inl rfl)⟩
   ·cases h
 split at h
 ·split at h
  ·rename_i e1 he
   injection h with h
   subst h;have:=ND hx he;exact⟨this.2.1,key _ this.2.2⟩
  ·cases h
 split at h
 ·unfold BM at h
  split at h
  ·rename_i e1 he
   injection h with h
   subst h;have:=Ce hx he;exact⟨this.2.1,key _ this.2.2⟩
  ·split at h
   ·injection h with h;subst h;exact⟨hx,.inr (.inr (.inl rfl))⟩
   ·cases h
 ·cases h
theorem J5{b:List UInt8}{g:List Srt->S->Rs S}
  (hg:∀ t x y,g t x=.ok y->x.at_<=b.length->y.at_<=b.length) (he:∀ t x e,g t x=.error e->x.at_<=b.length->e.1<=b.length/\errs e.2) :
  ∀(ts:List (List Srt))(x:S)(e:Nat × Nat),gI g ts x=.error e->x.at_<=b.length->e.1<=b.length/\errs e.2
 |[],x,e,h,hx=>by cases h
 |t::ts,x,e,h,hx=>by
  unfold gI at h;split at h
  ·rename_i e1 h1
   injection h with h
   subst h;exact he t x _ h1 hx
  ·rename_i y hy
   exact J5 hg he ts y e h (hg t x y hy hx)
theorem Nz{s:Sch}{b:List UInt8}(hff:∀ r∈s.records,r.fields.length<=4096):∀(k:Nat)(t:List Srt)(x:S)(e:Nat × Nat),dZ s b k t x=.error e->x.at_<=b.length->e.1<=b.length/\errs e.2
 |0,t,x,e,h,hx=>by unfold dZ at h;injection h with h;subst h;exact⟨hx,.inl rfl⟩
 |k+1,[],x,e,h,hx=>by unfold dZ at h;injection h with h;subst h;exact⟨hx,.inr (.inr (.inl rfl))⟩
 |k+1,c::t,x,e,h,hx=>by
  unfold dZ at h;split at h
  ·injection h with h;subst h;exact⟨hx,.inr (.inl rfl)⟩
  ·split at h
   ·exact UH (x:=x.inc) hx h
   ·unfold goD at h
    split at h
    ·rename_i e1 h1
     injection h with h
     subst h;exact Vd (x:=x.inc) hx h1
    ·rename_i p hp
     obtain⟨ks,z⟩:=p;obtain⟨n,a1,a2,a3,a4,a5,a6,a7,a8⟩:=JK (x:=x.inc) hx hff hp;exact J5 (λt x y h hx=>by obtain⟨m,d,g1,-⟩:=Kq hff k t x y h hx;exact g1.lim) (λt x e h hx=>Nz hff k t x e h hx) ks z e h a6
end Cd
namespace Vl
def qC:Node:=⟨0,0,⟨#[]⟩,0⟩
def Node.val(n:Node):Value:=.agg #[.int .u8 n.kind,.int .i64 n.int,.string n.text,.int .i64 n.kids]
def nxt(r:List Node)(k:Nat):Option Node:=match r with
 |[]=>none
 |n::_=>if n.kind=k then some n else none
def rX(r:List Node)(k a:Nat):Nat:=if(nxt r k).isSome=true then a+1 else a
def Cur(w:World)(b:Nat)(vs:Value)(a:Nat)(f:Value):Prop:=Bk w b 127 #[vs,.int .i64 a,f]
def bare(n:Node)(number text kids:Bool):Bool:=(number||n.int==0)&&(text||n.text.toList.isEmpty)&&(kids||n.kids==0)
end Vl
theorem iT(b:Bool)(w:World):Calls Tryz.prog 130 #[.bool b] w λe w'=>e=.returned (.int .i64 (if b=true then 1 else 0))/\w'=w:=by
 cases b
 ·go_enter Tryz.func130,Tryz.ntmps130
  go_wp2_with fail;go_ret;exact⟨rfl,rfl⟩
 ·go_enter Tryz.func130,Tryz.ntmps130
  go_wp2_with fail;go_ret;exact⟨rfl,rfl⟩
theorem jB(n:Vl.Node)(b1 b2 b3:Bool)(w:World):Calls Tryz.prog 131 #[n.val,.bool b1,.bool b2,.bool b3] w λe w'=>e=.returned (.bool (Vl.bare n b1 b2 b3))/\Below w.heap.size w w':=by
 obtain⟨R,HR⟩:∃ R,Hid (Vl.bare n b1 b2 b3=R):=⟨_,hid rfl⟩;rw[HR.out];obtain⟨n0,n1,n2,n3⟩:=n;unfold Vl.Node.val;unfold Vl.bare at HR;simp only at HR ⊢;cases h1:(n1==0)<;>cases h2:n2.toList.isEmpty<;>cases h3:(n3==0)<;>cases b1<;>cases b2<;>cases b3<;>
 (rw[h1,h2,h3]at HR
  simp only[Bool.or_true,Bool.or_false,Bool.and_true,Bool.and_false]at HR;go_enter Tryz.func131,Tryz.ntmps131;go_wp2_with fail;go_ret;refine⟨by rw[<-HR.out];rfl,?_⟩;exact(Below.refl _ _).alloc (xB _) _)
theorem l9(b a:Nat)(vs f:Value)(v:List Vl.Node)(k:Nat)(w0 w:World)(hv:Vl.fP w0 none vs v)(hbel:Below w0.heap.size w0 w)(hb0:w0.heap.size<=b)(hc:Vl.Cur w b vs a f)(ha:a<=v.length)(hl:v.length<=100000) :
  Calls Tryz.prog 129 #[.pointer (some ⟨b,0,none⟩),.int .u8 k] w λe w'=>e=.returned (.tuple #[((Vl.nxt (v.drop a) k).getD Vl.qC).val,.bool (Vl.nxt (v.drop a) k).isSome])/\w.grownBy w' (some b)/\Vl.Cur w' b vs (Vl.rX (v.drop a) k a) f:=by
 obtain⟨R,HR⟩:∃ R,Hid (Vl.nxt (v.drop a) k=R):=⟨_,hid rfl⟩;unfold Vl.rX;rw[HR.out];obtain⟨A,n,c,rfl⟩:=ah.is hv;have HN:Hid (n=v.length):=hid (by obtain⟨_,_,e,_⟩:=ah.slice hv;injection e);have hn:n<=100000:=by rw[HN.out];exact hl
 have han:a<=n:=by rw[HN.out];exact ha
 have HV:=hid hv;have HB:=hid hbel;have HC:=hid hc;obtain⟨⟨c0,c1,c2⟩,f0,f1,f2⟩:=(show Bk w b 127 #[.slice A n c,.int .i64 a,f]from hc).k3;have hblt:b<w.heap.size:=hc.lt;have hbne:¬b=w.heap.size:=by omega
 have aa4:¬w.heap.size=b:=by omega
 have ia0:(0:Int)<=(a:Int):=by omega
 have fin:∀ W:World,w.grownBy W (some b)->Bk W w.heap.size 92 #[.int .u8 0,.int .i64 0,.string ⟨#[]⟩,.int .i64 0]->True:=λ_ _ _=>trivial
 clear hv hbel hc hl ha fin;by_cases hlt:a<n
 case neg =>
  have h1:(n:Int)<=(a:Int):=by omega
  have h2:n<=a:=by omega
  have HE:Hid (R=none):=hid (by rw[<-HR.out,xP (by rw[<-HN.out];omega)];rfl);obtain rfl:=HE.out;simp only[Option.getD_none,Option.isSome_none,Bool.false_eq_true,if_false,Vl.qC,Vl.Node.val];go_enter Tryz.func129,Tryz.ntmps129;go_wp2_with fail;go_quiet (fail);go_wp2_with fail;have hq:=((((Bk.new w 92 #[.int .u8 0,.int .i64 0,.string ⟨#[]⟩,.int .i64 0]).drewN nq).au 0 (.int .u8 0)).au 1 (.int .i64 0)).au 2 (.string ⟨#[]⟩)|>.au 3 (.int .i64 0)
  have hb:=(((((below_drewN ((Below.refl w.heap.size w).alloc (xB _) (.cells #[.int .u8 0,.int .i64 0,.string ⟨#[]⟩,.int .i64 0] 92)) nq).setCell (p:=⟨w.heap.size,0,none⟩) (by simp) (.int .u8 0)).setCell (p:=⟨w.heap.size,1,none⟩) (by simp) (.int .i64 0)).setCell (p:=⟨w.heap.size,2,none⟩) (by simp) (.string ⟨#[]⟩)).setCell (p:=⟨w.heap.size,3,none⟩) (by simp) (.int .i64 0));obtain⟨⟨y0,y1,y2,y3⟩,_⟩:=hq.k4;refine bodyPost_ret (v:=.tuple #[.agg #[.int .u8 0,.int .i64 0,.string ⟨#[]⟩,.int .i64 0],.bool false]) ?_ rfl ⟨rfl,aQ hb _,Bk.below HC.out hb hblt⟩;rw[mJ rfl];go_simp;try rfl
 have hka:a<v.length:=by rw[<-HN.out];exact hlt
 obtain⟨g,off,cs,rfl,-,e1,hc⟩:=ah.get HV.out hka (by omega);have hD:v.drop a=v[a]::v.drop (a+1):=xQ hka;rw[hD]at HR;obtain⟨⟨n0,n1,n2,n3⟩,Hx⟩:∃ y,Hid (v[a]=y):=⟨_,hid rfl⟩;rw[Hx.out]at e1 HR;unfold Vl.oC Vl.Node.cells at e1;subst e1;have a0:=hc 0 _ rfl;have a1:=hc 1 _ rfl;have a2:=hc 2 _ rfl;have a3:=hc 3 _ rfl;simp only[xK]at a0;have hgl:g<w0.heap.size:=xH w0 _ a0;have a0:=(HB.out.cell hgl).trans a0;have a1:=(HB.out.cell hgl).trans a1;have a2:=(HB.out.cell hgl).trans a2;have a3:=(HB.out.cell hgl).trans a3;have hgw:g<w.heap.size:=by omega
 have wV:¬g=w.heap.size:=by omega
 have hgb:¬g=b:=by omega
 have hbg:¬b=g:=by omega
 have ia1:(a:Int)<(n:Int):=by omega
 have ia2:¬(n:Int)<=(a:Int):=by omega
 have ia3:¬n<=a:=by omega
 clear hc hD Hx;by_cases hk:n0=k
 case neg =>
  have HE:Hid (R=none):=hid (by rw[<-HR.out];exact if_neg hk);have t0:((n0:Int) != (k:Int))=true:=by rw[bne_iff_ne];omega
  have t1:((n0:Int)==(k:Int))=false:=by rw[xG];omega
  have t2:¬(n0:Int)=(k:Int):=by omega
  obtain rfl:=HE.out;simp only[Option.getD_none,Option.isSome_none,Bool.false_eq_true,if_false,Vl.qC,Vl.Node.val];go_enter Tryz.func129,Tryz.ntmps129;go_wp2_with fail;go_quiet (fail);go_wp2_with fail;have hq:=((((Bk.new w 92 #[.int .u8 0,.int .i64 0,.string ⟨#[]⟩,.int .i64 0]).drewN nq).au 0 (.int .u8 0)).au 1 (.int .i64 0)).au 2 (.string ⟨#[]⟩)|>.au 3 (.int .i64 0)
  have hb:=(((((below_drewN ((Below.refl w.heap.size w).alloc (xB _) (.cells #[.int .u8 0,.int .i64 0,.string ⟨#[]⟩,.int .i64 0] 92)) nq).setCell (p:=⟨w.heap.size,0,none⟩) (by simp) (.int .u8 0)).setCell (p:=⟨w.heap.size,1,none⟩) (by simp) (.int .i64 0)).setCell (p:=⟨w.heap.size,2,none⟩) (by simp) (.string ⟨#[]⟩)).setCell (p:=⟨w.heap.size,3,none⟩) (by simp) (.int .i64 0));obtain⟨⟨y0,y1,y2,y3⟩,_⟩:=hq.k4;refine bodyPost_ret (v:=.tuple #[.agg #[.int .u8 0,.int .i64 0,.string ⟨#[]⟩,.int .i64 0],.bool false]) ?_ rfl ⟨rfl,aQ hb _,Bk.below HC.out hb hblt⟩;rw[mJ rfl];go_simp;try rfl
 subst hk;have HE:Hid (R=some ⟨n0,n1,n2,n3⟩):=hid (by rw[<-HR.out];exact if_pos rfl);have t0:((n0:Int) != (n0:Int))=false:=by simp
 obtain rfl:=HE.out;simp only[Option.getD_some,Option.isSome_some,if_true,Vl.Node.val];go_enter Tryz.func129,Tryz.ntmps129;go_wp2_with fail;go_quiet (fail);go_upto_region 4 with(fail)
 refine ak (λV hV=>?_);have hq0:=((Bk.new w 92 #[.int .u8 0,.int .i64 0,.string ⟨#[]⟩,.int .i64 0]).drewN nq).far (p:=⟨b,1,none⟩) (by simp;omega) (.int .i64 ((a:Int)+1));have hg0:w.grownBy V (some b):=by
  rw[hV];exact bn (aQ (below_drewN ((Below.refl w.heap.size w).alloc (xB _) _) nq) _) (.inl rfl) _
 have hc0:Bk V b 127 #[.slice (some ⟨g,off,none⟩) n c,.int .i64 ((a:Int)+1),f]:=by
  rw[hV];exact(Bk.drewN ((show Bk w b 127 #[.slice (some ⟨g,off,none⟩) n c,.int .i64 a,f]from HC.out).alloc _) nq).au 1 _
 rw[<-hV]at hq0;have b0:V.cell? _=_:=(World.cell?_of_block (a:=⟨g,off+a * 4,none⟩) (hg0.block g hgw (by intro e;injection e with e;exact hgb e))).trans a0;have b1:V.cell? _=_:=(World.cell?_of_block (a:=⟨g,off+a * 4+1,none⟩) (hg0.block g hgw (by intro e;injection e with e;exact hgb e))).trans a1;have b2:V.cell? _=_:=(World.cell?_of_block (a:=⟨g,off+a * 4+2,none⟩) (hg0.block g hgw (by intro e;injection e with e;exact hgb e))).trans a2;have b3:V.cell? _=_:=(World.cell?_of_block (a:=⟨g,off+a * 4+3,none⟩) (hg0.block g hgw (by intro e;injection e with e;exact hgb e))).trans a3;have HG0:=hid hg0;have HC0:=hid hc0;have HQ0:=hid hq0;obtain⟨⟨d0,d1,d2⟩,-⟩:=hc0.k3;obtain⟨⟨z0,z1,z2,z3⟩,z4,z5,z6,z7⟩:=hq0.k4;clear hV hg0 hc0 hq0 a0 a1 a2 a3 c0 c1 c2 f0 f1 f2;have j0:(a:Int)+1 - 1=(a:Int):=by omega
 go_region;have hq1:=(((HQ0.out.au 0 (.int .u8 n0)).au 1 (.int .i64 n1)).au 2 (.string n2)).au 3 (.int .i64 n3);have hc1:=(((HC0.out.far (p:=⟨w.heap.size,0,none⟩) (by simp;omega) (.int .u8 n0)).far (p:=⟨w.heap.size,1,none⟩) (by simp;omega) (.int .i64 n1)).far (p:=⟨w.heap.size,2,none⟩) (by simp;omega) (.string n2)).far (p:=⟨w.heap.size,3,none⟩) (by simp;omega) (.int .i64 n3);have hg1:=bn (p:=⟨w.heap.size,3,none⟩) (bn (p:=⟨w.heap.size,2,none⟩) (bn (p:=⟨w.heap.size,1,none⟩) (bn (p:=⟨w.heap.size,0,none⟩) HG0.out (.inr (xB _)) (.int .u8 n0)) (.inr (xB _)) (.int .i64 n1)) (.inr (xB _)) (.string n2)) (.inr (xB _)) (.int .i64 n3);obtain⟨⟨y0,y1,y2,y3⟩,_⟩:=hq1.k4;go_wp2_with fail;refine bodyPost_ret (v:=.tuple #[.agg #[.int .u8 n0,.int .i64 n1,.string n2,.int .i64 n3],.bool true]) ?_ rfl ⟨rfl,rE hg1,hc1⟩;rw[mJ rfl];go_simp;try rfl
end
section
open Go.BigFrame Go.Maps Go.RowKit Go.WideMaps
def Px(v:Value):Option (DataW Value × List MemPlace):=some (.held v,[])
theorem Ai{P:Program}(w:World){ops:Array Oper}{rest:List Oper}{o:Oper}{a:Act}{Q:Exit->Act->World->Prop}
  (hg:o.guard=none) (m x:Operand) (t:TypeId) (hop:o.op=Op.lookup t m x false)
  (k e:TypeId) (K:Keyed P k) (ht:P.underlying t=some (.map k e)) (z:Value) (hz:(zeroValue e).run P w=.ok z w) (b n:Nat) (D:DataW Value)
  (hm:a.eval m=.map (some b)) (hown:w.ownsMap P k Px b n D) (key:Value) (kl:Lit) (hx:a.eval x=key) (hkey:keyOf P k key=some kl) (u:Value) (hat:D.atKey kl (.held z)=.held u)
  (hK:wpList P ops Q rest (a.put o.dst u) w) :
  wpList P ops Q (o::rest) a w:=by
 refine wpList_plain hg λK' hK'=>?_
 obtain⟨v,ps,hrun,hv⟩:=hown.lookup K ht hz rfl hkey;have e2:v=u:=by
  rw[hat]at hv;unfold Px at hv;injection hv with hv
  injection hv with hv
  injection hv
 subst e2;unfold Oper.wp;simp[execOp,hop,hm,hx,hrun,Result.andThen];exact hK' _ _ hK
theorem Fh{w:World}{R:Value->Option (DataW Value × List MemPlace)}{b n:Nat}{D:DataW Value}(h:w.ownsMap Tryz.prog 9 R b n D):IsMap D:=by
 obtain⟨es,clock,_,_,_,rfl⟩:=h;exact⟨_,rfl⟩
namespace Vl
open Id Chk
def Et:Value:=.agg #[.string ⟨#[]⟩,.bool false,.slice none 0 0]
theorem Wq(w:World):(zeroValue 42).run Tryz.prog w=.ok Et w:=by kernel_rfl
def FM(w0 w:World)(b:Nat)(rs:List Rec):Prop :=
 ∃(D:DataW Value)(vl:ByteArray->Value),w.ownsMap Tryz.prog 9 Px b rs.length D/\∀ s:ByteArray,D.atKey (.string s.data.toList) (.held Et)=.held (vl s)/\Vx w0 none (vl s) (kZ rs s)
theorem WT(w0:World):Vx w0 none Et ny:=⟨_,rfl,ah.Jv _ _ _ _⟩
theorem FM.made(w0 w:World):FM w0 (w.alloc (.map #[] 0)) w.heap.size []:=⟨_,λ_=>Et,World.ownsMap_made _ _ _ _,λs=>⟨rfl,WT w0⟩⟩
theorem FM.kept{w0 w w':World}{row:Option Nat}{b:Nat}{rs:List Rec}(h:FM w0 w b rs)(hg:w.grownBy w' row)(hne:some b≠row):FM w0 w' b rs:=let⟨D,vl,h1,h2⟩:=h;⟨D,vl,h1.kept hg hne,h2⟩
theorem FM.below{w0 w w':World}{b:Nat}{rs:List Rec}(h:FM w0 w b rs)(hg:Below w.heap.size w w'):FM w0 w' b rs:=h.kept (aQ hg none) (by simp)
theorem FM.lt{w0 w:World}{b:Nat}{rs:List Rec}(h:FM w0 w b rs):b<w.heap.size:=let⟨_,_,h1,_⟩:=h;h1.lt
structure Fnd(w0 w:World)(g m:Nat)(rs:List Rec):Prop where
 bx:Bk w g 209 #[.map (some m)]
 lo:w0.heap.size<=g
 lom:w0.heap.size<=m
 fm:FM w0 w m rs
theorem Fnd.kept{w0 w w':World}{b g m:Nat}{rs:List Rec}(h:Fnd w0 w g m rs)(hg:w.grownBy w' (some b))(hb:b≠g)(hm:b≠m):Fnd w0 w' g m rs :=
 ⟨h.bx.grown hg (by intro e;injection e with e;exact hb e.symm),h.lo,h.lom,h.fm.kept hg (by intro e;injection e with e;exact hm e.symm)⟩
theorem Fnd.below{w0 w w':World}{g m:Nat}{rs:List Rec}(h:Fnd w0 w g m rs)(hb:Below w.heap.size w w'):Fnd w0 w' g m rs :=
 ⟨h.bx.below hb h.bx.lt,h.lo,h.lom,h.fm.below hb⟩
structure oD(w wr:World)(z:Value)(S:Array Value)(rs:List Rec):Prop where
 bel:Below w.heap.size w wr
 sch:Bk wr w.heap.size 28 S
 bx:Bk wr (w.heap.size+1+1) 209 #[.map (some (w.heap.size+1))]
 fm:FM w wr (w.heap.size+1) rs
theorem oD.below{w wr w':World}{z:Value}{S:Array Value}{rs:List Rec}(h:oD w wr z S rs)(hb:Below wr.heap.size wr w'):oD w w' z S rs :=
 ⟨h.bel.trans (hb.mono h.bel.size),h.sch.below hb h.sch.lt,h.bx.below hb h.bx.lt,h.fm.below hb⟩
end Vl
theorem NQ(g m:Nat)(rs:List Id.Rec)(s:ByteArray)(hs:s.size<=1000)(w0 w:World)(hf:Vl.Fnd w0 w g m rs) :
  Calls Tryz.prog 128 #[.string s,.pointer (some ⟨g,0,none⟩)] w λe w'=>∃ A n c,e=.returned (.agg #[.string (Vl.kZ rs s).name,.bool (Vl.kZ rs s).choice,.slice A n c])/\Id.iO w0 none (.slice A n c) (Vl.kZ rs s).fields/\Below w.heap.size w w':=by
 obtain⟨D,vl,hown,hat⟩:=hf.fm;have hbox:=hf.bx;obtain⟨p0,_⟩:=hbox.k1;have hgl:=hbox.lt;have wV:¬g=w.heap.size:=by omega
 obtain⟨JM,u,hu,hfl⟩:=hat s;obtain⟨A,n,c,rfl⟩:=ah.is hfl;have HF:=hid hfl;have hkey:keyOf Tryz.prog 9 (.string s)=some (.string s.data.toList):=BG (by unfold maxLen;omega);have HO:=hid (hown.alloc (.cells #[.string ⟨#[]⟩,.bool false,.slice none 0 0] 42));have HA:=hid JM;have HU:=hid hu;clear hf hat hown JM hfl hu hbox;go_enter Tryz.func128,Tryz.ntmps128;go_wp2_with(first
  |(at_lookup;refine Ai _ rfl _ _ 209 rfl 9 42 sO Tryz.underlying209 Vl.Et (Vl.Wq _) m rs.length D rfl HO.out _ _ rfl hkey _ (HA.out.trans (by rw[HU.out])) ?_)
  |go_in)
 have hq:=Bk.new w 42 #[.string (Vl.kZ rs s).name,.bool (Vl.kZ rs s).choice,.slice A n c];have hb:=(Below.refl w.heap.size w).alloc (xB _) (.cells #[.string (Vl.kZ rs s).name,.bool (Vl.kZ rs s).choice,.slice A n c] 42);obtain⟨⟨y0,y1,y2⟩,_⟩:=hq.k3;refine bodyPost_ret (v:=.agg #[.string (Vl.kZ rs s).name,.bool (Vl.kZ rs s).choice,.slice A n c]) ?_ rfl ⟨A,n,c,rfl,HF.out,hb⟩;rw[iM rfl];go_simp;try rfl
theorem Lp(v:Value)(x:Id.Sch)(hz:∀ r∈x.records,r.name.size<=1000)(hl:x.records.length<=1000)(w:World)(hv:Id.aY w none v x) :
  Calls Tryz.prog 64 #[v] w λe w'=>∃ g m,e=.returned (.func (.func 128) #[] #[.pointer (some ⟨g,0,none⟩)])/\Below w.heap.size w w'/\Vl.Fnd w w' g m x.records:=by
 obtain⟨A1,n1,c1,A2,n2,c2,A3,n3,c3,rfl,r1,r2,r3⟩:=hv;generalize x.records=rs at *;generalize x.name=xn at *;have HN:Hid (n1=rs.length):=hid (by obtain⟨_,_,e,_⟩:=ah.slice r1;injection e);have hn:n1<=1000:=by rw[HN.out];exact hl
 have H1:=hid r1;have HZ:=hid hz;clear r1 r2 r3 hz hl;have hmm:=@run_makeMap Tryz.prog;go_enter Tryz.func64,Tryz.ntmps64;go_upto_region 2 with(fail)
 clear hmm;refine ak (λV hV=>?_);have HW:Hid (Vl.oD w V (.agg #[.string xn,.slice A1 n1 c1,.slice A2 n2 c2,.slice A3 n3 c3]) #[.string xn,.slice A1 n1 c1,.slice A2 n2 c2,.slice A3 n3 c3] []):=hid (by
  subst hV;have hb:=((((Below.refl w.heap.size w).alloc (xB _) (.cells #[.string xn,.slice A1 n1 c1,.slice A2 n2 c2,.slice A3 n3 c3] 28)).alloc (by simp) (.map #[] 0)).alloc (by simp;omega) (.cells #[.map (some (w.heap.size+1))] 209));have q2:=Bk.new ((w.alloc (.cells #[.string xn,.slice A1 n1 c1,.slice A2 n2 c2,.slice A3 n3 c3] 28)).alloc (.map #[] 0)) 209 #[.map (some (w.heap.size+1))];have q1:=Vl.FM.made w (w.alloc (.cells #[.string xn,.slice A1 n1 c1,.slice A2 n2 c2,.slice A3 n3 c3] 28));simp only[World.size_alloc]at q1 q2;exact⟨hb,((Bk.new w _ _).alloc _).alloc _,q2,q1.below ((Below.refl _ _).alloc (xB _) _)⟩)
 clear hV;obtain⟨⟨q0,q1,q2,q3⟩,-⟩:=HW.out.sch.k4;go_wp2_with fail;clear q0 q1 q2 q3;go_loopw [10] (λi wr=>∃(k:Nat),k<=n1/\i=.int .i64 k/\Hid (Vl.oD w wr (.agg #[.string xn,.slice A1 n1 c1,.slice A2 n2 c2,.slice A3 n3 c3]) #[.string xn,.slice A1 n1 c1,.slice A2 n2 c2,.slice A3 n3 c3] (rs.take k))) (λi _=>n1 - (intOf i).toNat)
 case atStart=>exact⟨0,by omega,rfl,HW⟩
 case round =>
  obtain⟨k,hk,rfl,HK⟩:=hrel;obtain⟨U,rfl⟩:∃ w',w'=wr:=⟨_,rfl⟩;have ik0:(0:Int)<=(k:Int):=by omega
  by_cases hlt:k<n1
  case neg =>
   have HE:Hid (rs.take k=rs):=hid (yE (by rw[<-HN.out];omega));go_wp2_with fail;go_ret;refine⟨w.heap.size+1+1,w.heap.size+1,rfl,HK.out.bel,HK.out.bx,by omega,by omega,?_⟩;have h:=HK.out.fm;rw[HE.out]at h;exact h
  have hka:k<rs.length:=by rw[<-HN.out];exact hlt
  obtain⟨g,off,cs,rfl,-,⟨u,he,HU⟩,hc⟩:=ah.get H1.out hka (by omega);have hz:=HZ.out rs[k] (xR hka);have HT:Hid (rs.take (k+1)=rs.take k++[rs[k]]):=hid (List.take_succ_eq_append_getElem hka);have hlen:(rs.take k).length=k:=by rw[List.length_take];omega
  generalize rs[k]=r at *;obtain⟨rn,rc,rf⟩:=r;simp only at he HU hz;subst he;obtain⟨A5,n5,c5,rfl⟩:=ah.is HU;have HU2:=hid HU;have a0:=hc 0 _ rfl;have a1:=hc 1 _ rfl;have a2:=hc 2 _ rfl;simp only[xK]at a0;have hgl:g<w.heap.size:=xH w _ a0;have a0:=(HK.out.bel.cell hgl).trans a0;have a1:=(HK.out.bel.cell hgl).trans a1;have a2:=(HK.out.bel.cell hgl).trans a2;have ik1:(k:Int)<(n1:Int):=by omega
  clear hc HU;go_upto_region 5 with(fail)
  refine ak (λV1 hV=>?_);obtain⟨hb1,hq1,-⟩:=ay hV;clear hV;have hUs:=HK.out.bx.lt;have HK1:=hid (HK.out.below hb1);have HQ1:=hid hq1;obtain⟨⟨b0,b1,b2⟩,-⟩:=hq1.k3;clear hb1 hq1 a0 a1 a2 HK;obtain⟨p0,-⟩:=HK1.out.bx.k1;obtain⟨D,vl,hown,hat⟩:=HK1.out.fm;have hkey:keyOf Tryz.prog 9 (.string rn)=some (.string rn.data.toList):=BG (by unfold maxLen;omega);have HAT:=hid hat;have HIM:=hid (Fh hown);clear hat;go_upto_region 6 with(first
   |(at_mapUpdate;refine wpList_mapUpdate_own _ rfl _ _ _ 209 rfl 9 42 sO Tryz.underlying209 _ (w.heap.size+1) (rs.take k).length _ rfl hown (by unfold maxLen;omega) _ _ _ rfl rfl hkey _ [] rfl ?_;intro V2 hown1 hgrow1)
   |go_in)
  have HK2:Hid (Vl.oD w V2 (.agg #[.string xn,.slice (some ⟨g,off,none⟩) n1 c1,.slice A2 n2 c2,.slice A3 n3 c3]) #[.string xn,.slice (some ⟨g,off,none⟩) n1 c1,.slice A2 n2 c2,.slice A3 n3 c3] (rs.take (k+1))):=hid (by
   rw[HT.out];have hx:∀ R,Vl.FM w V2 (w.heap.size+1) R->Vl.oD w V2 (.agg #[.string xn,.slice (some ⟨g,off,none⟩) n1 c1,.slice A2 n2 c2,.slice A3 n3 c3]) #[.string xn,.slice (some ⟨g,off,none⟩) n1 c1,.slice A2 n2 c2,.slice A3 n3 c3] R:=λR hR=>⟨dw HK1.out.bel hgrow1 (by omega) HK1.out.bel.size,HK1.out.sch.grown hgrow1 (by simp),HK1.out.bx.grown hgrow1 (by simp),hR⟩
   refine hx _ ?_;refine⟨_,λs=>if(rn.toList==s.toList)=true then .agg #[.string rn,.bool rc,.slice A5 n5 c5]else vl s,by rw[xI];exact hown1,λs=>?_⟩;rw[Vl.OX];simp only;cases hs:(rn.toList==s.toList)
   ·rw[atKey_put_other (Chk.F9 hs)]
    exact HAT.out s
   ·obtain rfl:=Chk.data_eq hs
    rw[atKey_put_same HIM.out (by unfold WideAt.IsKeyLit;trivial)];exact⟨rfl,_,rfl,HU2.out⟩)
  clear hown hown1 hgrow1;go_wp2_with fail;go_roundw
  case rel=>exact⟨k+1,by omega,by go_num,HK2⟩
  case measure=>simp[intOf];omega
end
section
open Go.BigFrame Go.RowKit
namespace Vl
open Id Chk
theorem Gx{f:List Srt->List Node->Option (Nat × List Node)}(hf:∀ t r d r',f t r=some (d,r')->d+r'.length<=r.length) :
  ∀(ts:List (List Srt))(d:Nat)(r:List Node)(e:Nat)(r':List Node),fQ f ts d r=some (e,r')->e<=max d (r.length - r'.length)/\r'.length<=r.length
 |[],d,r,e,r',h=>by
  injection h with h
  injection h with h1 h2
  subst h1 h2;exact⟨by omega,xB _⟩
 |t::ts,d,r,e,r',h=>by
  unfold fQ at h;split at h
  ·cases h
  ·rename_i p hp
   obtain⟨a,q⟩:=p;have h1:=hf t r a q hp;obtain⟨h4,h5⟩:=Gx hf ts (max d a) q e r' h;exact⟨by omega,by omega⟩
theorem Fp{s:Sch}{lim:Option Nat}:∀(k:Nat)(t:List Srt)(r:List Node)(d:Nat)(r':List Node),ofF s lim k t r=some (d,r')->d+r'.length<=r.length
 |0,t,r,d,r',h=>by unfold ofF at h;cases h
 |k+1,[],r,d,r',h=>by unfold ofF at h;cases h
 |k+1,x::t,[],d,r',h=>by unfold ofF at h;cases h
 |k+1,x::t,n::r,d,r',h=>by
  simp only[xJ];unfold ofF at h;split at h
  ·split at h
   ·injection h with h
    injection h with h1 h2
    subst h1 h2;omega
   ·cases h
  ·obtain⟨ks,e,-,rfl,h2⟩:=uJ h
   obtain⟨h3,h4⟩:=Gx (Fp k) ks 0 r e r' h2;omega
def kQ(k:Nat)(n:Node):Bool :=
 if k=1 then bare n false false false else if k=2 then bare n true false false&&decide (0<=n.int)&&decide (n.int<=1)else if k=3 then bare n true false false else bare n false true false
theorem Xn{k:Nat}(hk:k=1∨k=2∨k=3∨k=4){n:Node}(hn:n.kind=k):leaf k n=kQ k n:=by
 unfold leaf kQ bare;rw[hn];rcases hk with rfl|rfl|rfl|rfl
 ·cases h1:(n.kids==0)<;>cases h2:(n.int==0)<;>cases h3:n.text.toList.isEmpty<;>rfl
 ·have e:(decide (0<=n.int)&&decide (n.int<=1))=(n.int==0||n.int==1):=by
   rw[Bool.eq_iff_iff];simp only[xX,decide_eq_true_eq,Bool.or_eq_true,beq_iff_eq];omega
  rw[if_neg (by decide),if_pos rfl,Bool.and_assoc (_&&_&&_),e];cases h1:(n.kids==0)<;>cases h2:(n.int==0)<;>cases h3:n.text.toList.isEmpty<;>cases h4:(n.int==1)<;>rfl
 ·cases h1:(n.kids==0)<;>cases h2:(n.int==0)<;>cases h3:n.text.toList.isEmpty<;>rfl
 ·cases h1:(n.kids==0)<;>cases h2:(n.int==0)<;>cases h3:n.text.toList.isEmpty<;>rfl
def jq(r:List Node)(k:Nat):Bool:=match nxt r k with
 |none=>false
 |some n=>kQ k n
theorem zu{s:Sch}{lim:Option Nat}{k:Nat}{x:Srt}{t:List Srt}{r:List Node}(hx:x.kind=1∨x.kind=2∨x.kind=3∨x.kind=4):ofF s lim (k+1) (x::t) r=if jq r x.kind=true then some (1,r.drop 1)else none:=by
 cases r with
 |nil=>rfl
 |cons n q =>
  have hok:jq (n::q) x.kind=leaf x.kind n:=by
   by_cases hn:n.kind=x.kind
   ·have h1:nxt (n::q) x.kind=some n:=if_pos hn
    unfold jq;rw[h1];exact(Xn hx hn).symm
   ·have h1:nxt (n::q) x.kind=none:=if_neg hn
    unfold jq leaf;rw[h1,show(n.kind==x.kind)=false from beq_eq_false_iff_ne.2 hn];rfl
  unfold ofF;rw[if_pos hx,hok];rfl
def jo(r:List Node)(k:Nat):Option Nat:=match nxt r k with
 |none=>none
 |some n=>if bare n false false true=true/\0<=n.kids/\n.kids<=(if k=6 then 1 else((r.length - 1:Nat):Int))then some n.kids.toNat else none
theorem Js{s:Sch}{k:Nat}{x:Srt}{t:List Srt}{r:List Node}(hx:x.kind=5∨x.kind=6):ofF s none (k+1) (x::t) r=match jo r x.kind with
  |none=>none
  |some d=>up (fQ (ofF s none k) (List.replicate d t) 0 (r.drop 1)):=by
 cases r with
 |nil=>rfl
 |cons n q =>
  have hok:(jo (n::q) x.kind).map (λd=>List.replicate d t)=kW q.length x.kind t n:=by
   have hw:(Ak q.length x.kind:Int)=if x.kind=6 then 1 else(q.length:Int):=by unfold Ak;split<;>rfl
   by_cases hn:n.kind=x.kind
   ·have h1:nxt (n::q) x.kind=some n:=if_pos hn
    have e:(bare n false false true=true/\0<=n.kids/\n.kids<=(if x.kind=6 then 1 else(((n::q).length - 1:Nat):Int)))↔(n.kind=x.kind/\n.int=0/\n.text.toList.isEmpty=true/\0<=n.kids/\n.kids<=(Ak q.length x.kind:Int)):=by
     rw[hw];unfold bare;simp only[Bool.false_or,Bool.true_or,Bool.and_true,xX,beq_iff_eq,hn,true_and,and_assoc,xJ,Nat.add_sub_cancel]
    unfold jo kW;rw[h1];simp only;by_cases hc:bare n false false true=true/\0<=n.kids/\n.kids<=(if x.kind=6 then 1 else(((n::q).length - 1:Nat):Int))
    ·rw[if_pos hc,if_pos (e.1 hc)]
     rfl
    ·rw[if_neg hc,if_neg (λh=>hc (e.2 h))]
     rfl
   ·have h1:nxt (n::q) x.kind=none:=if_neg hn
    have h2:jo (n::q) x.kind=none:=by unfold jo;rw[h1]
    rw[h2];unfold kW;rw[if_neg (λh=>hn h.1)];rfl
  unfold ofF;rw[if_neg (by omega)];unfold kR;rw[if_pos hx,Option.getD_none,<-hok];cases jo (n::q) x.kind<;>rfl
def Dw(s:Sch)(k:Nat)(r:Rec)(l:List Node):Option (Nat × List Node):=match l with
 |[]=>none
 |n::q=>match mQ r n with
  |none=>none
  |some ks=>up (fQ (ofF s none k) ks 0 q)
theorem Xc{s:Sch}{k:Nat}{x:Srt}{t:List Srt}{r:List Node}(hx:x.kind=7):ofF s none (k+1) (x::t) r=Dw s k ((find s x.name).getD ny) r:=by
 cases r with
 |nil=>rfl
 |cons n q =>
  unfold ofF;rw[if_neg (by omega)];unfold kR;rw[if_neg (by omega)];rfl
def lN(r:Rec)(l:List Node):Option Nat:=match nxt l 8 with
 |none=>none
 |some n=>if bare n true false true=true/\n.kids=1/\0<=n.int/\n.int<r.fields.length then some n.int.toNat else none
theorem Oz{s:Sch}{k:Nat}{r:Rec}{l:List Node}(hc:r.choice=true):Dw s k r l=match lN r l with
  |none=>none
  |some i=>up (fQ (ofF s none k) [(r.fields.map (·.type)).getD i []] 0 (l.drop 1)):=by
 cases l with
 |nil=>rfl
 |cons n q =>
  unfold Dw mQ lN nxt;simp only[List.drop_succ_cons,List.drop_zero];rw[if_pos hc];by_cases hn:n.kind=8
  ·rw[if_pos hn]
   simp only;have e:(bare n true false true=true/\n.kids=1/\0<=n.int/\n.int<r.fields.length)↔(n.kind=8/\n.text.toList.isEmpty=true/\n.kids=1/\0<=n.int/\n.int<r.fields.length):=by
    unfold bare;simp only[Bool.false_or,Bool.true_or,Bool.and_true,Bool.true_and,hn,true_and]
   by_cases hcc:bare n true false true=true/\n.kids=1/\0<=n.int/\n.int<r.fields.length
   ·rw[if_pos hcc,if_pos (e.1 hcc)]
   ·rw[if_neg hcc,if_neg (λh=>hcc (e.2 h))]
  ·rw[if_neg hn,if_neg (λh=>hn h.1)]
def zq(r:Rec)(l:List Node):Bool:=match nxt l 7 with
 |none=>false
 |some n=>bare n false false true&&n.kids==r.fields.length
theorem Oy{s:Sch}{k:Nat}{r:Rec}{l:List Node}(hc:r.choice=false):Dw s k r l=if zq r l=true then up (fQ (ofF s none k) (r.fields.map (·.type)) 0 (l.drop 1))else none:=by
 cases l with
 |nil=>rfl
 |cons n q =>
  unfold Dw mQ zq nxt;simp only[List.drop_succ_cons,List.drop_zero];rw[if_neg (by rw[hc];decide)];by_cases hn:n.kind=7
  ·rw[if_pos hn]
   simp only;have e:((bare n false false true&&n.kids==r.fields.length)=true)↔(n.kind=7/\n.int=0/\n.text.toList.isEmpty=true/\n.kids=r.fields.length):=by
    unfold bare;simp only[Bool.false_or,Bool.true_or,Bool.and_true,xX,beq_iff_eq,hn,true_and,and_assoc]
   by_cases hcc:(bare n false false true&&n.kids==r.fields.length)=true
   ·rw[if_pos hcc,if_pos (e.1 hcc)]
   ·rw[if_neg hcc,if_neg (λh=>hcc (e.2 h))]
  ·rw[if_neg hn,if_neg (λh=>hn h.1)]
   rfl
structure Env(s:Sch)(w0 w:World)(b g m:Nat):Prop where
 bel:Below w0.heap.size w0 w
 fnd:Fnd w0 w g m s.records
 lo:w0.heap.size<=b
 ng:b≠g
 nm:b≠m
 lt:b<w.heap.size
def jW(g:Nat):Value:=.func (.func 128) #[] #[.pointer (some ⟨g,0,none⟩)]
theorem Env.grown{s:Sch}{w0 w w':World}{b g m:Nat}(h:Env s w0 w b g m)(hg:w.grownBy w' (some b)):Env s w0 w' b g m :=
 ⟨dw h.bel hg h.lo (xM h.lo (Nat.le_of_lt h.lt)),h.fnd.kept hg h.ng h.nm,h.lo,h.ng,h.nm,Nat.lt_of_lt_of_le h.lt hg.size⟩
theorem Env.below{s:Sch}{w0 w w':World}{b g m:Nat}(h:Env s w0 w b g m)(hb:Below w.heap.size w w'):Env s w0 w' b g m:=h.grown (aQ hb _)
theorem Cur.below{w w':World}{b a:Nat}{vs f:Value}(h:Cur w b vs a f)(hb:Below w.heap.size w w'):Cur w' b vs a f:=Bk.below h hb (Bk.lt h)
def OfP(w:World)(b:Nat)(vs f:Value)(v:List Node)(R:Option (Nat × List Node))(e:Ending)(w':World):Prop :=
 ∃ a',e=.returned (.int .i64 (deep R))/\w.grownBy w' (some b)/\Cur w' b vs a' f/\a'<=v.length/\∀ p,R=some p->p.2=v.drop a'
theorem aI{a b c:World}{r:Option Nat}(h:a.grownBy b r)(k:b.grownBy c r):a.grownBy c r :=
 ⟨k.os.trans h.os,k.tape.trans h.tape,k.output.trans h.output,xM h.size k.size,λi hi hn=>(k.block i (Nat.lt_of_lt_of_le hi h.size) hn).trans (h.block i hi hn)⟩
theorem OfP.after{w w1 w':World}{b:Nat}{vs f:Value}{v:List Node}{R:Option (Nat × List Node)}{e:Ending}(h:OfP w1 b vs f v R e w')(hg:w.grownBy w1 (some b)):OfP w b vs f v R e w':=by
 obtain⟨a',h1,h2,h3⟩:=h;exact⟨a',h1,aI hg h2,h3⟩
end Vl
namespace Vl
open Id Chk
def OfC(s:Sch)(v:List Node)(vs:Value)(w0:World)(b g m k:Nat):Prop:=∀(tv:Value)(t:List Srt)(a:Nat)(w:World),okT s t=true->t.length<=12->a<=v.length->v.length - a<k->Env s w0 w b g m->Cur w b vs a (jW g)->bf w0 none tv t ->
 Calls Tryz.prog 65 #[.pointer (some ⟨b,0,none⟩),tv] w (OfP w b vs (jW g) v (ofF s none k t (v.drop a)))
def aae(w0 w:World)(b fid:Nat)(bs:Array Value)(ks:List (List Srt)):Prop:=∀(i:Nat)(h:i<ks.length)(w':World),w.grownBy w' (some b) ->
 Calls Tryz.prog fid (#[.int .i64 i]++bs) w' λe w''=>∃ tv,e=.returned tv/\Below w'.heap.size w' w''/\bf w0 none tv ks[i]
theorem Xw(d:Nat)(r:List Node):deep (up (some (d,r)))=d+1:=rfl
theorem _root_.Go.Proofs.YtogijkhenihaaaaGreatDoor.ah.tail{α:Type}{w:World}{t:TypeId}{size n c g off:Nat}{E:World->List Value->α->Prop}{x:α}{l:List α}(h:ah w none t size E (.slice (some ⟨g,off,none⟩) n c) (x::l)):ah w none t size E (.slice (some ⟨g,off+size,none⟩) (n - 1) (c - 1)) l:=by
 obtain⟨css,h1,h2,h3,h4⟩:=h;cases css with
 |nil=>simp at h1
 |cons c0 css =>
  obtain⟨hl,A,c',e,h5,h6,h7,h8⟩:=h3;injection e with e1 e2 e3
  subst e1 e2 e3;simp only[xJ]at h1 h5 h6 hl;have hc0:c0.length=size:=h2 c0 (by simp);refine⟨css,by omega,λcs hcs=>h2 cs (by simp[hcs]),⟨by rw[kD (λcs hcs=>h2 cs (by simp[hcs]))];congr 1;omega,_,_,by rw[xJ,Nat.add_sub_cancel],by omega,by omega,(λe=>by cases e),?_⟩,λi a b=>?_⟩
  ·intro h0
   obtain⟨g',off',e,hc⟩:=h8 (by simp only[List.flatten_cons,xI];omega);injection e with e
   injection e with e1 e2
   subst e1 e2;refine⟨_,_,rfl,λj u hu=>?_⟩;have:=hc (size+j) u (by rw[List.flatten_cons,List.getElem?_append_right (by omega),hc0,Nat.add_sub_cancel_left];exact hu);rw[<-Nat.add_assoc]at this;exact this
  ·exact h4 (i+1) (by simpa using a) (by simpa using b)
end Vl
theorem vY(s:Id.Sch)(v:List Vl.Node)(vs:Value)(w0:World)(b g m k:Nat)(hl:v.length<=100000)(ih:Vl.OfC s v vs w0 b g m k)(ks:List (List Id.Srt))(hks:∀ t∈ks,Chk.okT s t=true/\t.length<=12)(n:Nat)(hn:n=ks.length)(hkl:n<=100000)
  (a:Nat) (ha:a<=v.length) (hlen:v.length - a<k) (fid:Nat) (hent:∀(args:Array Value)(w:World),(callFunc fid args).run Tryz.prog w=.ok (.enter fid args) w) (bs:Array Value) (w:World) (hE:Vl.Env s w0 w b g m) (hC:Vl.Cur w b vs a (Vl.jW g)) (hT:Vl.aae w0 w b fid bs ks) :
  Calls Tryz.prog 132 #[.pointer (some ⟨b,0,none⟩),.int .i64 n,.func (.func fid) #[] bs] w (Vl.OfP w b vs (Vl.jW g) v (Vl.up (Vl.fQ (Vl.ofF s none k) ks 0 (v.drop a)))):=by
 obtain⟨R,HR⟩:∃ R,Hid (Vl.fQ (Vl.ofF s none k) ks 0 (v.drop a)=R):=⟨_,hid rfl⟩;rw[HR.out];have HN:=hid hn;have HIH:=hid ih;have HK:=hid hks;have HE:=hid hE;have HC:=hid hC;have HT:=hid hT;clear hn ih hks hE hC hT;go_enter Tryz.func132,Tryz.ntmps132;go_wp2_with fail;go_loopw [7,8,9,11] (λd _ _ i wr=>∃(j D a1:Nat),j<=n/\i=.int .i64 j/\d=.int .i64 D/\D<=100000/\a<=a1/\a1<=v.length/\Hid (w.grownBy wr (some b))/\Hid (Vl.Cur wr b vs a1 (Vl.jW g))/\Hid (Vl.fQ (Vl.ofF s none k) (ks.drop j) D (v.drop a1)=R)) (λ_ _ _ i _=>n - (intOf i).toNat)
 case atStart=>exact⟨0,0,a,by omega,rfl,rfl,by omega,xB _,ha,hid (dL w _),HC,HR⟩
 case round =>
  obtain⟨j,D,a1,hj,rfl,rfl,hD,ha1,ha2,HG,HC1,HQ⟩:=hrel;obtain⟨W,rfl⟩:∃ w',w'=wr:=⟨_,rfl⟩;by_cases hlt:j<n
  case neg =>
   have HX:Hid (R=some (D,v.drop a1)):=hid (by rw[<-HQ.out,xP (by rw[<-HN.out];omega)];rfl);go_wp2_with fail;go_ret;refine⟨a1,?_,HG.out,HC1.out,ha2,λp hp=>?_⟩
   ·rw[HX.out,Vl.Xw]
    try rfl
   ·rw[HX.out]at hp;injection hp with hp;rw[<-hp]
  have hjk:j<ks.length:=by rw[<-HN.out];exact hlt
  have hd:=HQ.out;rw[xQ hjk]at hd;have HKJ:=hid (HK.out _ (xR hjk));have HTJ:=hid (HT.out j hjk W HG.out);have hEW:=HE.out.grown HG.out;have HEW:=hid hEW;have hbl:=hEW.lt;clear hEW;go_wp2_with fail;refine HTJ.out.mono ?_;rintro e W1⟨tv,rfl,hb1,hs1⟩;have HB1:=hid hb1;have HS1:=hid hs1;clear hb1 hs1;go_wp2_with fail;refine(HIH.out tv ks[j] a1 W1 HKJ.out.1 HKJ.out.2 ha2 (by omega) (HEW.out.below HB1.out) (HC1.out.below HB1.out) HS1.out).mono ?_;rintro e W2⟨a2,rfl,hg2,hc2,ha3,hp2⟩;have HG2:Hid (w.grownBy W2 (some b)):=hid (Vl.aI HG.out (Vl.aI (aQ HB1.out _) hg2));have HC2:=hid hc2;clear hg2 hc2;cases hq:Vl.ofF s none k ks[j] (v.drop a1)with
  |none =>
   have HX:Hid (R=none):=hid (by rw[<-hd];unfold Vl.fQ;rw[hq]);clear hd hp2;have e0:Vl.deep (none:Option (Nat × List Vl.Node))=0:=rfl;rw[e0];try simp only[xY]
   go_wp2_with fail;go_ret;exact⟨a2,by rw[HX.out];rfl,HG2.out,HC2.out,ha3,λp hp=>by rw[HX.out]at hp;cases hp⟩
  |some p =>
   obtain⟨e,r⟩:=p;have hr:r=v.drop a2:=hp2 _ hq;have hdp:=Vl.Fp k _ _ _ _ hq;have hln:=Vl.Jt (N:=v.length) k _ _ _ _ (by rw[List.length_drop];omega) hq;rw[List.length_drop]at hdp hln;have he1:1<=e:=hln.1;have he2:e<=100000:=by omega
   have ha4:a<=a2:=by have:=hln.2.1;rw[hr,List.length_drop]at this;omega
   have HQ2:Hid (Vl.fQ (Vl.ofF s none k) (ks.drop (j+1)) (max D e) (v.drop a2)=R):=hid (by rw[<-hd];conv=>rhs;unfold Vl.fQ;rw[hq];simp only;rw[hr]);have e0:Vl.deep (some (e,r))=e:=rfl;rw[e0];clear hd hp2 hq hr hdp hln e0;have t0:((e:Int)==0)=false:=by rw[xG];omega
   have t1:¬(e:Int)=0:=by omega
   have t2:¬e=0:=by omega
   rcases Nat.le_total D e with hde|hde
   ·have hmx:max D e=e:=by omega
    rw[hmx]at HQ2;have hmi:max (D:Int) (e:Int)=(e:Int):=by omega
    have hm1:(D:Int)<=(e:Int):=by omega
    go_wp2_with fail;go_roundw
    case rel=>exact⟨j+1,e,a2,by omega,by go_num,by first|rfl|go_num|(simp only[hmi];done)|skip,by omega,ha4,ha3,HG2,HC2,HQ2⟩
    case measure=>simp[intOf]<;>omega
   ·have hmx:max D e=D:=by omega
    rw[hmx]at HQ2;have hmi:max (D:Int) (e:Int)=(D:Int):=by omega
    have hm1:(e:Int)<=(D:Int):=by omega
    go_wp2_with fail;go_roundw
    case rel=>exact⟨j+1,D,a2,by omega,by go_num,by first|rfl|go_num|(simp only[hmi];done)|skip,by omega,ha4,ha3,HG2,HC2,HQ2⟩
    case measure=>simp[intOf]<;>omega
theorem TJ(x:Id.Srt)(t:List Id.Srt)(ht:t≠[])(tb:Nat)(tv:Value)(w0 w:World)(i:Int)(hs:Id.bf w0 none tv (x::t))(hq:Bk w tb 45 #[tv]) :
  Calls Tryz.prog 133 #[.int .i64 i,.pointer (some ⟨tb,0,none⟩)] w λe w'=>∃ tv',e=.returned tv'/\Below w.heap.size w w'/\Id.bf w0 none tv' t:=by
 obtain⟨A,n,c,rfl⟩:=ah.is hs;have hn:n=t.length+1:=by obtain⟨_,_,e,_⟩:=ah.slice hs;injection e
 obtain⟨g,off,cs,rfl,-⟩:=ah.get hs (i:=0) (by simp) (by omega);have hcn:n<=c:=by obtain⟨_,_,e,h,_⟩:=ah.slice hs;injection e with _ e2 e3;rw[e3,e2];exact h
 have hcm:c<=9223372036854775807:=by obtain⟨_,_,e,_,h,_⟩:=ah.slice hs;injection e with _ _ e3;omega
 have hpos:=List.length_pos_iff.2 ht;have h2:2<=n:=by omega
 have HS:=hid (ah.tail hs);obtain⟨q0,-⟩:=hq.k1;have i1:(1:Int)<=(n:Int):=by omega
 have i2:(1:Int)<=(c:Int):=by omega
 have i3:(n:Int)<=(c:Int):=by omega
 have i4:((n:Int) - 1).toNat=n - 1:=by omega
 have i5:((c:Int) - 1).toNat=c - 1:=by omega
 have i6:¬c=1:=by omega
 have i7:¬n=1:=by omega
 clear hs hq hn hpos;go_enter Tryz.func133,Tryz.ntmps133;go_wp2_with fail;go_ret;exact⟨_,rfl,Below.refl _ _,HS.out⟩
theorem TI(x:Id.Srt)(t:List Id.Srt)(ht:t≠[])(tb:Nat)(tv:Value)(w0 w:World)(i:Int)(hs:Id.bf w0 none tv (x::t))(hq:Bk w tb 45 #[tv]) :
  Calls Tryz.prog 134 #[.int .i64 i,.pointer (some ⟨tb,0,none⟩)] w λe w'=>∃ tv',e=.returned tv'/\Below w.heap.size w w'/\Id.bf w0 none tv' t:=by
 obtain⟨A,n,c,rfl⟩:=ah.is hs;have hn:n=t.length+1:=by obtain⟨_,_,e,_⟩:=ah.slice hs;injection e
 obtain⟨g,off,cs,rfl,-⟩:=ah.get hs (i:=0) (by simp) (by omega);have hcn:n<=c:=by obtain⟨_,_,e,h,_⟩:=ah.slice hs;injection e with _ e2 e3;rw[e3,e2];exact h
 have hcm:c<=9223372036854775807:=by obtain⟨_,_,e,_,h,_⟩:=ah.slice hs;injection e with _ _ e3;omega
 have hpos:=List.length_pos_iff.2 ht;have h2:2<=n:=by omega
 have HS:=hid (ah.tail hs);obtain⟨q0,-⟩:=hq.k1;have i1:(1:Int)<=(n:Int):=by omega
 have i2:(1:Int)<=(c:Int):=by omega
 have i3:(n:Int)<=(c:Int):=by omega
 have i4:((n:Int) - 1).toNat=n - 1:=by omega
 have i5:((c:Int) - 1).toNat=c - 1:=by omega
 have i6:¬c=1:=by omega
 have i7:¬n=1:=by omega
 clear hs hq hn hpos;go_enter Tryz.func134,Tryz.ntmps134;go_wp2_with fail;go_ret;exact⟨_,rfl,Below.refl _ _,HS.out⟩
theorem Lm(rn:ByteArray)(rc:Bool)(rf:List Id.Fld)(fv:Value)(n0:Int)(n1:Nat)(n2:ByteArray)(n3:Int)(hi:n1<rf.length)(rb nb:Nat)(w0 w:World)(i:Int)(hs:Id.iO w0 none fv rf)(hb:Below w0.heap.size w0 w)(hq:Bk w rb 42 #[.string rn,.bool rc,fv])(hqn:Bk w nb 92 #[.int .u8 n0,.int .i64 n1,.string n2,.int .i64 n3]) :
  Calls Tryz.prog 179 #[.int .i64 i,.pointer (some ⟨rb,0,none⟩),.pointer (some ⟨nb,0,none⟩)] w λe w'=>∃ tv',e=.returned tv'/\Below w.heap.size w w'/\Id.bf w0 none tv' rf[n1].type:=by
 obtain⟨A,n,c,rfl⟩:=ah.is hs;have hn:n=rf.length:=by obtain⟨_,_,e,_⟩:=ah.slice hs;injection e
 obtain⟨g,off,cs,rfl,-,⟨u,he,hu⟩,hc⟩:=ah.get hs hi (by omega);obtain⟨A7,n7,c7,rfl⟩:=ah.is hu;have HU:=hid hu;generalize rf[n1]=y at *;obtain⟨yn,yt⟩:=y;simp only at he HU ⊢;subst he;have a0:=hc 0 _ rfl;have a1:=hc 1 _ rfl;simp only[xK]at a0;have hgl:g<w0.heap.size:=xH w0 _ a0;have a0:=(hb.cell hgl).trans a0;have a1:=(hb.cell hgl).trans a1;have i0:(0:Int)<=(n1:Int):=by omega
 have i1:(n1:Int)<(n:Int):=by omega
 obtain⟨⟨q0,q1,q2⟩,-⟩:=hq.k3;obtain⟨⟨p0,p1,p2,p3⟩,-⟩:=hqn.k4;clear hc hs hu hb hq hqn hn;go_enter Tryz.func179,Tryz.ntmps179;go_wp2_with fail;go_ret;exact⟨_,rfl,Below.refl _ _,HU.out⟩
theorem Ll(rn:ByteArray)(rc:Bool)(rf:List Id.Fld)(fv:Value)(rb:Nat)(w0 w:World)(i:Nat)(hi:i<rf.length)(hs:Id.iO w0 none fv rf)(hb:Below w0.heap.size w0 w)(hq:Bk w rb 42 #[.string rn,.bool rc,fv]) :
  Calls Tryz.prog 180 #[.int .i64 i,.pointer (some ⟨rb,0,none⟩)] w λe w'=>∃ tv',e=.returned tv'/\Below w.heap.size w w'/\Id.bf w0 none tv' rf[i].type:=by
 obtain⟨A,n,c,rfl⟩:=ah.is hs;have hn:n=rf.length:=by obtain⟨_,_,e,_⟩:=ah.slice hs;injection e
 obtain⟨g,off,cs,rfl,-,⟨u,he,hu⟩,hc⟩:=ah.get hs hi (by omega);obtain⟨A7,n7,c7,rfl⟩:=ah.is hu;have HU:=hid hu;generalize rf[i]=y at *;obtain⟨yn,yt⟩:=y;simp only at he HU ⊢;subst he;have a0:=hc 0 _ rfl;have a1:=hc 1 _ rfl;simp only[xK]at a0;have hgl:g<w0.heap.size:=xH w0 _ a0;have a0:=(hb.cell hgl).trans a0;have a1:=(hb.cell hgl).trans a1;have i0:(0:Int)<=(i:Int):=by omega
 have i1:(i:Int)<(n:Int):=by omega
 obtain⟨⟨q0,q1,q2⟩,-⟩:=hq.k3;clear hc hs hu hb hq hn;go_enter Tryz.func180,Tryz.ntmps180;go_wp2_with fail;go_ret;exact⟨_,rfl,Below.refl _ _,HU.out⟩
theorem NM(s:Id.Sch)(v:List Vl.Node)(vs:Value)(w0:World)(b g m k:Nat)(hv:Vl.fP w0 none vs v)(hl:v.length<=100000)(hR:Chk.Right s)(ih:Vl.OfC s v vs w0 b g m k)(rn:ByteArray)(rc:Bool)(rf:List Id.Fld)(fv:Value)(hrm:(⟨rn,rc,rf⟩:Id.Rec)∈s.records)(a:Nat)(ha:a<=v.length)(hlen:v.length - a<k+1)(w:World)(hE:Vl.Env s w0 w b g m)(hC:Vl.Cur w b vs a (Vl.jW g))(hs:Id.iO w0 none fv rf) :
  Calls Tryz.prog 135 #[.pointer (some ⟨b,0,none⟩),.agg #[.string rn,.bool rc,fv]] w (Vl.OfP w b vs (Vl.jW g) v (Vl.Dw s k ⟨rn,rc,rf⟩ (v.drop a))):=by
 obtain⟨R,HR⟩:∃ R,Hid (Vl.Dw s k ⟨rn,rc,rf⟩ (v.drop a)=R):=⟨_,hid rfl⟩;rw[HR.out];have HV:=hid hv;have HIH:=hid ih;have HE:=hid hE;have HC:=hid hC;have HS:=hid hs;have hfew:rf.length<=16:=Vl.PG hR hrm;have HFR:Hid (∀ f∈rf,Chk.okT s f.type=true/\f.type.length<=12):=hid (λf hf=>Vl.sV (Vl.Dc hR hrm hf));obtain⟨A5,n5,c5,rfl⟩:=ah.is hs;have HN5:Hid (n5=rf.length):=hid (by obtain⟨_,_,e,_⟩:=ah.slice hs;injection e);have hn5:n5<=16:=by rw[HN5.out];exact hfew
 clear hv ih hE hC hs hR hrm hfew;go_enter Tryz.func135,Tryz.ntmps135;go_upto_region 1 with(fail)
 refine ak (λV hV=>?_);obtain⟨hb1,hq1,-⟩:=ay hV;clear hV;have HEV:=hid (HE.out.below hb1);have HCV:=hid (HC.out.below hb1);have HGV:=hid (aQ hb1 (some b));have HQ:=hid hq1;have hrw:w.heap.size<V.heap.size:=hq1.lt;have hbw:b<w.heap.size:=HE.out.lt;have hbr:b≠w.heap.size:=by omega
 obtain⟨⟨q0,q1,q2⟩,-⟩:=hq1.k3;clear hb1 hq1;cases rc
 case false =>
  have HR2:Hid ((if Vl.zq ⟨rn,false,rf⟩ (v.drop a)=true then Vl.up (Vl.fQ (Vl.ofF s none k) (rf.map (·.type)) 0 ((v.drop a).drop 1))else none)=R):=hid (by rw[<-HR.out];exact(Vl.Oy rfl).symm);clear HR;have HR:=HR2;clear HR2;go_wp2_with fail;refine(l9 b a vs (Vl.jW g) v 7 w0 V HV.out HEV.out.bel HEV.out.lo HCV.out ha hl).mono ?_;rintro e V1⟨rfl,hg1,hc1⟩;have HEN:=hid (HEV.out.grown hg1);have HGN:=hid (Vl.aI HGV.out hg1);unfold Vl.rX at hc1;obtain⟨Z,hz⟩:∃ Z,Vl.nxt (v.drop a) 7=Z:=⟨_,rfl⟩;rw[hz]at hc1;rw[hz];have HZ:=hid hz;clear hz;cases Z with
  |none =>
   have HCN:=hid hc1;clear hc1 hg1;have HX:Hid (R=none):=hid (by rw[<-HR.out,if_neg (by unfold Vl.zq;rw[HZ.out];simp)];skip);simp only[Option.getD_none,Option.isSome_none,Vl.qC,Vl.Node.val];go_wp2_with fail;go_ret;refine⟨a,by rw[HX.out];rfl,Vl.aI HGN.out (aQ ?_ _),Vl.Cur.below HCN.out ?_,ha,λp hp=>by rw[HX.out]at hp;cases hp⟩;all_goals exact(Below.refl _ _).alloc (xB _) _
  |some nd =>
   have HCN:=hid hc1;obtain⟨n0,n1,n2,n3⟩:=nd;have HQ1:Hid (Bk V1 w.heap.size 42 #[.string rn,.bool false,.slice A5 n5 c5]):=hid (HQ.out.grown hg1 (by intro e;injection e with e;exact hbr e.symm));clear hc1 hg1 q0 q1 q2;simp only[Option.getD_some,Option.isSome_some,Vl.Node.val,if_true]at HCN ⊢;have hlt:a<v.length:=by
    by_cases h:a<v.length
    ·exact h
    ·exfalso
     have h1:=HZ.out;rw[xP (by omega)]at h1;cases h1
   obtain⟨B,HBB⟩:∃ B,Hid (Vl.bare ⟨n0,n1,n2,n3⟩ false false true=B):=⟨_,hid rfl⟩;go_upto_region 7 with(fail)
   refine ak (λV2 hV=>?_);obtain⟨hb2,hq2,-⟩:=ay hV;clear hV;have HE2:=hid (HEN.out.below hb2);have HC2:=hid (HCN.out.below hb2);have HG2:=hid (Vl.aI HGN.out (aQ hb2 _));have zY:=hid (HQ1.out.below hb2 HQ1.out.lt);have bM:=hid hq2;have hnb:V1.heap.size<V2.heap.size:=hq2.lt;obtain⟨⟨p0,p1,p2,p3⟩,-⟩:=hq2.k4;obtain⟨⟨q0,q1,q2⟩,-⟩:=zY.out.k3;clear hb2 hq2 HEN HCN HGN HQ1;go_wp2_with fail;refine(jB ⟨n0,n1,n2,n3⟩ false false true _).mono ?_;rw[HBB.out];rintro e V3⟨rfl,hb3⟩;have HE3:=hid (HE2.out.below hb3);have HC3:=hid (HC2.out.below hb3);have HG3:=hid (Vl.aI HG2.out (aQ hb3 _));have La:=hid (zY.out.below hb3 zY.out.lt);have jm:=hid (bM.out.below hb3 bM.out.lt);clear p0 p1 p2 p3 q0 q1 q2;obtain⟨⟨p0,p1,p2,p3⟩,-⟩:=jm.out.k4;obtain⟨⟨q0,q1,q2⟩,-⟩:=La.out.k3;clear hb3 HE2 HC2 HG2 zY bM;cases B
   case false =>
    have HX:Hid (R=none):=hid (by rw[<-HR.out,if_neg (by unfold Vl.zq;rw[HZ.out];simp only;rw[HBB.out];simp)]);go_wp2_with fail;go_ret;exact⟨a+1,by rw[HX.out];rfl,HG3.out,HC3.out,by omega,λp hp=>by rw[HX.out]at hp;cases hp⟩
   by_cases hk3:n3=(n5:Int)
   case neg =>
    have HX:Hid (R=none):=hid (by rw[<-HR.out,if_neg (by unfold Vl.zq;rw[HZ.out];simp only;rw[xX,beq_iff_eq,<-HN5.out];exact λh=>hk3 h.2)]);have t1:(n3 != (n5:Int))=true:=by rw[bne_iff_ne];exact hk3
    have t2:(n3==(n5:Int))=false:=by rw[xG];exact hk3
    go_wp2_with fail;go_ret;exact⟨a+1,by rw[HX.out];rfl,HG3.out,HC3.out,by omega,λp hp=>by rw[HX.out]at hp;cases hp⟩
   subst hk3;have HX:Hid (Vl.up (Vl.fQ (Vl.ofF s none k) (rf.map (·.type)) 0 (v.drop (a+1)))=R):=hid (by rw[<-HR.out,if_pos (by unfold Vl.zq;rw[HZ.out];simp only;rw[HBB.out,Bool.true_and,beq_iff_eq,<-HN5.out]),List.drop_drop]);go_wp2_with fail;refine(vY s v vs w0 b g m k hl HIH.out (rf.map (·.type)) (λt ht=>by obtain⟨f,hf,rfl⟩:=List.mem_map.1 ht;exact HFR.out f hf) n5 (by rw[List.length_map];exact HN5.out) (by omega) (a+1) (by omega) (by omega) _ (λ_ _=>rfl) #[.pointer (some ⟨w.heap.size,0,none⟩)] V3 HE3.out HC3.out (λi hi w' hg=>?_)).mono ?_
   ·rw[List.length_map]at hi
    simp only[List.getElem_map];exact Ll rn false rf _ w.heap.size w0 w' i hi HS.out (HE3.out.grown hg).bel (La.out.grown hg (by intro e;injection e with e;exact hbr e.symm))
   rw[HX.out];rintro e V4⟨a2,rfl,hg4,hc4,ha4,hp4⟩;go_wp2_with fail;go_ret;exact⟨a2,rfl,Vl.aI HG3.out hg4,hc4,ha4,hp4⟩
 case true =>
  have HR2:Hid ((match Vl.lN ⟨rn,true,rf⟩ (v.drop a)with|none=>none|some i=>Vl.up (Vl.fQ (Vl.ofF s none k) [(rf.map (·.type)).getD i []] 0 ((v.drop a).drop 1)))=R):=hid (by rw[<-HR.out];exact(Vl.Oz rfl).symm);clear HR;have HR:=HR2;clear HR2;go_wp2_with fail;refine(l9 b a vs (Vl.jW g) v 8 w0 V HV.out HEV.out.bel HEV.out.lo HCV.out ha hl).mono ?_;rintro e V1⟨rfl,hg1,hc1⟩;have HEN:=hid (HEV.out.grown hg1);have HGN:=hid (Vl.aI HGV.out hg1);unfold Vl.rX at hc1;obtain⟨Z,hz⟩:∃ Z,Vl.nxt (v.drop a) 8=Z:=⟨_,rfl⟩;rw[hz]at hc1;rw[hz];have HZ:=hid hz;clear hz;cases Z with
  |none =>
   have HCN:=hid hc1;clear hc1 hg1;have HX:Hid (R=none):=hid (by rw[<-HR.out];have h:Vl.lN ⟨rn,true,rf⟩ (v.drop a)=none:=(by unfold Vl.lN;rw[HZ.out]);rw[h]);simp only[Option.getD_none,Option.isSome_none,Vl.qC,Vl.Node.val];go_wp2_with fail;go_ret;refine⟨a,by rw[HX.out];rfl,Vl.aI HGN.out (aQ ?_ _),Vl.Cur.below HCN.out ?_,ha,λp hp=>by rw[HX.out]at hp;cases hp⟩;all_goals exact(Below.refl _ _).alloc (xB _) _
  |some nd =>
   have HCN:=hid hc1;obtain⟨n0,n1,n2,n3⟩:=nd;have HQ1:Hid (Bk V1 w.heap.size 42 #[.string rn,.bool true,.slice A5 n5 c5]):=hid (HQ.out.grown hg1 (by intro e;injection e with e;exact hbr e.symm));clear hc1 hg1 q0 q1 q2;simp only[Option.getD_some,Option.isSome_some,Vl.Node.val,if_true]at HCN ⊢;have hlt:a<v.length:=by
    by_cases h:a<v.length
    ·exact h
    ·exfalso
     have h1:=HZ.out;rw[xP (by omega)]at h1;cases h1
   obtain⟨B,HBB⟩:∃ B,Hid (Vl.bare ⟨n0,n1,n2,n3⟩ true false true=B):=⟨_,hid rfl⟩;go_upto_region 3 with(fail)
   refine ak (λV2 hV=>?_);obtain⟨hb2,hq2,-⟩:=ay hV;clear hV;have HE2:=hid (HEN.out.below hb2);have HC2:=hid (HCN.out.below hb2);have HG2:=hid (Vl.aI HGN.out (aQ hb2 _));have zY:=hid (HQ1.out.below hb2 HQ1.out.lt);have bM:=hid hq2;have hnb:V1.heap.size<V2.heap.size:=hq2.lt;have hbn:b≠V1.heap.size:=by have:=HEN.out.lt;omega
   obtain⟨⟨p0,p1,p2,p3⟩,-⟩:=hq2.k4;obtain⟨⟨q0,q1,q2⟩,-⟩:=zY.out.k3;clear hb2 hq2 HEN HCN HGN HQ1;go_wp2_with fail;refine(jB ⟨n0,n1,n2,n3⟩ true false true _).mono ?_;rw[HBB.out];rintro e V3⟨rfl,hb3⟩;have HE3:=hid (HE2.out.below hb3);have HC3:=hid (HC2.out.below hb3);have HG3:=hid (Vl.aI HG2.out (aQ hb3 _));have La:=hid (zY.out.below hb3 zY.out.lt);have jm:=hid (bM.out.below hb3 bM.out.lt);clear p0 p1 p2 p3 q0 q1 q2;obtain⟨⟨p0,p1,p2,p3⟩,-⟩:=jm.out.k4;obtain⟨⟨q0,q1,q2⟩,-⟩:=La.out.k3;clear hb3 HE2 HC2 HG2 zY bM;have HNO:Hid (¬(Vl.bare ⟨n0,n1,n2,n3⟩ true false true=true/\n3=1/\0<=n1/\n1<(n5:Int))->R=none):=hid (λh=>by rw[<-HR.out];have h2:Vl.lN ⟨rn,true,rf⟩ (v.drop a)=none:=(by unfold Vl.lN;rw[HZ.out];simp only;rw[if_neg];rw[<-HN5.out];exact h);rw[h2]);cases B
   case false =>
    have HX:Hid (R=none):=hid (HNO.out (by rw[HBB.out];exact λh=>by cases h.1));clear HNO;go_wp2_with fail;go_ret;exact⟨a+1,by rw[HX.out];rfl,HG3.out,HC3.out,by omega,λp hp=>by rw[HX.out]at hp;cases hp⟩
   by_cases hk3:n3=1
   case neg =>
    have HX:Hid (R=none):=hid (HNO.out (λh=>hk3 h.2.1));have t1:(n3 != 1)=true:=by rw[bne_iff_ne];exact hk3
    have t2:(n3==1)=false:=by rw[xG];exact hk3
    clear HNO;go_wp2_with fail;go_ret;exact⟨a+1,by rw[HX.out];rfl,HG3.out,HC3.out,by omega,λp hp=>by rw[HX.out]at hp;cases hp⟩
   subst hk3;by_cases hk0:0<=n1
   case neg =>
    have HX:Hid (R=none):=hid (HNO.out (λh=>hk0 h.2.2.1));have t1:n1<0:=by omega
    clear HNO;go_wp2_with fail;go_ret;exact⟨a+1,by rw[HX.out];rfl,HG3.out,HC3.out,by omega,λp hp=>by rw[HX.out]at hp;cases hp⟩
   by_cases hk5:n1<(n5:Int)
   case neg =>
    have HX:Hid (R=none):=hid (HNO.out (λh=>hk5 h.2.2.2));have t1:(n5:Int)<=n1:=by omega
    have t2:¬n1<0:=by omega
    clear HNO;go_wp2_with fail;go_ret;exact⟨a+1,by rw[HX.out];rfl,HG3.out,HC3.out,by omega,λp hp=>by rw[HX.out]at hp;cases hp⟩
   obtain⟨ix,rfl⟩:∃ i:Nat,n1=i:=⟨n1.toNat,by omega⟩;have hix:ix<rf.length:=by rw[<-HN5.out];omega
   have t3:¬(n5:Int)<=(ix:Int):=by omega
   have t4:¬n5<=ix:=by omega
   have HX:Hid (Vl.up (Vl.fQ (Vl.ofF s none k) [rf[ix].type] 0 (v.drop (a+1)))=R):=hid (by rw[<-HR.out];have h2:Vl.lN ⟨rn,true,rf⟩ (v.drop a)=some ix:=(by unfold Vl.lN;rw[HZ.out];simp only;rw[if_pos ⟨HBB.out,by trivial,hk0,by rw[<-HN5.out];exact hk5⟩,Int.toNat_natCast]);rw[h2];simp only;rw[List.drop_drop,yG,yF (by rw[List.length_map];exact hix),Option.getD_some,List.getElem_map]);clear HNO;go_wp2_with fail;refine(vY s v vs w0 b g m k hl HIH.out [rf[ix].type] (λt ht=>by rw[List.mem_singleton]at ht;subst ht;exact HFR.out _ (xR hix)) 1 rfl (by omega) (a+1) (by omega) (by omega) _ (λ_ _=>rfl) #[.pointer (some ⟨w.heap.size,0,none⟩),.pointer (some ⟨V1.heap.size,0,none⟩)] V3 HE3.out HC3.out (λi hi w' hg=>?_)).mono ?_
   ·obtain rfl:i=0:=by simpa using hi
    exact Lm rn true rf _ n0 ix n2 1 hix w.heap.size V1.heap.size w0 w' _ HS.out (HE3.out.grown hg).bel (La.out.grown hg (by intro e;injection e with e;exact hbr e.symm)) (jm.out.grown hg (by intro e;injection e with e;exact hbn e.symm))
   rw[HX.out];rintro e V4⟨a2,rfl,hg4,hc4,ha4,hp4⟩;go_wp2_with fail;go_ret;exact⟨a2,rfl,Vl.aI HG3.out hg4,hc4,ha4,hp4⟩
namespace Lst
section
variable {P : Program} {ops : Array Oper} {Q : Exit -> Act -> World -> Prop} {md : Region.Mode} {S : World -> Prop} {z : Nat}
def Io(md:Region.Mode)(ops:Array Oper)(z:Nat):Bool :=
 (List.range z).all λi=>(List.range (z+1)).any λj=>decide (i<j)&&match ops[j]? with
  |none=>false
  |some o=>o.after.any λe=>Region.binds md e&&e.on==i
theorem Shut.allM{listed:Array Bool}(h:Shut md ops listed)(hL:Io md ops z=true)(hz:z∈Region.ready md ops listed):∀ i,i<z->listed.getD i false=true:=by
 unfold Io at hL;have key:∀ n i,z - i=n->i<z->listed.getD i false=true:=by
  intro n;induction n using Nat.strongRecOn with
  |_ n ih =>
   intro i hn hi;obtain⟨j,hj,hjj⟩:=List.any_eq_true.1 (List.all_eq_true.1 hL i (List.mem_range.2 hi));simp only[xX,decide_eq_true_eq]at hjj;obtain⟨hij,hjj⟩:=hjj;have aaM:j<z+1:=List.mem_range.1 hj;have hjs:j<ops.size:=by
    obtain⟨_,o',ho',_⟩:=mem_ready.1 hz;have:=(Array.getElem?_eq_some_iff.1 ho').1;omega
   rw[yD hjs]at hjj;simp only at hjj;obtain⟨m,hm,hmm⟩:=Array.any_eq_true.1 hjj;simp only[xX,beq_iff_eq]at hmm;have hjo:ops[j]?=some ops[j]:=yD hjs;rw[<-hmm.2];by_cases hjz:j=z
   ·subst hjz
    obtain⟨_,o',ho',hall⟩:=mem_ready.1 hz;rw[hjo]at ho';injection ho' with ho'
    subst ho';exact hall _ (Array.getElem_mem hm) hmm.1
   ·exact h.2 j _ hjo (ih (z - j) (by omega) j rfl (by omega)) _ (Array.getElem_mem hm) hmm.1
 exact λi hi=>key _ i rfl hi
theorem firstM{i:Nat}{oi:Oper}{v:Value}(hi:ops[i]?=some oi)(hsel:∀(j:Nat)(o:Oper) cs b,ops[j]?=some o->o.op≠.select cs b)
  (hQ:∀ c a w,Q (.panic c) (a.put oi.dst v) w->Q (.panic c) a w) (hL:Io md ops z=true) (hiz:i<z) :
  ∀(fuel:Nat)(listed:Array Bool)(a:Act)(w:World),
   Shut md ops listed->noneOf [z] listed=true ->
   (∀ j oj,ops[j]?=some oj->j≠i->listed.getD j true=false->(∀ e∈oj.after,Region.binds md e=true->e.on≠i)->oi.apart ops oj=true) ->
   i∈Region.ready md ops listed->YieldsIf P ops S oi v a->S w ->
   wpAnyL P md ops Q S [z] fuel (listed.setIfInBounds i true) (a.put oi.dst v) w->wpAnyL P md ops Q S [z] (fuel+1) listed a w:=by
 intro fuel;induction fuel with
 |zero =>
  intro listed a w hs hD _ hr hy hS H;refine⟨λh=>(by rw[h]at hr;cases hr),λj hj=>?_⟩;by_cases hji:j=i
  ·subst hji;exact hy.wpOp hi hS ⟨λ_=>hS,H⟩
  ·have:=ready_mono hj hji
   rw[H.1]at this;cases this
 |succ fuel ih =>
  intro listed a w hs hD hfree hr hy hS H;refine⟨λh=>(by rw[h]at hr;cases hr),λj hj=>?_⟩;by_cases hji:j=i
  ·subst hji;exact hy.wpOp hi hS ⟨λ_=>hS,H⟩
  ·have h1:=H.2 j (ready_mono hj hji)
   obtain⟨hjun,oj,hoj,hall⟩:=mem_ready.1 hj;have hnot:∀ e∈oj.after,Region.binds md e=true->e.on≠i:=λe he hb heq=>by
    have h1:=hall e he hb;have h0:=(mem_ready.1 hr).1;rw[heq]at h1;rcases Nat.lt_or_ge i listed.size with h'|h'
    ·simp[h']at h0 h1;rw[h0]at h1;cases h1
    ·simp[Array.getElem?_eq_none h']at h1
   have h2:=wpOp_putIf hoj (hfree j oj hoj hji hjun hnot) (λcs b=>hsel i oi cs b hi) (λcs b=>hsel j oj cs b hoj) hQ hy h1;have hfree':∀ k ok,ops[k]?=some ok->k≠i->(listed.setIfInBounds j true).getD k true=false ->
     (∀ e∈ok.after,Region.binds md e=true->e.on≠i)->oi.apart ops ok=true:=λk ok hk hki hun hno=>by
    refine hfree k ok hk hki ?_ hno;by_cases hjk:j=k
    ·subst hjk;exact hjun
    ·rw[getD_set_ne true hjk]at hun;exact hun
   have hiD:i ∉ [z]:=by simp;omega
   have hjD:j ∉ [z]:=by
    intro hjz;simp at hjz;subst hjz;have h1:=Shut.allM hs hL hj i hiz;have h0:=(mem_ready.1 hr).1;have hls:i<listed.size:=by rw[hs.1];exact(Array.getElem?_eq_some_iff.1 hi).1
    simp[hls]at h0 h1;rw[h0]at h1;cases h1
   have hD':=fO hD hjD;refine wpOp_mono (λa' w' h3=>⟨λ_=>h3.2.1 (fO (fO hD hiD) hjD),ih (listed.setIfInBounds j true) a' w' (hs.next hj) hD' hfree' (ready_mono hr (Ne.symm hji)) h3.1 (h3.2.1 (fO (fO hD hiD) hjD)) ?_⟩) h2;rw[Array.setIfInBounds_comm _ _ hji];exact h3.2.2
theorem qH(z i:Nat){oi:Oper}{v:Value}{fuel:Nat}{listed:Array Bool}{a:Act}{w:World}(hi:ops[i]?=some oi)
  (hs:Region.noSelect ops=true) (hf:Region.free md ops listed i=true) (hr:(Region.ready md ops listed).contains i=true) (hL:Io md ops z=true) (hz:(decide (i<z)&&noneOf [z] listed)=true) (hsh:Il md ops listed=true)
  (hQ:∀ c a w,Q (.panic c) (a.put oi.dst v) w->Q (.panic c) a w) (hS:S w) (hw:Region.wanted oi (yielded ops a.tmps)=true) (hy:∀ w,S w->(execOp a.eval oi).run P w=.ok (.value v) w)
  (h:wpAnyL P md ops Q S [z] fuel (listed.setIfInBounds i true) (a.put oi.dst v) w):wpAnyL P md ops Q S [z] (fuel+1) listed a w:=by
 simp only[xX,decide_eq_true_eq]at hz;exact firstM hi (Region.noSelect_spec hs) hQ hL hz.1 fuel listed a w (Nc hsh) hz.2 (Region.free_spec hi hf) (by simpa using hr) (.inl ⟨hw,hy⟩) hS h
end
end Lst
end
