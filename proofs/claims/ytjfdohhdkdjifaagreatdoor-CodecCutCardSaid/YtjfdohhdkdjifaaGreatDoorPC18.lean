/- codec, plain: a value's bytes, and the value of bytes. No condition. -/
import Derived.Test.YtjfdohhdkdjifaaGreatDoorPC16
import Derived.Test.YtjfdohhdkdjifaaGreatDoorPC17
set_option linter.unusedVariables false
set_option linter.unusedSimpArgs false
namespace Go.Proofs.YtjfdohhdkdjifaaGreatDoor
open Go.RowKit Go.BigFrame
namespace Cd
open Go.Proofs.YtjfdohhdkdjifaaGreatDoor.Id Go.Proofs.YtjfdohhdkdjifaaGreatDoor.Chk Go.Proofs.YtjfdohhdkdjifaaGreatDoor.Vl Go.Proofs.YtjfdohhdkdjifaaGreatDoor.Ev
def E0:ByteArray:=⟨#[]⟩
theorem empty_eq {a:ByteArray} (h:a.toList.isEmpty=true):a=E0:=Tk.text_eq (by rw [List.isEmpty_iff.1 h];exact (List.isEmpty_iff.1 nil_empty).symm)
/-- A signed number as one without a sign, and back. -/
def zz (n:Int):Nat:=if 0≤n then 2 * n.toNat else 2 * (-(n+1)).toNat+1
def un (u:Nat):Int:=if u % 2=0 then ((u / 2:Nat):Int) else -((u / 2:Nat):Int) - 1
theorem un_zz (n:Int):un (zz n)=n:=by
 unfold un zz
 split <;> split <;> omega
theorem zz_un (u:Nat):zz (un u)=u:=by
 unfold un zz
 split <;> split <;> omega
theorem zz_lt {n:Int} (h1:-9223372036854775808≤n) (h2:n≤9223372036854775807):zz n<18446744073709551616:=by
 unfold zz
 split <;> omega
/-- A part's numbers are Go's. -/
structure OkN (n:Vl.Node):Prop where
 lo:-9223372036854775808≤n.int
 hi:n.int≤9223372036854775807
 tx:n.text.size≤9223372036854775807
def encN (n:Vl.Node):List UInt8 :=
 if n.kind=2 then [UInt8.ofNat n.int.toNat] else if n.kind=3 then var (zz n.int) else if n.kind=4 then var n.text.size++n.text.data.toList
 else if n.kind=5 then var n.kids.toNat else if n.kind=6 then [UInt8.ofNat n.kids.toNat] else if n.kind=8 then var n.int.toNat else []
def encs (v:List Vl.Node):List UInt8:=v.flatMap encN
theorem encs_cons (n:Vl.Node) (v:List Vl.Node):encs (n::v)=encN n++encs v:=rfl
theorem encs_app (a b:List Vl.Node):encs (a++b)=encs a++encs b:=List.flatMap_append
structure S where
 at_:Nat
 v:List Vl.Node
 sz:Nat
def S.put (x:S) (p:Nat) (n:Vl.Node) (z:Nat):S:=⟨p,x.v++[n],x.sz+z⟩
def S.inc (x:S):S:=⟨x.at_,x.v,x.sz+1⟩
abbrev Rs (α:Type):=Except (Nat × Nat) α
def cutT (b:List UInt8) (p n:Nat):ByteArray:=⟨((b.drop p).take n).toArray⟩
/-- A part without others; its own place is counted already. -/
def decT (b:List UInt8) (x:S) (q:Nat × Nat):Rs S:=if 4096<x.sz+q.1 then .error (x.at_,3) else if b.length<q.2+q.1 then .error (b.length,160) else .ok (x.put (q.2+q.1) ⟨4,0,cutT b q.2 q.1,0⟩ q.1)
def decL (b:List UInt8) (k:Nat) (x:S):Rs S :=
 if k=1 then .ok (x.put x.at_ ⟨1,0,E0,0⟩ 0)
 else if k=2 then (match bit b x.at_ with
  | .error e=>.error e
  | .ok q=>.ok (x.put q.2 ⟨2,q.1,E0,0⟩ 0))
 else if k=3 then (match num b x.at_ with
  | .error e=>.error e
  | .ok q=>.ok (x.put q.2 ⟨3,un q.1,E0,0⟩ 0))
 else (match num b x.at_ with
  | .error e=>.error e
  | .ok q=>decT b x q)
/-- A part with others: their types. -/
def decC (r:Rec) (b:List UInt8) (x:S):Rs (List (List Srt) × S):=match num b x.at_ with
 | .error e=>.error e
 | .ok q=>if r.fields.length≤q.1 then .error (x.at_,162) else .ok ([(r.fields.map (·.type)).getD q.1 []],x.put q.2 ⟨8,q.1,E0,1⟩ 0)
def decH (s:Sch) (b:List UInt8) (c:Srt) (t:List Srt) (x:S):Rs (List (List Srt) × S) :=
 if c.kind=5 then (match num b x.at_ with
  | .error e=>.error e
  | .ok q=>if 4096<q.1 then .error (x.at_,3) else .ok (List.replicate q.1 t,x.put q.2 ⟨5,0,E0,q.1⟩ 0))
 else if c.kind=6 then (match bit b x.at_ with
  | .error e=>.error e
  | .ok q=>.ok (List.replicate q.1 t,x.put q.2 ⟨6,0,E0,q.1⟩ 0))
 else if ((find s c.name).getD recZ).choice=true then decC ((find s c.name).getD recZ) b x
 else .ok (((find s c.name).getD recZ).fields.map (·.type),x.put x.at_ ⟨7,0,E0,((find s c.name).getD recZ).fields.length⟩ 0)
def manyD (f:List Srt→S→Rs S):List (List Srt)→S→Rs S
 | [],x=>.ok x
 | t::ts,x=>match f t x with
  | .error e=>.error e
  | .ok y=>manyD f ts y
def goD (f:List Srt→S→Rs S) (o:Rs (List (List Srt) × S)):Rs S:=match o with
 | .error e=>.error e
 | .ok p=>manyD f p.1 p.2
def isLeaf (k:Nat):Prop:=k=1∨k=2∨k=3∨k=4
instance (k:Nat):Decidable (isLeaf k):=by unfold isLeaf;infer_instance
def full (x:S):Prop:=4096≤x.v.length∨4096≤x.sz
instance (x:S):Decidable (full x):=by unfold full;infer_instance
/-- The value of a type, read; so many parts more may lie one within the other. -/
def decF (s:Sch) (b:List UInt8):Nat→List Srt→S→Rs S
 | 0,_,x=>.error (x.at_,151)
 | _+1,[],x=>.error (x.at_,162)
 | k+1,c::t,x=>if full x then .error (x.at_,3) else if isLeaf c.kind then decL b c.kind x.inc else goD (decF s b k) (decH s b c t x.inc)
theorem dropZ (b:List UInt8) {p:Nat} {l r:List UInt8} (h:b.drop p=l++r) (hl:l≠[]):b.drop (p+l.length)=r∧p+l.length+r.length=b.length:=by
 have h1:b.drop (p+l.length)=r:=by rw [←List.drop_drop,h,List.drop_left]
 refine ⟨h1,?_⟩
 have:=congrArg List.length h
 rw [List.length_drop,List.length_append] at this
 have:0<l.length:=List.length_pos_iff.2 hl
 omega
theorem var_ne (u:Nat):var u≠[]:=fun h=>by have:=(var_len u).1;rw [h] at this;cases this
theorem size_cons (n:Vl.Node) (v:List Vl.Node):size (n::v)=1+n.text.size+size v:=by
 unfold size
 rw [List.length_cons,List.map_cons,List.sum_cons]
 omega
theorem size_nil:size []=0:=rfl
theorem size_app (a b:List Vl.Node):size (a++b)=size a+size b:=by
 unfold size
 rw [List.length_append,List.map_append,List.sum_append]
 omega
theorem leaf_enc {b tail:List UInt8} {k:Nat} {n:Vl.Node} {x:S} (hk:isLeaf k) (hn:leaf k n=true) (ho:OkN n) (hb:b.drop x.at_=encN n++tail) (hx:x.sz+n.text.size≤4096) :
  decL b k x=.ok ⟨x.at_+(encN n).length,x.v++[n],x.sz+n.text.size⟩:=by
 obtain ⟨nk,ni,nt,nd⟩:=n
 obtain ⟨o1,o2,o3⟩:=ho
 unfold leaf at hn
 simp only [Bool.and_eq_true,Bool.or_eq_true,beq_iff_eq] at hn o1 o2 o3 hx
 obtain ⟨⟨⟨rfl,rfl⟩,h3⟩,h4⟩:=hn
 unfold decL
 unfold isLeaf at hk
 by_cases k1:nk=1
 ·subst k1
  have e1:ni=0:=by omega
  have e2:nt=E0:=empty_eq (by rcases h4 with h | h;exact h;omega)
  subst e1 e2
  rw [if_pos rfl]
  rfl
 by_cases k2:nk=2
 ·subst k2
  have e1:ni=0∨ni=1:=by omega
  have e2:nt=E0:=empty_eq (by rcases h4 with h | h;exact h;omega)
  subst e2
  rw [if_neg k1,if_pos rfl]
  have hi:((ni.toNat:Nat):Int)=ni:=by omega
  have h:=bit_var (b:=b) (p:=x.at_) (u:=ni.toNat) (r:=tail) (by omega) hb
  rw [h]
  show Except.ok (S.mk _ _ _)=_
  rw [show (((ni.toNat,x.at_+1):Nat × Nat).1:Int)=ni from hi]
  rfl
 by_cases k3:nk=3
 ·subst k3
  have e2:nt=E0:=empty_eq (by rcases h4 with h | h;exact h;omega)
  subst e2
  rw [if_neg k1,if_neg k2,if_pos rfl]
  have hz:=zz_lt o1 o2
  have h:=num_var (b:=b) (p:=x.at_) (r:=tail) hz hb
  rw [h]
  simp only
  rw [un_zz]
  rfl
 ·obtain rfl:nk=4:=by omega
  have e1:ni=0:=by omega
  subst e1
  rw [if_neg k1,if_neg k2,if_neg k3]
  have he:encN ⟨4,0,nt,0⟩=var nt.size++nt.data.toList:=rfl
  rw [he] at hb ⊢
  have h:=num_var (b:=b) (p:=x.at_) (y:=nt.size) (r:=nt.data.toList++tail) (by omega) (by rw [hb,List.append_assoc])
  obtain ⟨d1,d2⟩:=dropZ b (l:=var nt.size) (r:=nt.data.toList++tail) (by rw [hb,List.append_assoc]) (var_ne _)
  rw [h]
  simp only
  unfold decT
  have hlen:nt.data.toList.length=nt.size:=by rw [Array.length_toList];rfl
  rw [List.length_append,hlen] at d2
  rw [if_neg (by simp only;omega),if_neg (by simp only;omega)]
  have hc:cutT b (x.at_+(var nt.size).length) nt.size=nt:=by
   unfold cutT
   rw [d1,List.take_append_of_le_length (by rw [hlen];exact Nat.le_refl _),List.take_of_length_le (by rw [hlen];exact Nat.le_refl _)]
  simp only [hc,List.length_append,hlen]
  unfold S.put
  rw [Nat.add_assoc]
theorem head_enc {s:Sch} {b tail:List UInt8} {lim:Nat} {c:Srt} {t:List Srt} {n:Vl.Node} {x:S} {ks:List (List Srt)} (hk:¬isLeaf c.kind) (hn:kidsOf s lim c t n=some ks) (ho:OkN n) (hl:ks.length≤4096) (hb:b.drop x.at_=encN n++tail) :
  decH s b c t x=.ok (ks,⟨x.at_+(encN n).length,x.v++[n],x.sz⟩)∧n.text.size=0:=by
 obtain ⟨nk,ni,nt,nd⟩:=n
 obtain ⟨o1,o2,o3⟩:=ho
 simp only at o1 o2 o3
 unfold decH
 unfold kidsOf at hn
 by_cases h5:c.kind=5
 ·rw [if_pos (.inl h5)] at hn
  unfold kidsWrap at hn
  split at hn
  ·rename_i hc
   obtain ⟨a1,a2,a3,a4,a5⟩:=hc
   simp only at a1 a2 a3 a4 a5
   injection hn with hn
   subst hn
   rw [List.length_replicate] at hl
   have e2:=empty_eq a3
   subst e2 a2 a1
   rw [if_pos h5]
   rw [h5] at hb ⊢
   simp only at hl
   have he:encN ⟨5,0,E0,nd⟩=var nd.toNat:=rfl
   rw [he] at hb ⊢
   rw [num_var (b:=b) (p:=x.at_) (r:=tail) (by omega) hb]
   simp only
   rw [if_neg (by omega),show ((nd.toNat:Nat):Int)=nd by omega]
   exact ⟨rfl,rfl⟩
  ·cases hn
 by_cases h6:c.kind=6
 ·rw [if_pos (.inr h6)] at hn
  unfold kidsWrap at hn
  split at hn
  ·rename_i hc
   obtain ⟨a1,a2,a3,a4,a5⟩:=hc
   simp only at a1 a2 a3 a4 a5
   injection hn with hn
   subst hn
   rw [List.length_replicate] at hl
   have e2:=empty_eq a3
   subst e2 a2 a1
   rw [if_neg h5,if_pos h6]
   rw [h6] at hb ⊢
   have hn1:nd≤1:=by
    unfold wlim at a5
    rw [if_pos h6] at a5
    exact_mod_cast a5
   have he:encN ⟨6,0,E0,nd⟩=[UInt8.ofNat nd.toNat]:=rfl
   rw [he] at hb ⊢
   rw [bit_var (b:=b) (p:=x.at_) (r:=tail) (u:=nd.toNat) (by omega) hb]
   simp only
   rw [show ((nd.toNat:Nat):Int)=nd by omega]
   exact ⟨rfl,rfl⟩
  ·cases hn
 ·rw [if_neg (by omega)] at hn
  rw [if_neg h5,if_neg h6]
  generalize (find s c.name).getD recZ=r at *
  unfold kidsRec at hn
  split at hn
  ·rename_i hc
   rw [if_pos hc]
   split at hn
   ·rename_i h
    obtain ⟨a1,a2,a3,a4,a5⟩:=h
    simp only at a1 a2 a3 a4 a5
    injection hn with hn
    subst hn a1 a3
    have e2:=empty_eq a2
    subst e2
    have he:encN ⟨8,ni,E0,1⟩=var ni.toNat:=rfl
    rw [he] at hb ⊢
    unfold decC
    rw [num_var (b:=b) (p:=x.at_) (r:=tail) (by omega) hb]
    simp only
    rw [if_neg (by omega),show ((ni.toNat:Nat):Int)=ni by omega]
    exact ⟨rfl,rfl⟩
   ·cases hn
  ·rename_i hc
   rw [if_neg hc]
   split at hn
   ·rename_i h
    obtain ⟨a1,a2,a3,a4⟩:=h
    simp only at a1 a2 a3 a4
    injection hn with hn
    subst hn a1 a2 a4
    have e2:=empty_eq a3
    subst e2
    exact ⟨rfl,rfl⟩
   ·cases hn
theorem many_enc {f:List Srt→List Vl.Node→Option (Nat × List Vl.Node)} {g:Nat→List UInt8→List Srt→S→Rs S}
  (hf:∀ t r d r',f t r=some (d,r')→(∀ n∈r,OkN n)→∃ m,r=m++r'∧m≠[]∧∀ b k x tail,d≤k→b.drop x.at_=encs m++tail→x.v.length+m.length≤4096→x.sz+size m≤4096→g k b t x=.ok ⟨x.at_+(encs m).length,x.v++m,x.sz+size m⟩) :
  ∀ (ts:List (List Srt)) (d:Nat) (r:List Vl.Node) (e:Nat) (r':List Vl.Node),manyF f ts d r=some (e,r')→(∀ n∈r,OkN n)→d≤e∧∃ m,r=m++r'∧ts.length≤m.length∧∀ b k x tail,e≤k→b.drop x.at_=encs m++tail→x.v.length+m.length≤4096→x.sz+size m≤4096 →
   manyD (g k b) ts x=.ok ⟨x.at_+(encs m).length,x.v++m,x.sz+size m⟩
 | [],d,r,e,r',h,ho=>by
  injection h with h
  injection h with h1 h2
  subst h1 h2
  refine ⟨Nat.le_refl _,[],rfl,Nat.le_refl _,fun b k x tail _ _ _ _=>?_⟩
  unfold manyD
  simp [encs,size_nil]
 | t::ts,d,r,e,r',h,ho=>by
  unfold manyF at h
  split at h
  ·cases h
  ·rename_i p hp
   obtain ⟨a,q⟩:=p
   obtain ⟨m,rfl,hm0,hm⟩:=hf t r a q hp ho
   obtain ⟨h1,m',rfl,hl',hm'⟩:=many_enc hf ts _ q e r' h (fun n hn=>ho n (by simp [hn]))
   simp only at h1
   have hpos:0<m.length:=List.length_pos_iff.2 hm0
   refine ⟨by omega,m++m',by rw [List.append_assoc],by rw [List.length_append,List.length_cons];omega,fun b k x tail hk hb hx hz=>?_⟩
   rw [encs_app,List.append_assoc] at hb
   rw [List.length_append] at hx
   rw [size_app] at hz
   unfold manyD
   rw [hm b k x (encs m'++tail) (by omega) hb (by omega) (by omega)]
   simp only
   rw [hm' b k ⟨x.at_+(encs m).length,x.v++m,x.sz+size m⟩ tail hk (by simp only;rw [←List.drop_drop,hb,List.drop_left]) (by simp only;rw [List.length_append];omega) (by simp only;omega)]
   rw [encs_app,size_app,List.length_append,List.append_assoc,Nat.add_assoc,Nat.add_assoc]
/-- What is read of a value's bytes is the value. -/
theorem of_enc {s:Sch}:∀ (F:Nat) (t:List Srt) (r:List Vl.Node) (d:Nat) (r':List Vl.Node),ofF s none F t r=some (d,r')→(∀ n∈r,OkN n) →
  ∃ m,r=m++r'∧m≠[]∧∀ b k x tail,d≤k→b.drop x.at_=encs m++tail→x.v.length+m.length≤4096→x.sz+size m≤4096→decF s b k t x=.ok ⟨x.at_+(encs m).length,x.v++m,x.sz+size m⟩
 | 0,t,r,d,r',h,ho=>by unfold ofF at h;cases h
 | F+1,[],r,d,r',h,ho=>by unfold ofF at h;cases h
 | F+1,c::t,[],d,r',h,ho=>by unfold ofF at h;cases h
 | F+1,c::t,n::r,d,r',h,ho=>by
  unfold ofF at h
  have hon:=ho n (by simp)
  split at h
  ·rename_i hl
   split at h
   ·rename_i hlf
    injection h with h
    injection h with h1 h2
    subst h1 h2
    refine ⟨[n],rfl,by simp,fun b k x tail hk hb hx hz=>?_⟩
    obtain ⟨k,rfl⟩:∃ j,k=j+1:=⟨k - 1,by omega⟩
    have hs:size [n]=1+n.text.size:=by rw [size_cons,size_nil];rfl
    rw [hs] at hz ⊢
    simp only [List.length_cons,List.length_nil] at hx
    have he:encs [n]=encN n:=by simp [encs]
    rw [he] at hb ⊢
    unfold decF
    rw [if_neg (by unfold full;omega),if_pos (show isLeaf c.kind from hl),leaf_enc hl hlf hon (by exact hb) (by unfold S.inc;simp only;omega)]
    unfold S.inc
    simp only
    rw [Nat.add_assoc]
   ·cases h
  ·rename_i hl
   obtain ⟨ks,e,hks,rfl,h2⟩:=stepK_some h
   obtain ⟨-,m,rfl,hlm,hm⟩:=many_enc (g:=fun k b=>decF s b k) (fun t r d r' hh hoo=>of_enc F t r d r' hh hoo) ks 0 r e r' h2 (fun n' hn'=>ho n' (by simp [hn']))
   refine ⟨n::m,rfl,by simp,fun b k x tail hk hb hx hz=>?_⟩
   obtain ⟨k,rfl⟩:∃ j,k=j+1:=⟨k - 1,by omega⟩
   rw [encs_cons,List.append_assoc] at hb
   rw [size_cons] at hz
   simp only [List.length_cons] at hx
   obtain ⟨h3,h4⟩:=head_enc (x:=x.inc) hl hks hon (by omega) hb
   unfold decF
   rw [if_neg (by unfold full;omega),if_neg (show ¬isLeaf c.kind from hl),h3]
   show manyD (decF s b k) ks _=_
   rw [hm b k ⟨x.inc.at_+(encN n).length,x.inc.v++[n],x.inc.sz⟩ tail (by omega) (by show b.drop (x.at_+(encN n).length)=_;rw [←List.drop_drop,hb,List.drop_left]) (by show (x.v++[n]).length+_≤_;rw [List.length_append];simp only [List.length_cons,List.length_nil];omega) (by show x.sz+1+_≤_;omega)]
   rw [encs_cons,size_cons,h4,List.length_append]
   show Except.ok (S.mk (x.at_+(encN n).length+(encs m).length) (x.v++[n]++m) (x.sz+1+size m))=_
   rw [List.append_assoc,List.singleton_append,Nat.add_assoc,Nat.add_assoc]
/-- What a reading has come to. -/
structure Got (b:List UInt8) (x y:S) (m:List Vl.Node):Prop where
 v:y.v=x.v++m
 bs:b.drop x.at_=encs m++b.drop y.at_
 le:x.at_≤y.at_
 lim:y.at_≤b.length
 sz:y.sz=x.sz+size m
 ok:∀ n∈m,OkN n
theorem Got.trans {b:List UInt8} {x y z:S} {m m':List Vl.Node} (h:Got b x y m) (k:Got b y z m'):Got b x z (m++m') :=
 ⟨by rw [k.v,h.v,List.append_assoc],by rw [h.bs,k.bs,encs_app,List.append_assoc],Nat.le_trans h.le k.le,k.lim,by rw [k.sz,h.sz,size_app];omega,fun n hn=>by rcases List.mem_append.1 hn with h1 | h1;exact h.ok n h1;exact k.ok n h1⟩
theorem okN_small {k:Nat} {i:Int} {d:Int} (h1:-9223372036854775808≤i) (h2:i≤9223372036854775807):OkN ⟨k,i,E0,d⟩:=⟨h1,h2,by show (0:Nat)≤_;omega⟩
theorem leaf_dec {b:List UInt8} {k:Nat} {x y:S} (hk:isLeaf k) (hx:x.at_≤b.length) (h:decL b k x=.ok y) (hz:x.sz≤4096):∃ n,leaf k n=true∧OkN n∧y=⟨y.at_,x.v++[n],x.sz+n.text.size⟩∧b.drop x.at_=encN n++b.drop y.at_∧x.at_≤y.at_∧y.at_≤b.length∧y.sz≤4096:=by
 unfold decL at h
 unfold isLeaf at hk
 have hE:E0.toList.isEmpty=true:=nil_empty
 by_cases k1:k=1
 ·subst k1
  rw [if_pos rfl] at h
  injection h with h
  subst h
  exact ⟨⟨1,0,E0,0⟩,by unfold leaf;simp only [hE];rfl,okN_small (by omega) (by omega),rfl,rfl,Nat.le_refl _,hx,hz⟩
 rw [if_neg k1] at h
 by_cases k2:k=2
 ·subst k2
  rw [if_pos rfl] at h
  split at h
  ·cases h
  ·rename_i q hq
   obtain ⟨u,q⟩:=q
   obtain ⟨a1,a2,a3,a4⟩:=bit_ok hq
   injection h with h
   subst h
   refine ⟨⟨2,u,E0,0⟩,?_,okN_small (by omega) (by omega),rfl,?_,by show x.at_≤q;omega,a4,hz⟩
   ·unfold leaf
    simp only [hE,Bool.true_or,Bool.and_true,beq_self_eq_true,Bool.true_and]
    rcases (by omega:u=0∨u=1) with rfl | rfl <;> rfl
   ·show _=[UInt8.ofNat ((u:Int)).toNat]++_
    rw [Int.toNat_natCast]
    exact a2
 rw [if_neg k2] at h
 by_cases k3:k=3
 ·subst k3
  rw [if_pos rfl] at h
  split at h
  ·cases h
  ·rename_i q hq
   obtain ⟨u,q⟩:=q
   obtain ⟨a1,a2,a3,a4⟩:=num_ok hq
   injection h with h
   subst h
   refine ⟨⟨3,un u,E0,0⟩,?_,okN_small (by unfold un;split <;> omega) (by unfold un;split <;> omega),rfl,?_,by show x.at_≤q;omega,a4,hz⟩
   ·unfold leaf
    simp only [hE,Bool.true_or,Bool.or_true,Bool.and_true,beq_self_eq_true,Bool.true_and]
   ·show _=var (zz (un u))++_
    rw [zz_un]
    exact a2
 ·obtain rfl:k=4:=by omega
  rw [if_neg k3] at h
  split at h
  ·cases h
  ·rename_i q hq
   obtain ⟨u,q⟩:=q
   obtain ⟨a1,a2,a3,a4⟩:=num_ok hq
   unfold decT at h
   split at h
   ·cases h
   ·split at h
    ·cases h
    ·rename_i g1 g2
     simp only at g1 g2
     injection h with h
     subst h
     have hts:(cutT b q u).size=u:=by
      show ((b.drop q).take u).toArray.size=u
      rw [List.size_toArray,List.length_take,List.length_drop]
      omega
     refine ⟨⟨4,0,cutT b q u,0⟩,?_,⟨by simp,by simp,by show (cutT b q u).size≤_;omega⟩,?_,?_,by show x.at_≤q+u;omega,by show q+u≤_;omega,by show x.sz+u≤_;omega⟩
     ·unfold leaf
      simp
     ·show S.mk _ _ (x.sz+u)=S.mk _ _ (x.sz+(cutT b q u).size)
      rw [hts]
      rfl
     ·show _=(var (cutT b q u).size++(cutT b q u).data.toList)++b.drop (q+u)
      rw [hts,a2,List.append_assoc]
      show _=var u++((b.drop q).take u++b.drop (q+u))
      rw [←List.drop_drop,List.take_append_drop]
theorem head_dec {s:Sch} {b:List UInt8} {c:Srt} {t:List Srt} {x y:S} {ks:List (List Srt)} (hx:x.at_≤b.length) (hff:∀ r∈s.records,r.fields.length≤4096) (h:decH s b c t x=.ok (ks,y)):∃ n,OkN n∧n.text.size=0∧y=⟨y.at_,x.v++[n],x.sz⟩∧b.drop x.at_=encN n++b.drop y.at_∧x.at_≤y.at_∧y.at_≤b.length∧ks.length≤4096∧∀ lim,ks.length≤lim→kidsOf s lim c t n=some ks:=by
 unfold decH at h
 have hE:E0.toList.isEmpty=true:=nil_empty
 by_cases h5:c.kind=5
 ·rw [if_pos h5] at h
  split at h
  ·cases h
  ·rename_i q hq
   obtain ⟨u,q⟩:=q
   obtain ⟨a1,a2,a3,a4⟩:=num_ok hq
   split at h
   ·cases h
   ·rename_i g1
    simp only at g1
    injection h with h
    injection h with h1 h2
    subst h1 h2
    refine ⟨⟨5,0,E0,u⟩,okN_small (by omega) (by omega),rfl,rfl,?_,by show x.at_≤q;omega,a4,by rw [List.length_replicate];omega,fun lim hl=>?_⟩
    ·show _=var ((u:Int)).toNat++_
     rw [Int.toNat_natCast]
     exact a2
    ·rw [List.length_replicate] at hl
     unfold kidsOf
     rw [if_pos (.inl h5)]
     unfold kidsWrap
     rw [if_pos ⟨h5.symm,rfl,hE,by simp,by simp only;unfold wlim;rw [if_neg (by omega)];exact_mod_cast hl⟩]
     simp only [Int.toNat_natCast]
 rw [if_neg h5] at h
 by_cases h6:c.kind=6
 ·rw [if_pos h6] at h
  split at h
  ·cases h
  ·rename_i q hq
   obtain ⟨u,q⟩:=q
   obtain ⟨a1,a2,a3,a4⟩:=bit_ok hq
   injection h with h
   injection h with h1 h2
   subst h1 h2
   refine ⟨⟨6,0,E0,u⟩,okN_small (by omega) (by omega),rfl,rfl,?_,by show x.at_≤q;omega,a4,by rw [List.length_replicate];omega,fun lim hl=>?_⟩
   ·show _=[UInt8.ofNat ((u:Int)).toNat]++_
    rw [Int.toNat_natCast]
    exact a2
   ·unfold kidsOf
    rw [if_pos (.inr h6)]
    unfold kidsWrap
    rw [if_pos ⟨h6.symm,rfl,hE,by simp,by simp only;unfold wlim;rw [if_pos h6];exact_mod_cast a1⟩]
    simp only [Int.toNat_natCast]
 rw [if_neg h6] at h
 have hfew:((find s c.name).getD recZ).fields.length≤4096:=by
  cases hf:find s c.name with
  | none=>exact Nat.zero_le _
  | some r=>exact hff r (find_name hf).1
 have hko:∀ lim n,kidsOf s lim c t n=kidsRec ((find s c.name).getD recZ) n:=fun lim n=>by unfold kidsOf;rw [if_neg (by omega)]
 generalize (find s c.name).getD recZ=r at *
 split at h
 ·rename_i hc
  unfold decC at h
  split at h
  ·cases h
  ·rename_i q hq
   obtain ⟨u,q⟩:=q
   obtain ⟨a1,a2,a3,a4⟩:=num_ok hq
   split at h
   ·cases h
   ·rename_i g1
    simp only at g1
    injection h with h
    injection h with h1 h2
    subst h1 h2
    refine ⟨⟨8,u,E0,1⟩,okN_small (by omega) (by omega),rfl,rfl,?_,by show x.at_≤q;omega,a4,by simp,fun lim hl=>?_⟩
    ·show _=var ((u:Int)).toNat++_
     rw [Int.toNat_natCast]
     exact a2
    ·rw [hko]
     unfold kidsRec
     rw [if_pos hc,if_pos ⟨rfl,hE,rfl,by simp only;omega,by simp only;omega⟩]
     simp only [Int.toNat_natCast]
 ·rename_i hc
  injection h with h
  injection h with h1 h2
  subst h1 h2
  refine ⟨⟨7,0,E0,r.fields.length⟩,okN_small (by omega) (by omega),rfl,rfl,rfl,Nat.le_refl _,hx,by rw [List.length_map];exact hfew,fun lim hl=>?_⟩
  rw [hko]
  unfold kidsRec
  rw [if_neg hc,if_pos ⟨rfl,rfl,hE,rfl⟩]
theorem many_dec {s:Sch} {b:List UInt8} {k:Nat} {g:List Srt→S→Rs S}
  (hg:∀ t x y,g t x=.ok y→x.at_≤b.length→∃ m d,Got b x y m∧m≠[]∧1≤d∧d≤k∧y.v.length≤4096∧y.sz≤4096∧∀ r F,(m++r).length<F→ofF s none F t (m++r)=some (d,r)) :
  ∀ (ts:List (List Srt)) (x y:S),manyD g ts x=.ok y→x.at_≤b.length→x.v.length≤4096→x.sz≤4096→∃ m,Got b x y m∧ts.length≤m.length∧y.v.length≤4096∧y.sz≤4096∧∀ d0,∃ e,e≤max d0 k∧∀ r F,(m++r).length<F→manyF (ofF s none F) ts d0 (m++r)=some (e,r)
 | [],x,y,h,hx,hv,hz=>by
  injection h with h
  subst h
  exact ⟨[],⟨by rw [List.append_nil],rfl,Nat.le_refl _,hx,rfl,by simp⟩,Nat.le_refl _,hv,hz,fun d0=>⟨d0,by omega,fun r F _=>rfl⟩⟩
 | t::ts,x,y,h,hx,hv,hz=>by
  unfold manyD at h
  split at h
  ·cases h
  ·rename_i z hz1
   obtain ⟨m,d,g1,g2,g3,g4,g5,g6,g7⟩:=hg t x z hz1 hx
   obtain ⟨m',i1,i2,i3,i4,i5⟩:=many_dec hg ts z y h g1.lim g5 g6
   have hpos:0<m.length:=List.length_pos_iff.2 g2
   refine ⟨m++m',g1.trans i1,by rw [List.length_append,List.length_cons];omega,i3,i4,fun d0=>?_⟩
   obtain ⟨e,he,hm⟩:=i5 (max d0 d)
   refine ⟨e,by omega,fun r F hF=>?_⟩
   unfold manyF
   rw [List.append_assoc] at hF ⊢
   rw [g7 (m'++r) F hF]
   simp only
   exact hm r F (by rw [List.length_append] at hF;omega)
/-- Whatever is read is a value of just these bytes. -/
theorem dec_of {s:Sch} {b:List UInt8} (hff:∀ r∈s.records,r.fields.length≤4096):∀ (k:Nat) (t:List Srt) (x y:S),decF s b k t x=.ok y→x.at_≤b.length→∃ m d,Got b x y m∧m≠[]∧1≤d∧d≤k∧y.v.length≤4096∧y.sz≤4096∧∀ r F,(m++r).length<F→ofF s none F t (m++r)=some (d,r)
 | 0,t,x,y,h,hx=>by unfold decF at h;cases h
 | k+1,[],x,y,h,hx=>by unfold decF at h;cases h
 | k+1,c::t,x,y,h,hx=>by
  unfold decF at h
  split at h
  ·cases h
  ·rename_i hfull
   unfold full at hfull
   split at h
   ·rename_i hl
    obtain ⟨n,a1,a2,a3,a4,a5,a6,a7⟩:=leaf_dec hl (x:=x.inc) hx h (by unfold S.inc;simp only;omega)
    have hv:y.v=x.v++[n]:=by rw [a3];rfl
    have hz:y.sz=x.sz+1+n.text.size:=by rw [a3];rfl
    have he:encs [n]=encN n:=by simp [encs]
    refine ⟨[n],1,⟨hv,by rw [he];exact a4,a5,a6,by rw [hz,size_cons,size_nil];omega,by simpa using a2⟩,by simp,Nat.le_refl _,by omega,by rw [hv,List.length_append,List.length_singleton];omega,a7,fun r F hF=>?_⟩
    obtain ⟨F,rfl⟩:∃ G,F=G+1:=⟨F - 1,by omega⟩
    rw [List.singleton_append]
    unfold ofF
    rw [if_pos (show c.kind=1∨c.kind=2∨c.kind=3∨c.kind=4 from hl),if_pos a1]
   ·rename_i hl
    unfold goD at h
    split at h
    ·cases h
    ·rename_i p hp
     obtain ⟨ks,z⟩:=p
     obtain ⟨n,a1,a2,a3,a4,a5,a6,a7,a8⟩:=head_dec (x:=x.inc) hx hff hp
     have hv:z.v=x.v++[n]:=by rw [a3];rfl
     have hz:z.sz=x.sz+1:=by rw [a3];rfl
     obtain ⟨m,i1,i2,i3,i4,i5⟩:=many_dec (fun t x y h hx=>dec_of hff k t x y h hx) ks z y h a6 (by rw [hv,List.length_append,List.length_singleton];omega) (by omega)
     obtain ⟨e,he,hm⟩:=i5 0
     have g0:Got b x z [n]:=⟨hv,by rw [show encs [n]=encN n by simp [encs]];exact a4,a5,a6,by rw [hz,size_cons,size_nil];omega,by simpa using a1⟩
     refine ⟨n::m,e+1,g0.trans i1,by simp,by omega,by omega,i3,i4,fun r F hF=>?_⟩
     obtain ⟨F,rfl⟩:∃ G,F=G+1:=⟨F - 1,by omega⟩
     simp only [List.cons_append,List.length_cons,List.length_append] at hF ⊢
     unfold ofF
     rw [if_neg (show ¬(c.kind=1∨c.kind=2∨c.kind=3∨c.kind=4) from hl),Option.getD_none,a8 _ (by rw [List.length_append];omega)]
     show up (manyF (ofF s none F) ks 0 (m++r))=_
     rw [hm r F (by rw [List.length_append];omega)]
     rfl
def errs (e:Nat):Prop:=e=151∨e=3∨e=162∨e=160
/-- A fault lies at one of the places, or behind them. -/
theorem leaf_err {b:List UInt8} {k:Nat} {x:S} {e:Nat × Nat} (hx:x.at_≤b.length) (h:decL b k x=.error e):e.1≤b.length∧errs e.2:=by
 unfold decL at h
 have key:∀ e':Nat × Nat,(e'.2=162∨e'.2=160)→errs e'.2:=fun (e':Nat × Nat) h=>by unfold errs;omega
 split at h
 ·cases h
 split at h
 ·split at h
  ·rename_i e1 he
   injection h with h
   subst h
   have:=bit_err hx he
   exact ⟨this.2.1,key _ this.2.2⟩
  ·cases h
 split at h
 ·split at h
  ·rename_i e1 he
   injection h with h
   subst h
   have:=num_err hx he
   exact ⟨this.2.1,key _ this.2.2⟩
  ·cases h
 ·split at h
  ·rename_i e1 he
   injection h with h
   subst h
   have:=num_err hx he
   exact ⟨this.2.1,key _ this.2.2⟩
  ·unfold decT at h
   split at h
   ·injection h with h;subst h;exact ⟨hx,.inr (.inl rfl)⟩
   ·split at h
    ·injection h with h;subst h;exact ⟨Nat.le_refl _,.inr (.inr (.inr rfl))⟩
    ·cases h
theorem head_err {s:Sch} {b:List UInt8} {c:Srt} {t:List Srt} {x:S} {e:Nat × Nat} (hx:x.at_≤b.length) (h:decH s b c t x=.error e):e.1≤b.length∧errs e.2:=by
 unfold decH at h
 have key:∀ e':Nat × Nat,(e'.2=162∨e'.2=160)→errs e'.2:=fun (e':Nat × Nat) h=>by unfold errs;omega
 split at h
 ·split at h
  ·rename_i e1 he
   injection h with h
   subst h
   have:=num_err hx he
   exact ⟨this.2.1,key _ this.2.2⟩
  ·split at h
   ·injection h with h;subst h;exact ⟨hx,.inr (.inl rfl)⟩
   ·cases h
 split at h
 ·split at h
  ·rename_i e1 he
   injection h with h
   subst h
   have:=bit_err hx he
   exact ⟨this.2.1,key _ this.2.2⟩
  ·cases h
 split at h
 ·unfold decC at h
  split at h
  ·rename_i e1 he
   injection h with h
   subst h
   have:=num_err hx he
   exact ⟨this.2.1,key _ this.2.2⟩
  ·split at h
   ·injection h with h;subst h;exact ⟨hx,.inr (.inr (.inl rfl))⟩
   ·cases h
 ·cases h
theorem many_err {b:List UInt8} {g:List Srt→S→Rs S}
  (hg:∀ t x y,g t x=.ok y→x.at_≤b.length→y.at_≤b.length) (he:∀ t x e,g t x=.error e→x.at_≤b.length→e.1≤b.length∧errs e.2) :
  ∀ (ts:List (List Srt)) (x:S) (e:Nat × Nat),manyD g ts x=.error e→x.at_≤b.length→e.1≤b.length∧errs e.2
 | [],x,e,h,hx=>by cases h
 | t::ts,x,e,h,hx=>by
  unfold manyD at h
  split at h
  ·rename_i e1 h1
   injection h with h
   subst h
   exact he t x _ h1 hx
  ·rename_i y hy
   exact many_err hg he ts y e h (hg t x y hy hx)
theorem dec_err {s:Sch} {b:List UInt8} (hff:∀ r∈s.records,r.fields.length≤4096):∀ (k:Nat) (t:List Srt) (x:S) (e:Nat × Nat),decF s b k t x=.error e→x.at_≤b.length→e.1≤b.length∧errs e.2
 | 0,t,x,e,h,hx=>by unfold decF at h;injection h with h;subst h;exact ⟨hx,.inl rfl⟩
 | k+1,[],x,e,h,hx=>by unfold decF at h;injection h with h;subst h;exact ⟨hx,.inr (.inr (.inl rfl))⟩
 | k+1,c::t,x,e,h,hx=>by
  unfold decF at h
  split at h
  ·injection h with h;subst h;exact ⟨hx,.inr (.inl rfl)⟩
  ·split at h
   ·exact leaf_err (x:=x.inc) hx h
   ·unfold goD at h
    split at h
    ·rename_i e1 h1
     injection h with h
     subst h
     exact head_err (x:=x.inc) hx h1
    ·rename_i p hp
     obtain ⟨ks,z⟩:=p
     obtain ⟨n,a1,a2,a3,a4,a5,a6,a7,a8⟩:=head_dec (x:=x.inc) hx hff hp
     exact many_err (fun t x y h hx=>by obtain ⟨m,d,g1,-⟩:=dec_of hff k t x y h hx;exact g1.lim) (fun t x e h hx=>dec_err hff k t x e h hx) ks z e h a6
/-- Bytes that are cut, or that go on. -/
def cutR (n:Nat) (y:S):Rs S:=if y.at_≤n then .ok y else .error (n,160)
theorem leaf_cut {b:List UInt8} {k:Nat} {x y:S} {n:Nat} (hx:x.at_≤n) (hn:n≤b.length) (h:decL b k x=.ok y):decL (b.take n) k x=cutR n y:=by
 have hlen:(b.take n).length=n:=by rw [List.length_take];omega
 unfold decL at h ⊢
 unfold cutR
 split
 ·rename_i h1
  rw [if_pos h1] at h
  injection h with h
  subst h
  rw [if_pos (show (S.put x x.at_ _ 0).at_≤n from hx)]
 rename_i h1
 rw [if_neg h1] at h
 split
 ·rename_i h2
  rw [if_pos h2] at h
  split at h
  ·cases h
  ·rename_i q hq
   obtain ⟨u,q⟩:=q
   injection h with h
   subst h
   rw [bit_cut hx hn hq]
   by_cases hqn:q≤n
   ·rw [if_pos hqn,if_pos (show (S.put x q _ 0).at_≤n from hqn)]
   ·rw [if_neg hqn,if_neg (show ¬(S.put x q _ 0).at_≤n from hqn)]
 rename_i h2
 rw [if_neg h2] at h
 split
 ·rename_i h3
  rw [if_pos h3] at h
  split at h
  ·cases h
  ·rename_i q hq
   obtain ⟨u,q⟩:=q
   injection h with h
   subst h
   rw [num_cut hx hn hq]
   by_cases hqn:q≤n
   ·rw [if_pos hqn,if_pos (show (S.put x q _ 0).at_≤n from hqn)]
   ·rw [if_neg hqn,if_neg (show ¬(S.put x q _ 0).at_≤n from hqn)]
 ·rename_i h3
  rw [if_neg h3] at h
  split at h
  ·cases h
  ·rename_i q hq
   obtain ⟨u,q⟩:=q
   unfold decT at h
   split at h
   ·cases h
   ·split at h
    ·cases h
    ·rename_i g1 g2
     simp only at g1 g2
     injection h with h
     subst h
     rw [num_cut hx hn hq]
     by_cases hqn:q≤n
     ·rw [if_pos hqn]
      simp only
      unfold decT
      rw [if_neg g1,hlen]
      by_cases hqu:q+u≤n
      ·rw [if_neg (by simp only;omega),if_pos (show (S.put x (q+u) _ u).at_≤n from hqu)]
       have:cutT (b.take n) q u=cutT b q u:=by
        unfold cutT
        rw [List.drop_take,List.take_take,Nat.min_eq_left (by omega)]
       simp only
       rw [this]
      ·rw [if_pos (by simp only;omega),if_neg (show ¬(S.put x (q+u) _ u).at_≤n from hqu)]
     ·rw [if_neg hqn,if_neg (show ¬(S.put x (q+u) _ u).at_≤n by show ¬q+u≤n;omega)]
theorem head_cut {s:Sch} {b:List UInt8} {c:Srt} {t:List Srt} {x y:S} {ks:List (List Srt)} {n:Nat} (hx:x.at_≤n) (hn:n≤b.length) (h:decH s b c t x=.ok (ks,y)):decH s (b.take n) c t x=if y.at_≤n then .ok (ks,y) else .error (n,160):=by
 unfold decH at h ⊢
 split
 ·rename_i h1
  rw [if_pos h1] at h
  split at h
  ·cases h
  ·rename_i q hq
   obtain ⟨u,q⟩:=q
   split at h
   ·cases h
   ·rename_i g1
    injection h with h
    injection h with e1 e2
    subst e1 e2
    rw [num_cut hx hn hq]
    by_cases hqn:q≤n
    ·rw [if_pos hqn,if_pos (show (S.put x q _ 0).at_≤n from hqn)]
     simp only
     rw [if_neg g1]
    ·rw [if_neg hqn,if_neg (show ¬(S.put x q _ 0).at_≤n from hqn)]
 rename_i h1
 rw [if_neg h1] at h
 split
 ·rename_i h2
  rw [if_pos h2] at h
  split at h
  ·cases h
  ·rename_i q hq
   obtain ⟨u,q⟩:=q
   injection h with h
   injection h with e1 e2
   subst e1 e2
   rw [bit_cut hx hn hq]
   by_cases hqn:q≤n
   ·rw [if_pos hqn,if_pos (show (S.put x q _ 0).at_≤n from hqn)]
   ·rw [if_neg hqn,if_neg (show ¬(S.put x q _ 0).at_≤n from hqn)]
 rename_i h2
 rw [if_neg h2] at h
 split
 ·rename_i h3
  rw [if_pos h3] at h
  unfold decC at h ⊢
  split at h
  ·cases h
  ·rename_i q hq
   obtain ⟨u,q⟩:=q
   split at h
   ·cases h
   ·rename_i g1
    injection h with h
    injection h with e1 e2
    subst e1 e2
    rw [num_cut hx hn hq]
    by_cases hqn:q≤n
    ·rw [if_pos hqn,if_pos (show (S.put x q _ 0).at_≤n from hqn)]
     simp only
     rw [if_neg g1]
    ·rw [if_neg hqn,if_neg (show ¬(S.put x q _ 0).at_≤n from hqn)]
 ·rename_i h3
  rw [if_neg h3] at h
  injection h with h
  injection h with e1 e2
  subst e1 e2
  rw [if_pos (show (S.put x x.at_ _ 0).at_≤n from hx)]
theorem many_cut {b:List UInt8} {n:Nat} {g g':List Srt→S→Rs S} (hn:n≤b.length)
  (hle:∀ t x y,g t x=.ok y→x.at_≤b.length→x.at_≤y.at_∧y.at_≤b.length) (hg:∀ t x y,g t x=.ok y→x.at_≤n→g' t x=cutR n y) :
  ∀ (ts:List (List Srt)) (x y:S),manyD g ts x=.ok y→x.at_≤b.length→x.at_≤y.at_∧(x.at_≤n→manyD g' ts x=cutR n y)
 | [],x,y,h,hx=>by
  injection h with h
  subst h
  exact ⟨Nat.le_refl _,fun hxn=>by unfold manyD cutR;rw [if_pos hxn]⟩
 | t::ts,x,y,h,hx=>by
  unfold manyD at h
  split at h
  ·cases h
  ·rename_i z hz
   obtain ⟨h1,h2⟩:=hle t x z hz hx
   obtain ⟨h3,h4⟩:=many_cut hn hle hg ts z y h h2
   refine ⟨by omega,fun hxn=>?_⟩
   unfold manyD
   rw [hg t x z hz hxn]
   by_cases hzn:z.at_≤n
   ·rw [show cutR n z=.ok z from if_pos hzn]
    exact h4 hzn
   ·rw [show cutR n z=.error (n,160) from if_neg hzn,show cutR n y=.error (n,160) from if_neg (by omega)]
theorem dec_cut {s:Sch} {b:List UInt8} {n:Nat} (hff:∀ r∈s.records,r.fields.length≤4096) (hn:n≤b.length):∀ (k:Nat) (t:List Srt) (x y:S),decF s b k t x=.ok y→x.at_≤n→decF s (b.take n) k t x=cutR n y
 | 0,t,x,y,h,hx=>by unfold decF at h;cases h
 | k+1,[],x,y,h,hx=>by unfold decF at h;cases h
 | k+1,c::t,x,y,h,hx=>by
  unfold decF at h ⊢
  split at h
  ·cases h
  ·rename_i hf
   rw [if_neg hf]
   split at h
   ·rename_i hl
    rw [if_pos hl]
    exact leaf_cut (x:=x.inc) hx hn h
   ·rename_i hl
    rw [if_neg hl]
    unfold goD at h ⊢
    split at h
    ·cases h
    ·rename_i p hp
     obtain ⟨ks,z⟩:=p
     obtain ⟨n',a1,a2,a3,a4,a5,a6,a7,a8⟩:=head_dec (x:=x.inc) (Nat.le_trans hx hn) hff hp
     rw [head_cut (x:=x.inc) hx hn hp]
     obtain ⟨m1,m2⟩:=many_cut (g':=decF s (b.take n) k) hn (fun t x y h hx=>by obtain ⟨m,d,g1,-⟩:=dec_of hff k t x y h hx;exact ⟨g1.le,g1.lim⟩) (fun t x y h hx=>dec_cut hff hn k t x y h hx) ks z y h a6
     by_cases hzn:z.at_≤n
     ·rw [if_pos hzn]
      exact m2 hzn
     ·rw [if_neg hzn]
      show _=cutR n y
      rw [show cutR n y=.error (n,160) from if_neg (by omega)]
end Cd
end Go.Proofs.YtjfdohhdkdjifaaGreatDoor
