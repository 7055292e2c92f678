/- saga, plain: a run's text, and the run of one. No condition. -/
import Derived.Test.YtogijkhenihaaaaGreatDoorGP18
import Derived.Lib.AtoiAllCases
import Derived.Lib.ItoaMem
set_option linter.unusedVariables false
set_option linter.unusedSimpArgs false
namespace Go.Proofs.YtogijkhenihaaaaGreatDoor
namespace Sg
open Go.Proofs.YtogijkhenihaaaaGreatDoor.Id Go.Proofs.YtogijkhenihaaaaGreatDoor.Chk Go.Proofs.YtogijkhenihaaaaGreatDoor.Ev Go.Proofs.YtogijkhenihaaaaGreatDoor.Sd
theorem dec_eq (u:Nat):Lib.decDigits u=if u<10 then [UInt8.ofNat (48+u)] else Lib.decDigits (u / 10)++[UInt8.ofNat (48+u % 10)]:=by
 rw [Lib.decDigits]
 split <;> rfl
theorem dig_nat {d:Nat} (h:d<10):(UInt8.ofNat (48+d)).toNat=48+d:=by rw [Sm.ofNat_toNat,Nat.mod_eq_of_lt (by omega)]
theorem dec_bytes:∀ u:Nat,∀ c∈Lib.decDigits u,48≤c.toNat∧c.toNat≤57:=by
 intro u
 induction u using Nat.strongRecOn with
 | _ u ih =>
  intro c hc
  rw [dec_eq] at hc
  split at hc
  ·simp only [List.mem_singleton] at hc
   subst hc
   rw [dig_nat (by omega)]
   omega
  ·rw [List.mem_append,List.mem_singleton] at hc
   rcases hc with hc | hc
   ·exact ih (u / 10) (by omega) c hc
   ·subst hc
    rw [dig_nat (by omega)]
    omega
theorem dec_ne (u:Nat):Lib.decDigits u≠[]:=by
 rw [dec_eq]
 split <;> simp
theorem uint_append (acc:Nat):∀ (l:List UInt8) (c:UInt8),Lib.parseUint10 acc (l++[c])=match Lib.parseUint10 acc l with
  | .ok v=>Lib.parseUint10 v [c]
  | e=>e
 | [],c=>rfl
 | b::l,c=>by
  rw [List.cons_append]
  unfold Lib.parseUint10
  split
  ·split
   ·rfl
   ·split
    ·rfl
    ·exact uint_append _ l c
  ·rfl
theorem uint_dec:∀ u:Nat,u<18446744073709551616→Lib.parseUint10 0 (Lib.decDigits u)=.ok u:=by
 intro u
 induction u using Nat.strongRecOn with
 | _ u ih =>
  intro hu
  rw [dec_eq]
  split
  ·rename_i h
   unfold Lib.parseUint10
   rw [dig_nat h,if_pos (by omega),if_neg (by decide),if_neg (by omega)]
   show Lib.NumEnd.ok (0 * 10+(48+u - 48))=_
   congr 1
   omega
  ·rename_i h
   rw [uint_append,ih (u / 10) (by omega) (by omega)]
   simp only
   unfold Lib.parseUint10
   rw [dig_nat (by omega),if_pos (by omega),if_neg (by omega),if_neg (by omega)]
   show Lib.NumEnd.ok (u / 10 * 10+(48+u % 10 - 48))=_
   congr 1
   omega
theorem mag_dec {u:Nat} (hu:u<18446744073709551616):Lib.parseMag (Lib.decDigits u)=.ok u:=by
 unfold Lib.parseMag
 rw [if_neg (dec_ne u),uint_dec u hu]
/-- Atoi of Itoa. -/
theorem atoi_itoa {n:Int} (h0:-9223372036854775808≤n) (h1:n≤9223372036854775807):Lib.atoiAll (Lib.itoa n)=.ok n:=by
 unfold Lib.itoa
 split
 ·rw [Lib.atoiAll_minus,mag_dec (by omega)]
  unfold Lib.signed
  simp only
  rw [if_neg (by omega)]
  congr 1
  omega
 ·rename_i hn
  have hb:=dec_bytes n.toNat
  cases hd:Lib.decDigits n.toNat with
  | nil=>exact absurd hd (dec_ne _)
  | cons c r =>
   have hc:=hb c (by rw [hd];exact List.mem_cons_self)
   rw [Lib.atoiAll_plain c r (by omega) (by omega),←hd,mag_dec (by omega)]
   unfold Lib.signless
   simp only
   rw [if_neg (by omega)]
   congr 1
   omega
theorem itoa_bytes (n:Int):∀ c∈Lib.itoa n,c.toNat<58:=by
 intro c hc
 unfold Lib.itoa at hc
 split at hc
 ·rcases List.mem_cons.1 hc with rfl | hc
  ·decide
  ·have:=dec_bytes _ c hc
   omega
 ·have:=dec_bytes _ c hc
  omega
def txt (s:ByteArray):List UInt8:=Lib.decDigits s.size++58::s.data.toList
def flag (b:Bool):Int:=if b then 1 else 0
/-- A run's text. -/
def packL (r:Run):List UInt8 :=
 txt r.id++(txt r.saga++(txt r.arg++(Lib.itoa r.at_++59::(Lib.itoa r.phase++59::(Lib.itoa r.tries++59::(Lib.itoa (flag r.stop)++59::(Lib.itoa r.why++59::(txt r.value++[]:List UInt8))))))))
/-- As the program reads: up to the first end, then Atoi. -/
def pNum (e:UInt8) (l:List UInt8):Option (Int × List UInt8) :=
 if e∈l then (match Lib.atoiAll (l.takeWhile (· != e)) with
  | .ok v=>some (v,(l.dropWhile (· != e)).drop 1)
  | _=>none) else none
def pTxt (l:List UInt8):Option (ByteArray × List UInt8):=do
 let (n,r) ←pNum 58 l
 if n<0∨(r.length:Int)<n then none else some (⟨(r.take n.toNat).toArray⟩,r.drop n.toNat)
def pRun (l:List UInt8):Option (ByteArray × ByteArray × ByteArray × Int × Int × Int × Int × Int × ByteArray):=do
 let (i,l) ←pTxt l
 let (s,l) ←pTxt l
 let (a,l) ←pTxt l
 let (n,l) ←pNum 59 l
 let (p,l) ←pNum 59 l
 let (t,l) ←pNum 59 l
 let (f,l) ←pNum 59 l
 let (w,l) ←pNum 59 l
 let (v,_) ←pTxt l
 some (i,s,a,n,p,t,f,w,v)
theorem take_end {l r:List UInt8} {e:UInt8} (h:∀ c∈l,c≠e):(l++e::r).takeWhile (· != e)=l∧((l++e::r).dropWhile (· != e)).drop 1=r:=by
 have h':∀ c∈l,(c != e)=true:=fun c hc=>by simpa using h c hc
 constructor
 ·rw [List.takeWhile_append_of_pos h',List.takeWhile_cons]
  simp
 ·rw [List.dropWhile_append_of_pos h',List.dropWhile_cons]
  simp
theorem pNum_ok {n:Int} (h0:-9223372036854775808≤n) (h1:n≤9223372036854775807) {e:UInt8} (he:58≤e.toNat) (r:List UInt8):pNum e (Lib.itoa n++e::r)=some (n,r):=by
 have hb:∀ c∈Lib.itoa n,c≠e:=fun c hc hh=>by
  have:=itoa_bytes n c hc
  rw [hh] at this
  omega
 obtain ⟨t1,t2⟩:=take_end (r:=r) hb
 unfold pNum
 rw [if_pos (by simp),t1,t2,atoi_itoa h0 h1]
theorem pTxt_ok {s:ByteArray} (hs:s.size≤9223372036854775807) (r:List UInt8):pTxt (txt s++r)=some (s,r):=by
 unfold pTxt txt
 have e:Lib.decDigits s.size=Lib.itoa (s.size:Int):=(Lib.itoa_nonneg _).symm
 have hl:s.data.toList.length=s.size:=by simp
 rw [List.append_assoc,List.cons_append,e,pNum_ok (by omega) (by omega) (by decide)]
 show (if (s.size:Int)<0∨((s.data.toList++r).length:Int)<(s.size:Int) then none else _)=_
 rw [if_neg (by rw [List.length_append,hl];omega),Int.toNat_natCast,List.take_append_of_le_length (by omega),List.drop_append_of_le_length (by omega),List.take_of_length_le (by omega),List.drop_of_length_le (by omega)]
 rfl
structure Run.ok (r:Run):Prop where
 id:r.id.size≤9223372036854775807
 saga:r.saga.size≤9223372036854775807
 arg:r.arg.size≤9223372036854775807
 value:r.value.size≤9223372036854775807
 a:-9223372036854775808≤r.at_∧r.at_≤9223372036854775807
 t:-9223372036854775808≤r.tries∧r.tries≤9223372036854775807
 w:-9223372036854775808≤r.why∧r.why≤9223372036854775807
 p:r.phase<256
/-- What is read of a run's text. -/
theorem pRun_ok {r:Run} (h:r.ok):pRun (packL r)=some (r.id,r.saga,r.arg,r.at_,(r.phase:Int),r.tries,flag r.stop,r.why,r.value):=by
 have hp:=h.p
 have hf:-9223372036854775808≤flag r.stop∧flag r.stop≤9223372036854775807:=by unfold flag;split <;> decide
 unfold pRun packL
 rw [pTxt_ok h.id]
 simp only [Option.bind_eq_bind,Option.bind_some]
 rw [pTxt_ok h.saga]
 simp only [Option.bind_some]
 rw [pTxt_ok h.arg]
 simp only [Option.bind_some]
 rw [pNum_ok h.a.1 h.a.2 (by decide)]
 simp only [Option.bind_some]
 rw [pNum_ok (by omega) (by omega) (by decide)]
 simp only [Option.bind_some]
 rw [pNum_ok h.t.1 h.t.2 (by decide)]
 simp only [Option.bind_some]
 rw [pNum_ok hf.1 hf.2 (by decide)]
 simp only [Option.bind_some]
 rw [pNum_ok h.w.1 h.w.2 (by decide)]
 simp only [Option.bind_some]
 rw [pTxt_ok h.value]
 rfl
end Sg
end Go.Proofs.YtogijkhenihaaaaGreatDoor
set_option linter.unusedVariables false
set_option linter.unusedSimpArgs false
namespace Go.Proofs.YtogijkhenihaaaaGreatDoor
namespace Sg
open Go.Proofs.YtogijkhenihaaaaGreatDoor.Id Go.Proofs.YtogijkhenihaaaaGreatDoor.Chk Go.Proofs.YtogijkhenihaaaaGreatDoor.Ev Go.Proofs.YtogijkhenihaaaaGreatDoor.Sd
theorem flag_inj {a b:Bool} (h:flag a=flag b):a=b:=by cases a <;> cases b <;> first | rfl | (exfalso;revert h;decide)
theorem packL_inj {r q:Run} (hr:r.ok) (hq:q.ok) (h:packL r=packL q):r=q:=by
 have h1:=pRun_ok hr
 rw [h,pRun_ok hq] at h1
 simp only [Option.some.injEq,Prod.mk.injEq] at h1
 obtain ⟨e1,e2,e3,e4,e5,e6,e7,e8,e9⟩:=h1
 have e7:=flag_inj e7
 cases r
 cases q
 simp only at e1 e2 e3 e4 e5 e6 e7 e8 e9
 simp only [Run.mk.injEq]
 exact ⟨e1.symm,e2.symm,e3.symm,e4.symm,by omega,e6.symm,e7.symm,e8.symm,e9.symm⟩
open Classical in
/-- The run whose text it is. -/
noncomputable def readL (b:List UInt8):Option Run:=if h:∃ r:Run,r.ok∧packL r=b then some h.choose else none
theorem readL_some {b:List UInt8} {r:Run} (h:r.ok) (e:packL r=b):readL b=some r:=by
 have hx:∃ r:Run,r.ok∧packL r=b:=⟨r,h,e⟩
 unfold readL
 rw [dif_pos hx]
 congr 1
 exact packL_inj hx.choose_spec.1 h (hx.choose_spec.2.trans e.symm)
theorem readL_none {b:List UInt8} (h:∀ r:Run,r.ok→packL r≠b):readL b=none:=by
 unfold readL
 rw [dif_neg]
 rintro ⟨r,h1,h2⟩
 exact h r h1 h2
theorem pNum_range {e:UInt8} {l r:List UInt8} {n:Int} (h:pNum e l=some (n,r)):-9223372036854775808≤n∧n≤9223372036854775807:=by
 unfold pNum at h
 split at h
 ·split at h
  ·rename_i v hv
   injection h with h
   injection h with h1 h2
   subst h1
   exact Lib.atoiAll_bounds hv
  ·cases h
 ·cases h
theorem pNum_short {e:UInt8} {l r:List UInt8} {n:Int} (h:pNum e l=some (n,r)):r.length≤l.length:=by
 unfold pNum at h
 split at h
 ·split at h
  ·injection h with h
   injection h with h1 h2
   subst h2
   rw [List.length_drop]
   have:=(List.dropWhile_sublist (· != e) (l:=l)).length_le
   omega
  ·cases h
 ·cases h
theorem pTxt_short {l r:List UInt8} {s:ByteArray} (h:pTxt l=some (s,r)):s.size≤l.length∧r.length≤l.length:=by
 unfold pTxt at h
 cases hn:pNum 58 l with
 | none=>rw [hn] at h;cases h
 | some q =>
  obtain ⟨n,t⟩:=q
  rw [hn] at h
  have:=pNum_short hn
  have h':(if n<0∨(t.length:Int)<n then none else some ((⟨(t.take n.toNat).toArray⟩:ByteArray),t.drop n.toNat))=some (s,r):=h
  split at h'
  ·cases h'
  ·injection h' with h'
   injection h' with h1 h2
   subst h1 h2
   constructor
   ·show (t.take n.toNat).toArray.size≤_
    rw [List.size_toArray,List.length_take]
    omega
   ·rw [List.length_drop]
    omega
/-- The run of what the program has read. -/
def runOf (q:ByteArray × ByteArray × ByteArray × Int × Int × Int × Int × Int × ByteArray):Run:=⟨q.1,q.2.1,q.2.2.1,q.2.2.2.1,(q.2.2.2.2.1 % 256).toNat,q.2.2.2.2.2.1,q.2.2.2.2.2.2.1==1,q.2.2.2.2.2.2.2.1,q.2.2.2.2.2.2.2.2⟩
theorem runOf_ok {b:List UInt8} (hb:b.length≤9223372036854775807) {q:ByteArray × ByteArray × ByteArray × Int × Int × Int × Int × Int × ByteArray} (h:pRun b=some q):(runOf q).ok:=by
 unfold pRun at h
 simp only [Option.bind_eq_bind,Option.bind_eq_some_iff,Prod.exists,Option.some.injEq] at h
 obtain ⟨i,l1,h1,s,l2,h2,a,l3,h3,n,l4,h4,p,l5,h5,t,l6,h6,f,l7,h7,w,l8,h8,v,l9,h9,rfl⟩:=h
 have a1:=pTxt_short h1
 have a2:=pTxt_short h2
 have a3:=pTxt_short h3
 have a4:=pNum_short h4
 have a5:=pNum_short h5
 have a6:=pNum_short h6
 have a7:=pNum_short h7
 have a8:=pNum_short h8
 have a9:=pTxt_short h9
 exact ⟨show i.size≤_ by omega,show s.size≤_ by omega,show a.size≤_ by omega,show v.size≤_ by omega,pNum_range h4,pNum_range h6,pNum_range h8,show (p % 256).toNat<256 by omega⟩
/-- What the program reads. -/
theorem read_prog {b:List UInt8} (hb:b.length≤9223372036854775807):(match pRun b with
  | none=>none
  | some q=>if packL (runOf q)=b then some (runOf q) else none)=readL b:=by
 cases hq:pRun b with
 | none =>
  refine (readL_none fun r hr e=>?_).symm
  rw [←e,pRun_ok hr] at hq
  cases hq
 | some q =>
  simp only
  split
  ·rename_i h
   exact (readL_some (runOf_ok hb hq) h).symm
  ·rename_i h
   refine (readL_none fun r hr e=>h ?_).symm
   rw [←e,pRun_ok hr] at hq
   injection hq with hq
   have hp:=hr.p
   have:runOf q=r:=by
    rw [←hq]
    unfold runOf
    have e1:((r.phase:Int) % 256).toNat=r.phase:=by omega
    have e2:(flag r.stop==1)=r.stop:=by cases r.stop <;> rfl
    simp only [e1,e2]
   rw [this,e]
open Classical in
/-- As the document reads: a number's own text, and the end behind it. -/
noncomputable def dNum (e:UInt8) (l:List UInt8):Option (Int × List UInt8) :=
 if h:∃ q:Int × List UInt8,(-9223372036854775808≤q.1∧q.1≤9223372036854775807)∧l=Lib.itoa q.1++e::q.2 then some h.choose else none
theorem dNum_some {e:UInt8} (he:58≤e.toNat) {l r:List UInt8} {n:Int}:dNum e l=some (n,r)↔(-9223372036854775808≤n∧n≤9223372036854775807)∧l=Lib.itoa n++e::r:=by
 constructor
 ·intro h
  unfold dNum at h
  split at h
  ·rename_i hx
   injection h with h
   have:=hx.choose_spec
   rw [h] at this
   exact this
  ·cases h
 ·rintro ⟨hn,hl⟩
  have hx:∃ q:Int × List UInt8,(-9223372036854775808≤q.1∧q.1≤9223372036854775807)∧l=Lib.itoa q.1++e::q.2:=⟨(n,r),hn,hl⟩
  unfold dNum
  rw [dif_pos hx]
  congr 1
  have h2:=hx.choose_spec
  have h3:=pNum_ok h2.1.1 h2.1.2 he hx.choose.2
  rw [←h2.2] at h3
  have h4:pNum e l=some (n,r):=by rw [hl];exact pNum_ok hn.1 hn.2 he r
  rw [h4] at h3
  injection h3 with h3
  exact h3.symm
theorem dNum_none {e:UInt8} (he:58≤e.toNat) {l:List UInt8} (h:∀ n r,(-9223372036854775808≤n∧n≤9223372036854775807)→l≠Lib.itoa n++e::r):dNum e l=none:=by
 unfold dNum
 rw [dif_neg]
 rintro ⟨⟨n,r⟩,h1,h2⟩
 exact h n r h1 h2
noncomputable def dTxt (l:List UInt8):Option (ByteArray × List UInt8):=do
 let (n,r) ←dNum 58 l
 if n<0∨(r.length:Int)<n then none else some (⟨(r.take n.toNat).toArray⟩,r.drop n.toNat)
theorem dTxt_some {l r:List UInt8} {s:ByteArray} (h:dTxt l=some (s,r)):l=txt s++r:=by
 unfold dTxt at h
 cases hn:dNum 58 l with
 | none=>rw [hn] at h;cases h
 | some q =>
  obtain ⟨n,t⟩:=q
  rw [hn] at h
  obtain ⟨-,hl⟩:=(dNum_some (by decide)).1 hn
  have h':(if n<0∨(t.length:Int)<n then none else some ((⟨(t.take n.toNat).toArray⟩:ByteArray),t.drop n.toNat))=some (s,r):=h
  split at h'
  ·cases h'
  ·rename_i hc
   injection h' with h'
   injection h' with h1 h2
   subst h1 h2
   unfold txt
   have e1:(⟨(t.take n.toNat).toArray⟩:ByteArray).size=n.toNat:=by
    show (t.take n.toNat).toArray.size=_
    rw [List.size_toArray,List.length_take]
    omega
   have e2:Lib.itoa n=Lib.decDigits n.toNat:=by
    unfold Lib.itoa
    rw [if_neg (by omega)]
   rw [e1,hl,e2,List.append_assoc,List.cons_append]
   show _=Lib.decDigits n.toNat++58::(t.take n.toNat++t.drop n.toNat)
   rw [List.take_append_drop]
theorem dTxt_ok {s:ByteArray} (hs:s.size≤9223372036854775807) (r:List UInt8):dTxt (txt s++r)=some (s,r):=by
 unfold dTxt txt
 have e:Lib.decDigits s.size=Lib.itoa (s.size:Int):=(Lib.itoa_nonneg _).symm
 have hl:s.data.toList.length=s.size:=by simp
 rw [List.append_assoc,List.cons_append,e,(dNum_some (by decide)).2 ⟨⟨by omega,by omega⟩,rfl⟩]
 show (if (s.size:Int)<0∨((s.data.toList++r).length:Int)<(s.size:Int) then none else _)=_
 rw [if_neg (by rw [List.length_append,hl];omega),Int.toNat_natCast,List.take_append_of_le_length (by omega),List.drop_append_of_le_length (by omega),List.take_of_length_le (by omega),List.drop_of_length_le (by omega)]
 rfl
noncomputable def dRun (l:List UInt8):Option (ByteArray × ByteArray × ByteArray × Int × Int × Int × Int × Int × ByteArray):=do
 let (i,l) ←dTxt l
 let (s,l) ←dTxt l
 let (a,l) ←dTxt l
 let (n,l) ←dNum 59 l
 let (p,l) ←dNum 59 l
 let (t,l) ←dNum 59 l
 let (f,l) ←dNum 59 l
 let (w,l) ←dNum 59 l
 let (v,l) ←dTxt l
 if l≠[]∨p<0∨255<p∨f<0∨1<f then none else some (i,s,a,n,p,t,f,w,v)
theorem dRun_ok {r:Run} (h:r.ok):dRun (packL r)=some (r.id,r.saga,r.arg,r.at_,(r.phase:Int),r.tries,flag r.stop,r.why,r.value):=by
 have hp:=h.p
 have hf:0≤flag r.stop∧flag r.stop≤1:=by unfold flag;split <;> decide
 unfold dRun packL
 rw [dTxt_ok h.id]
 simp only [Option.bind_eq_bind,Option.bind_some]
 rw [dTxt_ok h.saga]
 simp only [Option.bind_some]
 rw [dTxt_ok h.arg]
 simp only [Option.bind_some]
 rw [(dNum_some (by decide)).2 ⟨h.a,rfl⟩]
 simp only [Option.bind_some]
 rw [(dNum_some (by decide)).2 ⟨⟨by omega,by omega⟩,rfl⟩]
 simp only [Option.bind_some]
 rw [(dNum_some (by decide)).2 ⟨h.t,rfl⟩]
 simp only [Option.bind_some]
 rw [(dNum_some (by decide)).2 ⟨⟨by omega,by omega⟩,rfl⟩]
 simp only [Option.bind_some]
 rw [(dNum_some (by decide)).2 ⟨h.w,rfl⟩]
 simp only [Option.bind_some]
 rw [dTxt_ok h.value]
 simp only [Option.bind_some]
 rw [if_neg (by simp;omega)]
/-- What the document reads. -/
theorem read_doc {b:List UInt8} (hb:b.length≤9223372036854775807):(dRun b).map runOf=readL b:=by
 cases hq:dRun b with
 | none =>
  refine (readL_none fun r hr e=>?_).symm
  rw [←e,dRun_ok hr] at hq
  cases hq
 | some q =>
  have hq0:=hq
  unfold dRun at hq
  simp only [Option.bind_eq_bind,Option.bind_eq_some_iff,Prod.exists] at hq
  obtain ⟨i,l1,h1,s,l2,h2,a,l3,h3,n,l4,h4,p,l5,h5,t,l6,h6,f,l7,h7,w,l8,h8,v,l9,h9,hc⟩:=hq
  split at hc
  ·cases hc
  ·rename_i hno
   injection hc with hc
   subst hc
   have g1:=dTxt_some h1
   have g2:=dTxt_some h2
   have g3:=dTxt_some h3
   obtain ⟨k4,g4⟩:=(dNum_some (by decide)).1 h4
   obtain ⟨k5,g5⟩:=(dNum_some (by decide)).1 h5
   obtain ⟨k6,g6⟩:=(dNum_some (by decide)).1 h6
   obtain ⟨k7,g7⟩:=(dNum_some (by decide)).1 h7
   obtain ⟨k8,g8⟩:=(dNum_some (by decide)).1 h8
   have g9:=dTxt_some h9
   have hl9:l9=[]:=by
    by_cases h:l9=[]
    ·exact h
    ·exact absurd (.inl h) hno
   have hsz:∀ (s:ByteArray) (r:List UInt8),s.size≤(txt s++r).length:=fun s r=>by
    unfold txt
    simp
    omega
   have z1:=hsz i l1
   rw [←g1] at z1
   have z1b:l1.length≤b.length:=by rw [g1];simp
   have z2:=hsz s l2
   rw [←g2] at z2
   have z2b:l2.length≤l1.length:=by rw [g2];simp
   have z3:=hsz a l3
   rw [←g3] at z3
   have z3b:l3.length≤l2.length:=by rw [g3];simp
   have z4:l4.length≤l3.length:=by rw [g4];simp;omega
   have z5:l5.length≤l4.length:=by rw [g5];simp;omega
   have z6:l6.length≤l5.length:=by rw [g6];simp;omega
   have z7:l7.length≤l6.length:=by rw [g7];simp;omega
   have z8:l8.length≤l7.length:=by rw [g8];simp;omega
   have z9:=hsz v l9
   rw [←g9] at z9
   have hok:(runOf (i,s,a,n,p,t,f,w,v)).ok:=⟨show i.size≤_ by omega,show s.size≤_ by omega,show a.size≤_ by omega,show v.size≤_ by omega,k4,k6,k8,show (p % 256).toNat<256 by omega⟩
   refine (readL_some hok ?_).symm
   have hp:(((p % 256).toNat:Nat):Int)=p:=by omega
   have hf:flag (f==1)=f:=by
    have:f=0∨f=1:=by omega
    rcases this with rfl | rfl <;> rfl
   unfold packL runOf
   simp only
   rw [hp,hf,g1,g2,g3,g4,g5,g6,g7,g8,g9,hl9]
end Sg
end Go.Proofs.YtogijkhenihaaaaGreatDoor
set_option linter.unusedVariables false
set_option linter.unusedSimpArgs false
namespace Go.Proofs.YtogijkhenihaaaaGreatDoor
namespace Sg
open Go.Proofs.YtogijkhenihaaaaGreatDoor.Id Go.Proofs.YtogijkhenihaaaaGreatDoor.Chk Go.Proofs.YtogijkhenihaaaaGreatDoor.Ev Go.Proofs.YtogijkhenihaaaaGreatDoor.Sd
/-- What a row of texts adds. -/
def txts (ss:List ByteArray):List UInt8:=ss.flatMap txt
theorem txts_next {ss:List ByteArray} {k:Nat} (h:k<ss.length):txts (ss.take (k+1))=txts (ss.take k)++txt ss[k]:=by
 unfold txts
 rw [List.take_succ_eq_append_getElem h,List.flatMap_append]
 simp
theorem txt_str (s:ByteArray):(⟨(Lib.itoa (s.size:Int)).toArray⟩:ByteArray)++⟨#[58]⟩++s=⟨(txt s).toArray⟩:=by
 apply ByteArray.ext
 apply Array.ext'
 unfold txt
 rw [Lib.itoa_nonneg]
 simp
theorem num_str (n:Int):(⟨(Lib.itoa n).toArray⟩:ByteArray)++⟨#[59]⟩=⟨(Lib.itoa n++[59]).toArray⟩:=by
 apply ByteArray.ext
 apply Array.ext'
 simp
def nums (r:Run):List Int:=[r.at_,(r.phase:Int),r.tries,flag r.stop,r.why]
def semi (ns:List Int):List UInt8:=ns.flatMap fun n=>Lib.itoa n++[59]
theorem semi_next {ns:List Int} {k:Nat} (h:k<ns.length):semi (ns.take (k+1))=semi (ns.take k)++(Lib.itoa ns[k]++[59]):=by
 unfold semi
 rw [List.take_succ_eq_append_getElem h,List.flatMap_append]
 simp
theorem packL_eq (r:Run):packL r=(txts [r.id,r.saga,r.arg]++semi (nums r))++txts [r.value]:=by
 unfold packL txts semi nums
 simp
theorem dec_len:∀ (k u:Nat),u<10 ^ k→(Lib.decDigits u).length≤max k 1
 | 0,u,h=>by
  rw [dec_eq,if_pos (by omega)]
  exact Nat.le_refl _
 | k+1,u,h=>by
  rw [dec_eq]
  split
  ·simp
  ·rename_i hu
   have:=dec_len k (u / 10) (by rw [Nat.pow_succ] at h;omega)
   have hk:1≤k:=by
    cases k with
    | zero=>omega
    | succ k=>omega
   rw [List.length_append]
   simp only [List.length_singleton]
   omega
theorem itoa_len {n:Int} (h0:-9223372036854775808≤n) (h1:n≤9223372036854775807):(Lib.itoa n).length≤20:=by
 have hd:∀ u:Nat,u≤9223372036854775808→(Lib.decDigits u).length≤19:=fun u hu=>by
  have:=dec_len 19 u (by have:(10:Nat) ^ 19=10000000000000000000:=(by decide);omega)
  omega
 unfold Lib.itoa
 split
 ·have:=hd n.natAbs (by omega)
  simp only [List.length_cons]
  omega
 ·have:=hd n.toNat (by omega)
  omega
theorem txt_len (s:ByteArray) (hs:s.size≤9223372036854775807):(txt s).length≤s.size+20:=by
 have:=itoa_len (n:=(s.size:Int)) (by omega) (by omega)
 rw [Lib.itoa_nonneg] at this
 unfold txt
 rw [List.length_append,List.length_cons]
 have hl:s.data.toList.length=s.size:=by simp
 have h19:(Lib.decDigits s.size).length≤19:=by
  have:=dec_len 19 s.size (by have:(10:Nat) ^ 19=10000000000000000000:=(by decide);omega)
  omega
 omega
/-- A run's parts, read one behind the other; and the rest. -/
def runG (T:List UInt8→Option (ByteArray × List UInt8)) (N:List UInt8→Option (Int × List UInt8)) (l:List UInt8):Option ((ByteArray × ByteArray × ByteArray × Int × Int × Int × Int × Int × ByteArray) × List UInt8):=do
 let (i,l) ←T l
 let (s,l) ←T l
 let (a,l) ←T l
 let (n,l) ←N l
 let (p,l) ←N l
 let (t,l) ←N l
 let (f,l) ←N l
 let (w,l) ←N l
 let (v,l) ←T l
 some ((i,s,a,n,p,t,f,w,v),l)
/-- A part read: the rest; what it is. -/
structure Got {α:Type} (P:List UInt8→Option (α × List UInt8)) (o:Option (List UInt8)) (x:α) (o':Option (List UInt8)):Prop where
 rest:(o.bind P).map (·.2)=o'
 val:∀ q,o.bind P=some q→x=q.1
theorem Got.lost {α:Type} {P:List UInt8→Option (α × List UInt8)} {x:α} {o':Option (List UInt8)} (h:Got P none x o'):o'=none:=h.rest.symm
theorem Got.fail {α:Type} {P:List UInt8→Option (α × List UInt8)} {x:α} {l:List UInt8} {o':Option (List UInt8)} (h:Got P (some l) x o') (e:P l=none):o'=none:=by
 have:=h.rest
 simp only [Option.bind_some,e,Option.map_none] at this
 exact this.symm
theorem Got.ok {α:Type} {P:List UInt8→Option (α × List UInt8)} {x y:α} {l r:List UInt8} {o':Option (List UInt8)} (h:Got P (some l) x o') (e:P l=some (y,r)):x=y∧o'=some r:=by
 have h1:=h.rest
 have h2:=h.val (y,r) (by rw [Option.bind_some,e])
 simp only [Option.bind_some,e,Option.map_some] at h1
 exact ⟨h2,h1.symm⟩
theorem runG_of {T:List UInt8→Option (ByteArray × List UInt8)} {N:List UInt8→Option (Int × List UInt8)} {l:List UInt8} {i s a v:ByteArray} {n p t f w:Int} {o1 o2 o3 o4 o5 o6 o7 o8 o9:Option (List UInt8)}
  (h1:Got T (some l) i o1) (h2:Got T o1 s o2) (h3:Got T o2 a o3) (h4:Got N o3 n o4) (h5:Got N o4 p o5) (h6:Got N o5 t o6) (h7:Got N o6 f o7) (h8:Got N o7 w o8) (h9:Got T o8 v o9) :
  runG T N l=o9.map fun r=>((i,s,a,n,p,t,f,w,v),r):=by
 unfold runG
 simp only [Option.bind_eq_bind]
 cases e1:T l with
 | none=>obtain rfl:=h1.fail e1;obtain rfl:=h2.lost;obtain rfl:=h3.lost;obtain rfl:=h4.lost;obtain rfl:=h5.lost;obtain rfl:=h6.lost;obtain rfl:=h7.lost;obtain rfl:=h8.lost;obtain rfl:=h9.lost;rfl
 | some q1 =>
 obtain ⟨x1,l1⟩:=q1
 obtain ⟨rfl,rfl⟩:=h1.ok e1
 simp only [Option.bind_some]
 cases e2:T l1 with
 | none=>obtain rfl:=h2.fail e2;obtain rfl:=h3.lost;obtain rfl:=h4.lost;obtain rfl:=h5.lost;obtain rfl:=h6.lost;obtain rfl:=h7.lost;obtain rfl:=h8.lost;obtain rfl:=h9.lost;rfl
 | some q2 =>
 obtain ⟨x2,l2⟩:=q2
 obtain ⟨rfl,rfl⟩:=h2.ok e2
 simp only [Option.bind_some]
 cases e3:T l2 with
 | none=>obtain rfl:=h3.fail e3;obtain rfl:=h4.lost;obtain rfl:=h5.lost;obtain rfl:=h6.lost;obtain rfl:=h7.lost;obtain rfl:=h8.lost;obtain rfl:=h9.lost;rfl
 | some q3 =>
 obtain ⟨x3,l3⟩:=q3
 obtain ⟨rfl,rfl⟩:=h3.ok e3
 simp only [Option.bind_some]
 cases e4:N l3 with
 | none=>obtain rfl:=h4.fail e4;obtain rfl:=h5.lost;obtain rfl:=h6.lost;obtain rfl:=h7.lost;obtain rfl:=h8.lost;obtain rfl:=h9.lost;rfl
 | some q4 =>
 obtain ⟨x4,l4⟩:=q4
 obtain ⟨rfl,rfl⟩:=h4.ok e4
 simp only [Option.bind_some]
 cases e5:N l4 with
 | none=>obtain rfl:=h5.fail e5;obtain rfl:=h6.lost;obtain rfl:=h7.lost;obtain rfl:=h8.lost;obtain rfl:=h9.lost;rfl
 | some q5 =>
 obtain ⟨x5,l5⟩:=q5
 obtain ⟨rfl,rfl⟩:=h5.ok e5
 simp only [Option.bind_some]
 cases e6:N l5 with
 | none=>obtain rfl:=h6.fail e6;obtain rfl:=h7.lost;obtain rfl:=h8.lost;obtain rfl:=h9.lost;rfl
 | some q6 =>
 obtain ⟨x6,l6⟩:=q6
 obtain ⟨rfl,rfl⟩:=h6.ok e6
 simp only [Option.bind_some]
 cases e7:N l6 with
 | none=>obtain rfl:=h7.fail e7;obtain rfl:=h8.lost;obtain rfl:=h9.lost;rfl
 | some q7 =>
 obtain ⟨x7,l7⟩:=q7
 obtain ⟨rfl,rfl⟩:=h7.ok e7
 simp only [Option.bind_some]
 cases e8:N l7 with
 | none=>obtain rfl:=h8.fail e8;obtain rfl:=h9.lost;rfl
 | some q8 =>
 obtain ⟨x8,l8⟩:=q8
 obtain ⟨rfl,rfl⟩:=h8.ok e8
 simp only [Option.bind_some]
 cases e9:T l8 with
 | none=>obtain rfl:=h9.fail e9;rfl
 | some q9 =>
 obtain ⟨x9,l9⟩:=q9
 obtain ⟨rfl,rfl⟩:=h9.ok e9
 rfl
theorem pRun_runG (l:List UInt8):pRun l=(runG pTxt (pNum 59) l).map (·.1):=by
 unfold pRun runG
 simp only [Option.bind_eq_bind,Option.map_bind,Function.comp_def,Option.map_some]
theorem dRun_runG (l:List UInt8):dRun l=(runG dTxt (dNum 59) l).bind fun q=>if q.2≠[]∨q.1.2.2.2.2.1<0∨255<q.1.2.2.2.2.1∨q.1.2.2.2.2.2.2.1<0∨1<q.1.2.2.2.2.2.2.1 then none else some q.1:=by
 unfold dRun runG
 simp only [Option.bind_eq_bind,Option.bind_assoc,Option.bind_some]
/-- The document's digits: the number's contrary, as Go counts it. -/
def i64 (n:Int):Int:=(n+9223372036854775808) % 18446744073709551616 - 9223372036854775808
theorem i64_id {n:Int} (h0:-9223372036854775808≤n) (h1:n≤9223372036854775807):i64 n=n:=by
 unfold i64
 omega
theorem i64_range (n:Int):-9223372036854775808≤i64 n∧i64 n≤9223372036854775807:=by
 unfold i64
 omega
def isDig (c:UInt8):Bool:=decide (48≤c.toNat)&&decide (c.toNat≤57)
def dstep (n:Int) (c:UInt8):Int:=i64 (i64 (10 * n) - ((c.toNat:Int) - 48))
def dacc:Int→List UInt8→Option Int
 | n,[]=>some n
 | n,c::l=>if isDig c=true then dacc (dstep n c) l else none
theorem dacc_app:∀ (a:List UInt8) (n:Int) (c:UInt8),dacc n (a++[c])=(dacc n a).bind fun m=>if isDig c=true then some (dstep m c) else none
 | [],n,c=>by
  show (if isDig c=true then dacc (dstep n c) [] else none)=_
  rfl
 | b::a,n,c=>by
  show (if isDig b=true then dacc (dstep n b) (a++[c]) else none)=(if isDig b=true then dacc (dstep n b) a else none).bind _
  split
  ·exact dacc_app a _ c
  ·rfl
theorem dacc_none:∀ (a b:List UInt8) (n:Int),dacc n a=none→dacc n (a++b)=none
 | [],b,n,h=>by cases h
 | c::a,b,n,h=>by
  have h:(if isDig c=true then dacc (dstep n c) a else none)=none:=h
  show (if isDig c=true then dacc (dstep n c) (a++b) else none)=none
  split
  ·rename_i hc
   rw [if_pos hc] at h
   exact dacc_none a b _ h
  ·rfl
theorem dacc_dec:∀ u:Nat,u≤9223372036854775808→dacc 0 (Lib.decDigits u)=some (-(u:Int)):=by
 intro u
 induction u using Nat.strongRecOn with
 | _ u ih =>
  intro hu
  have hd:∀ d:Nat,d<10→isDig (UInt8.ofNat (48+d))=true:=fun d h=>by
   unfold isDig
   rw [dig_nat h]
   simp
   omega
  rw [dec_eq]
  split
  ·rename_i h
   show (if isDig (UInt8.ofNat (48+u))=true then some (dstep 0 (UInt8.ofNat (48+u))) else none)=_
   rw [if_pos (hd u h)]
   unfold dstep
   rw [dig_nat h]
   unfold i64
   congr 1
   omega
  ·rw [dacc_app,ih (u / 10) (by omega) (by omega),Option.bind_some,if_pos (hd (u % 10) (by omega))]
   unfold dstep
   rw [dig_nat (by omega)]
   unfold i64
   congr 1
   omega
/-- A sign and digits. -/
def dsc:List UInt8→Option (Bool × Int)
 | []=>some (false,0)
 | c::l=>if c=45 then (dacc 0 l).map fun n=>(true,n) else (dacc 0 (c::l)).map fun n=>(false,n)
theorem dsc_one (c:UInt8):dsc [c]=if c=45 then some (true,0) else if isDig c=true then some (false,dstep 0 c) else none:=by
 show (if c=45 then (dacc 0 []).map _ else (if isDig c=true then dacc (dstep 0 c) [] else none).map _)=_
 split
 ·rfl
 ·split <;> rfl
theorem dsc_next (b:UInt8) (a:List UInt8) (c:UInt8):dsc (b::a++[c])=(dsc (b::a)).bind fun q=>if isDig c=true then some (q.1,dstep q.2 c) else none:=by
 show (if b=45 then (dacc 0 (a++[c])).map _ else (dacc 0 (b::a++[c])).map _)=(if b=45 then (dacc 0 a).map _ else (dacc 0 (b::a)).map _:Option (Bool × Int)).bind _
 split
 ·rw [dacc_app]
  cases dacc 0 a with
  | none=>rfl
  | some m =>
   simp only [Option.bind_some,Option.map_some]
   split <;> rfl
 ·rw [dacc_app]
  cases dacc 0 (b::a) with
  | none=>rfl
  | some m =>
   simp only [Option.bind_some,Option.map_some]
   split <;> rfl
theorem dsc_none {a:List UInt8} (b:List UInt8) (h:dsc a=none):dsc (a++b)=none:=by
 cases a with
 | nil=>cases h
 | cons c a =>
  have h:(if c=45 then (dacc 0 a).map (fun n=>(true,n)) else (dacc 0 (c::a)).map fun n=>(false,n))=none:=h
  show (if c=45 then (dacc 0 (a++b)).map (fun n=>(true,n)) else (dacc 0 (c::a++b)).map fun n=>(false,n))=none
  split
  ·rename_i hc
   rw [if_pos hc] at h
   rw [dacc_none a b 0 (by simpa using h)]
   rfl
  ·rename_i hc
   rw [if_neg hc] at h
   rw [dacc_none (c::a) b 0 (by simpa using h)]
   rfl
def sgn (q:Bool × Int):Int:=if q.1=true then q.2 else i64 (-q.2)
theorem dsc_itoa {n:Int} (h0:-9223372036854775808≤n) (h1:n≤9223372036854775807):∃ q,dsc (Lib.itoa n)=some q∧sgn q=n:=by
 unfold Lib.itoa
 split
 ·rename_i hn
  refine ⟨(true,-(n.natAbs:Int)),?_,?_⟩
  ·unfold dsc
   simp only
   rw [if_pos trivial,dacc_dec _ (by omega)]
   rfl
  ·unfold sgn
   rw [if_pos rfl]
   show -(n.natAbs:Int)=n
   omega
 ·rename_i hn
  refine ⟨(false,-(n.toNat:Int)),?_,?_⟩
  ·cases hd:Lib.decDigits n.toNat with
   | nil=>exact absurd hd (dec_ne _)
   | cons c r =>
    have hc:=dec_bytes n.toNat c (by rw [hd];exact List.mem_cons_self)
    show (if c=45 then (dacc 0 r).map (fun n=>(true,n)) else (dacc 0 (c::r)).map (fun n=>(false,n)))=_
    rw [if_neg (by rintro rfl;exact absurd hc.1 (by decide)),←hd,dacc_dec _ (by omega)]
    rfl
  ·unfold sgn
   rw [if_neg (fun h=>Bool.noConfusion h)]
   show i64 (-(-(n.toNat:Int)))=n
   rw [i64_id (by omega) (by omega)]
   omega
/-- How the document finds a number: up to its end, at most 20 bytes, a sign and digits, and the number's own text. -/
theorem dNum_no {e:UInt8} (he:58≤e.toNat) {l:List UInt8} (h:¬e∈l∨20<(l.takeWhile (· != e)).length∨dsc (l.takeWhile (· != e))=none∨∃ q,dsc (l.takeWhile (· != e))=some q∧Lib.itoa (sgn q)≠l.takeWhile (· != e)):dNum e l=none:=by
 refine dNum_none he fun n r hn hl=>?_
 have hb:∀ c∈Lib.itoa n,c≠e:=fun c hc hh=>by
  have:=itoa_bytes n c hc
  rw [hh] at this
  omega
 obtain ⟨t1,t2⟩:=take_end (r:=r) hb
 rw [←hl] at t1
 obtain ⟨q,hq,hs⟩:=dsc_itoa hn.1 hn.2
 rw [t1] at h
 rcases h with h | h | h | ⟨q',h,h'⟩
 ·exact h (by rw [hl];simp)
 ·have:=itoa_len hn.1 hn.2
  omega
 ·rw [hq] at h
  cases h
 ·rw [hq] at h
  injection h with h
  rw [←h,hs] at h'
  exact h' rfl
theorem split_end {e:UInt8}:∀ {l:List UInt8},e∈l→l=l.takeWhile (· != e)++e::(l.dropWhile (· != e)).drop 1
 | [],h=>absurd h (by simp)
 | c::l,h=>by
  by_cases hc:c=e
  ·subst hc
   simp [List.takeWhile_cons,List.dropWhile_cons]
  ·have h':e∈l:=by
    rcases List.mem_cons.1 h with h | h
    ·exact absurd h.symm hc
    ·exact h
   have hb:(c != e)=true:=by simpa using hc
   rw [List.takeWhile_cons,List.dropWhile_cons,if_pos hb,if_pos hb,List.cons_append,←split_end h']
theorem dNum_yes {e:UInt8} (he:58≤e.toNat) {l:List UInt8} (h:e∈l) {q:Bool × Int} (hr:-9223372036854775808≤sgn q∧sgn q≤9223372036854775807) (hq:Lib.itoa (sgn q)=l.takeWhile (· != e)):dNum e l=some (sgn q,(l.dropWhile (· != e)).drop 1) :=
 (dNum_some he).2 ⟨hr,by rw [hq];exact split_end h⟩
end Sg
end Go.Proofs.YtogijkhenihaaaaGreatDoor
set_option linter.unusedVariables false
set_option linter.unusedSimpArgs false
namespace Go.Proofs.YtogijkhenihaaaaGreatDoor
namespace Sg
open Go.Proofs.YtogijkhenihaaaaGreatDoor.Id Go.Proofs.YtogijkhenihaaaaGreatDoor.Chk Go.Proofs.YtogijkhenihaaaaGreatDoor.Ev Go.Proofs.YtogijkhenihaaaaGreatDoor.Sd
section
variable {A : Sch → ByteArray → ByteArray → Nat} {x : Sch}
theorem not_over {r:Run} (h:Rt A x r) (ho:over r=false):r.phase=1∨r.phase=2:=by
 obtain ⟨-,-,-,-,q1,q5⟩:=h.ph
 unfold over at ho
 simp only [Bool.and_eq_false_iff,decide_eq_false_iff_not] at ho
 omega
end
end Sg
end Go.Proofs.YtogijkhenihaaaaGreatDoor
set_option linter.unusedVariables false
set_option linter.unusedSimpArgs false
namespace Go.Proofs.YtogijkhenihaaaaGreatDoor
namespace Sg
open Go.Proofs.YtogijkhenihaaaaGreatDoor.Id Go.Proofs.YtogijkhenihaaaaGreatDoor.Chk Go.Proofs.YtogijkhenihaaaaGreatDoor.Ev Go.Proofs.YtogijkhenihaaaaGreatDoor.Sd
noncomputable def begin_ (A:Sch→ByteArray→ByteArray→Nat) (x:Sch) (g id:ByteArray) (fr:Int) (b:ByteArray):Run × Letter × Nat :=
 if (call x g id 0 false fr b).2≠0 then (Run.zero,Letter.zero,(call x g id 0 false fr b).2)
 else if A x g b≠0 then (Run.zero,Letter.zero,A x g b)
 else (⟨id,g,b,0,1,0,false,0,⟨#[]⟩⟩,(call x g id 0 false fr b).1,0)
section
variable {A : Sch → ByteArray → ByteArray → Nat} {x : Sch}
theorem begin_ok {g id b:ByteArray} {fr:Int} (h:(begin_ A x g id fr b).2.2=0):(begin_ A x g id fr b).1=⟨id,g,b,0,1,0,false,0,⟨#[]⟩⟩∧Rt A x ⟨id,g,b,0,1,0,false,0,⟨#[]⟩⟩:=by
 unfold begin_ at h ⊢
 split at h
 ·rename_i h1;exact absurd h h1
 ·rename_i h1
  split at h
  ·rename_i h2;exact absurd h h2
  ·rename_i h2
   rw [if_neg h1,if_neg h2]
   refine ⟨rfl,?_⟩
   have hE:letE x g id 0 fr=0:=by
    by_cases hz:letE x g id 0 fr=0
    ·exact hz
    ·unfold call at h1
     rw [if_pos hz] at h1
     exact absurd hz h1
   obtain ⟨f1,f2,f3,f4,f5,f6⟩:=letE_ok hE
   have hs:steps x g=((sag x g).steps.length,0):=by
    unfold steps
    rw [if_neg (by simp [f1])]
   have hA:A x g b=0:=by omega
   refine ⟨by rw [hs],f2,hA,Int.le_refl 0,by rw [hs];exact f6,Int.le_refl 0,(by show (0:Int)≤29;decide),Int.le_refl 0,(by show (0:Int)≤999;decide),(by show (0:Nat)≤4096;decide),⟨fun _=>rfl,fun e=>(by cases e),fun e=>(by cases e),fun e=>(by rcases e with e | e <;> cases e),Nat.le_refl 1,(by show 1≤5;decide)⟩,.inr (.inr rfl),.inl rfl,.inr nil_empty⟩
theorem on_true {r:Run} (h:Rt A x r) (ho:over r=false) {fr:Int} (h0:0≤fr) (h4:fr<4):on A x r fr=true:=by
 unfold on
 simp only [ho,Bool.not_false,Bool.and_true,Bool.and_eq_true,decide_eq_true_eq]
 exact ⟨⟨h0,h4⟩,h⟩
theorem reply_took {r:Run} (h:Rt A x r) (ho:over r=false) {fr most:Int} (h0:0≤fr) (h4:fr<4) {l:Letter} (hk:l.kind=2) (hy:l.key.toList=(waits r).toList):reply A x r fr most l=took x r fr most l:=by
 unfold reply
 rw [if_pos ⟨on_true h ho h0 h4,hk,hy⟩]
/-- What holds between two rounds of SagaEnds: i answers came, k were taken. -/
structure EndI (A:Sch→ByteArray→ByteArray→Nat) (x:Sch) (g:ByteArray) (n m:Int) (r:Run) (i k:Int):Prop where
 rt:Rt A x r
 sg:r.saga=g
 tr:r.phase=2→r.tries≤m
 bd:k+left n m r≤n+n * (m+1)
 en:over r=true∨k=i
end
end Sg
end Go.Proofs.YtogijkhenihaaaaGreatDoor
