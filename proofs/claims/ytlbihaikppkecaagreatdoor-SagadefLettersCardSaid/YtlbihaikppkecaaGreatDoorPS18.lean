/- check, plain: a right schema is right without its last saga, and with its records turned about. No condition. -/
import Derived.Test.YtlbihaikppkecaaGreatDoorPS16
import Derived.Test.YtlbihaikppkecaaGreatDoorPS17
import Derived.Test.YtlbihaikppkecaaGreatDoorPS08
import Derived.Test.YtlbihaikppkecaaGreatDoorPS15
import Derived.Test.YtlbihaikppkecaaGreatDoorPS02
set_option linter.unusedVariables false
set_option linter.unusedSimpArgs false
namespace Go.Proofs.YtlbihaikppkecaaGreatDoor
namespace Chk
open Go.Proofs.YtlbihaikppkecaaGreatDoor.Id
def apart (a b:ByteArray):Prop:=(a.toList==b.toList)=false
end Chk
end Go.Proofs.YtlbihaikppkecaaGreatDoor
set_option linter.unusedVariables false
set_option linter.unusedSimpArgs false
namespace Go.Proofs.YtlbihaikppkecaaGreatDoor
open Go.RowKit Go.BigFrame
/-- Within a law over a schema: its box, what lay there. -/
structure Chk.Lx (w wr:World) (S:Array Value):Prop where
 bel:Below w.heap.size w wr
 box:Bk wr w.heap.size 33 S
theorem Chk.Lx.below {w wr w':World} {S:Array Value} (h:Chk.Lx w wr S) (hb:Below wr.heap.size wr w'):Chk.Lx w w' S:=⟨h.bel.trans (hb.mono h.bel.size),h.box.below hb h.box.lt⟩
theorem Chk.Lx.start {w wr:World} {S:Array Value} (h:wr=w.alloc (.cells S 33)):Chk.Lx w wr S:=by
 subst h
 exact ⟨(Below.refl _ _).alloc (Nat.le_refl _) _,Bk.new _ _ _⟩
theorem Chk.Lx.only {w wr w':World} {S:Array Value} {e:TypeId} (h:Chk.Lx w wr S) (hb:Below w.heap.size wr w') (ho:Only e wr w') (he:33≠e):Chk.Lx w w' S:=⟨h.bel.trans hb,ho.bk h.box he⟩
end Go.Proofs.YtlbihaikppkecaaGreatDoor
set_option linter.unusedVariables false
set_option linter.unusedSimpArgs false
namespace Go.Proofs.YtlbihaikppkecaaGreatDoor
namespace Chk
open Go.Proofs.YtlbihaikppkecaaGreatDoor.Id
/-- The first test that fails. -/
def firstF:List Test→Option ByteArray
 | []=>none
 | t::l=>if t.1=true then firstF l else some t.2
theorem firstF_t {b:Bool} {s:ByteArray} {l:List Test} (h:b=true):firstF ((b,s)::l)=firstF l:=by
 show (if b=true then firstF l else some s)=_
 rw [if_pos h]
theorem firstF_f {b:Bool} {s:ByteArray} {l:List Test} (h:b=false):firstF ((b,s)::l)=some s:=by
 show (if b=true then firstF l else some s)=_
 rw [if_neg (by rw [h];decide)]
theorem firstF_app:∀ (a b:List Test),firstF (a++b)=match firstF a with | none=>firstF b | some s=>some s
 | [],b=>rfl
 | (c,s)::l,b=>by
  cases c
  ·rfl
  ·exact firstF_app l b
theorem run_first (e:Nat):∀ l:List Test,run e l none=(firstF l).map fun s=>(s,e)
 | []=>rfl
 | (c,s)::l=>by
  show run e l (at_ c s e none)=_
  cases c
  ·rw [show at_ false s e none=some (s,e) from rfl,run_some]
   rfl
  ·exact run_first e l
theorem firstF_none {l:List Test}:firstF l=none↔∀ t∈l,t.1=true:=by
 rw [←run_none (e:=0),run_first]
 cases firstF l <;> simp
theorem flat_cong {α β:Type} {l:List α} {f g:α→List β} (h:∀ a∈l,f a=g a):l.flatMap f=l.flatMap g:=by
 induction l with
 | nil=>rfl
 | cons a l ih =>
  rw [List.flatMap_cons,List.flatMap_cons,h a (by simp),ih (fun b hb=>h b (by simp [hb]))]
/-! Levels. -/
def lvl (rs:List Rec) (l:List Bool) (n:ByteArray):Bool:=match rs,l with
 | r::rs,b::l=>if r.name.toList==n.toList then b else lvl rs l n
 | _,_=>false
def lvT (rs:List Rec) (l:List Bool) (t:List Srt):Bool:=match t with
 | []=>false
 | x::_=>x.kind != 7||lvl rs l x.name
def lvR (rs:List Rec) (l:List Bool) (r:Rec):Bool:=(r.choice&&r.fields.any fun f=>lvT rs l f.type)||(!r.choice&&r.fields.all fun f=>lvT rs l f.type)
def lvN (rs:List Rec) (l:List Bool):List Bool:=rs.map (lvR rs l)
def lvI (rs:List Rec):Nat→List Bool
 | 0=>List.replicate rs.length false
 | k+1=>lvN rs (lvI rs k)
theorem lvI_len (rs:List Rec) (k:Nat):(lvI rs k).length=rs.length:=by
 cases k <;> simp [lvI,lvN]
theorem lvl_iff:∀ {rs:List Rec} {l:List Bool} {n:ByteArray},lvl rs l n=true→∃ i,∃ (h:i<rs.length) (h':i<l.length),rs[i].name.toList=n.toList∧l[i]=true
 | [],l,n,h=>by unfold lvl at h;cases h
 | r::rs,[],n,h=>by unfold lvl at h;cases h
 | r::rs,b::l,n,h=>by
  unfold lvl at h
  split at h
  next hn=>exact ⟨0,by simp,by simp,by simpa using hn,h⟩
  next hn =>
   obtain ⟨i,h1,h2,h3,h4⟩:=lvl_iff h
   exact ⟨i+1,by simp;omega,by simp;omega,by simpa using h3,by simpa using h4⟩
theorem lvl_of:∀ {rs:List Rec} {l:List Bool} {n:ByteArray} {seen:List ByteArray},Dist seen (rs.map (·.name))→∀ i,∀ (h:i<rs.length) (h':i<l.length),rs[i].name.toList=n.toList→l[i]=true→lvl rs l n=true
 | [],l,n,seen,hd,i,h,h',hn,hl=>absurd h (by simp)
 | r::rs,[],n,seen,hd,i,h,h',hn,hl=>absurd h' (by simp)
 | r::rs,b::l,n,seen,hd,0,h,h',hn,hl=>by
  unfold lvl
  rw [if_pos (by simpa using hn)]
  exact hl
 | r::rs,b::l,n,seen,hd,i+1,h,h',hn,hl=>by
  have hd':seenB seen r.name=false∧Dist (seen++[r.name]) (rs.map (·.name)):=hd
  have hi:i<rs.length:=by simpa using h
  have hne:¬(r.name.toList==n.toList)=true:=by
   intro he
   have hk:=dist_not hd'.2 (a:=rs[i].name) (List.mem_map.2 ⟨rs[i],List.getElem_mem hi,rfl⟩)
   rw [seen_more] at hk
   have e1:rs[i].name.toList=n.toList:=by simpa using hn
   have e2:r.name.toList=n.toList:=by simpa using he
   rw [e1,e2] at hk
   simp at hk
  unfold lvl
  rw [if_neg hne]
  exact lvl_of hd'.2 i hi (by simpa using h') (by simpa using hn) (by simpa using hl)
theorem dist_unique:∀ {l:List ByteArray} {seen:List ByteArray},Dist seen l→∀ i j,∀ (hi:i<l.length) (hj:j<l.length),l[i].toList=l[j].toList→i=j
 | [],_,_,i,j,hi,_,_=>absurd hi (by simp)
 | a::l,seen,hd,0,0,_,_,_=>rfl
 | a::l,seen,hd,0,j+1,_,hj,he=>by
  have hd':seenB seen a=false∧Dist (seen++[a]) l:=hd
  have hj':j<l.length:=by simpa using hj
  have hk:=dist_not hd'.2 (a:=l[j]) (List.getElem_mem hj')
  rw [seen_more] at hk
  have e:a.toList=l[j].toList:=by simpa using he
  rw [e] at hk
  simp at hk
 | a::l,seen,hd,i+1,0,hi,_,he=>by
  have hd':seenB seen a=false∧Dist (seen++[a]) l:=hd
  have hj':i<l.length:=by simpa using hi
  have hk:=dist_not hd'.2 (a:=l[i]) (List.getElem_mem hj')
  rw [seen_more] at hk
  have e:l[i].toList=a.toList:=by simpa using he
  rw [e] at hk
  simp at hk
 | a::l,seen,hd,i+1,j+1,hi,hj,he=>by
  have hd':seenB seen a=false∧Dist (seen++[a]) l:=hd
  rw [dist_unique hd'.2 i j (by simpa using hi) (by simpa using hj) (by simpa using he)]
/-- Pointwise. -/
def Le (a b:List Bool):Prop:=a.length=b.length∧∀ i,∀ (h:i<a.length) (h':i<b.length),a[i]=true→b[i]=true
theorem lvl_mono:∀ {rs:List Rec} {a b:List Bool} {n:ByteArray},Le a b→lvl rs a n=true→lvl rs b n=true
 | [],a,b,n,_,h=>by unfold lvl at h;cases h
 | r::rs,[],b,n,_,h=>by unfold lvl at h;cases h
 | r::rs,x::a,[],n,hl,h=>by have:=hl.1;simp at this
 | r::rs,x::a,y::b,n,hl,h=>by
  unfold lvl at h ⊢
  split at h
  next hn=>rw [if_pos hn];exact hl.2 0 (by simp) (by simp) h
  next hn =>
   rw [if_neg hn]
   refine lvl_mono ⟨by have:=hl.1;simpa using this,fun i h1 h2 h3=>?_⟩ h
   have:=hl.2 (i+1) (by simp;omega) (by simp;omega) (by simpa using h3)
   simpa using this
theorem lvT_mono {rs:List Rec} {a b:List Bool} (h:Le a b) {t:List Srt} (ht:lvT rs a t=true):lvT rs b t=true:=by
 cases t with
 | nil=>exact ht
 | cons x t =>
  unfold lvT at ht ⊢
  rw [Bool.or_eq_true] at ht ⊢
  exact ht.imp id (lvl_mono h)
theorem lvR_mono {rs:List Rec} {a b:List Bool} (h:Le a b) {r:Rec} (hr:lvR rs a r=true):lvR rs b r=true:=by
 unfold lvR at hr ⊢
 cases hc:r.choice
 ·rw [hc] at hr
  simp only [Bool.false_and,Bool.not_false,Bool.true_and,Bool.false_or,List.all_eq_true] at hr ⊢
  exact fun f hf=>lvT_mono h (hr f hf)
 ·rw [hc] at hr
  simp only [Bool.true_and,Bool.not_true,Bool.false_and,Bool.or_false,List.any_eq_true] at hr ⊢
  obtain ⟨f,hf,ht⟩:=hr
  exact ⟨f,hf,lvT_mono h ht⟩
theorem lvI_le (rs:List Rec):∀ k,Le (lvI rs k) (lvI rs (k+1))
 | 0=>⟨by rw [lvI_len,lvI_len],fun i h h' ht=>by simp [lvI] at ht⟩
 | k+1=>⟨by rw [lvI_len,lvI_len],fun i h h' ht=>by
   simp only [lvI,lvN,List.getElem_map] at ht ⊢
   exact lvR_mono (lvI_le rs k) ht⟩
theorem le_count:∀ {a b:List Bool},Le a b→a≠b→a.countP id+1≤b.countP id
 | [],[],_,h=>absurd rfl h
 | [],_::_,h,_=>by have:=h.1;simp at this
 | _::_,[],h,_=>by have:=h.1;simp at this
 | x::a,y::b,h,hne=>by
  have ht:Le a b:=⟨by have:=h.1;simpa using this,fun i h1 h2 h3=>by
   have:=h.2 (i+1) (by simp;omega) (by simp;omega) (by simpa using h3)
   simpa using this⟩
  have h0:=h.2 0 (by simp) (by simp)
  simp only [List.getElem_cons_zero] at h0
  by_cases he:a=b
  ·subst he
   cases x <;> cases y <;> simp_all
  ·have:=le_count ht he
   cases x <;> cases y <;> simp_all <;> omega
theorem lvI_fix (rs:List Rec):∀ k,lvI rs k=lvI rs (k+1)∨k+1≤(lvI rs (k+1)).countP id
 | 0=>by
  by_cases h:lvI rs 0=lvI rs 1
  ·exact Or.inl h
  ·have:=le_count (lvI_le rs 0) h
   exact Or.inr (by omega)
 | k+1=>by
  rcases lvI_fix rs k with h | h
  ·exact Or.inl (by show lvN rs (lvI rs k)=lvN rs (lvI rs (k+1));rw [←h])
  ·by_cases he:lvI rs (k+1)=lvI rs (k+2)
   ·exact Or.inl he
   ·have:=le_count (lvI_le rs (k+1)) he
    exact Or.inr (by omega)
theorem lvI_end (rs:List Rec):lvI rs (rs.length+1)=lvN rs (lvI rs (rs.length+1)):=by
 rcases lvI_fix rs (rs.length+1) with h | h
 ·exact h
 ·have:=List.countP_le_length (p:=(id:Bool→Bool)) (l:=lvI rs (rs.length+1+1))
  rw [lvI_len] at this
  omega
theorem lvI_sound (rs:List Rec):∀ k i,∀ (h:i<rs.length) (h':i<(lvI rs k).length),(lvI rs k)[i]=true→Val rs rs[i].name.toList
 | 0,i,h,h',ht=>by simp [lvI] at ht
 | k+1,i,h,h',ht=>by
  simp only [lvI,lvN,List.getElem_map] at ht
  have hT:∀ {t:List Srt},lvT rs (lvI rs k) t=true→hasP (Val rs) t:=by
   intro t hh
   cases t with
   | nil=>cases hh
   | cons x t =>
    unfold lvT at hh
    rw [Bool.or_eq_true] at hh
    refine hh.imp (fun h=>by simpa using h) (fun h=>?_)
    obtain ⟨j,h1,h2,h3,h4⟩:=lvl_iff h
    rw [←h3]
    exact lvI_sound rs k j h1 h2 h4
  refine Val.step (List.getElem_mem h) ?_
  unfold lvR at ht
  cases hc:rs[i].choice
  ·rw [hc] at ht
   simp only [Bool.false_and,Bool.not_false,Bool.true_and,Bool.false_or,List.all_eq_true] at ht
   exact ⟨fun e=>(by rw [hc] at e;cases e),fun _ f hf=>hT (ht f hf)⟩
  ·rw [hc] at ht
   simp only [Bool.true_and,Bool.not_true,Bool.false_and,Bool.or_false,List.any_eq_true] at ht
   obtain ⟨f,hf,h2⟩:=ht
   exact ⟨fun _=>⟨f,hf,hT h2⟩,fun e=>(by rw [hc] at e;cases e)⟩
open Classical in
theorem lvI_val {rs:List Rec} (hd:Dist [] (rs.map (·.name))) {i:Nat} (h:i<rs.length):(lvI rs (rs.length+2))[i]'(by rw [lvI_len];exact h)=valB rs rs[i].name:=by
 have hfix:lvI rs (rs.length+2)=lvI rs (rs.length+1):=(lvI_end rs).symm
 rw [Bool.eq_iff_iff]
 unfold valB
 rw [decide_eq_true_eq]
 refine ⟨fun ht=>lvI_sound rs _ i h _ ht,fun hv=>?_⟩
 have hP:=hv (fun s=>∃ j,∃ (h1:j<rs.length) (h2:j<(lvI rs (rs.length+2)).length),rs[j].name.toList=s∧(lvI rs (rs.length+2))[j]=true) (fun r hr hp=>by
  obtain ⟨j,hj,rfl⟩:=List.getElem_of_mem hr
  refine ⟨j,hj,by rw [lvI_len];exact hj,rfl,?_⟩
  have e:(lvI rs (rs.length+2))[j]'(by rw [lvI_len];exact hj)=lvR rs (lvI rs (rs.length+1)) rs[j]:=by
   simp only [lvI,lvN,List.getElem_map]
  rw [e,←hfix]
  have hT:∀ {t:List Srt},hasP (fun s=>∃ j,∃ (h1:j<rs.length) (h2:j<(lvI rs (rs.length+2)).length),rs[j].name.toList=s∧(lvI rs (rs.length+2))[j]=true) t→lvT rs (lvI rs (rs.length+2)) t=true:=by
   intro t hh
   cases t with
   | nil=>exact hh.elim
   | cons x t =>
    unfold lvT
    rw [Bool.or_eq_true]
    refine hh.imp (fun h=>by simpa using h) (fun ⟨j,h1,h2,h3,h4⟩=>lvl_of hd j h1 h2 h3 h4)
  unfold lvR
  cases hc:rs[j].choice
  ·simp only [Bool.false_and,Bool.not_false,Bool.true_and,Bool.false_or,List.all_eq_true]
   exact fun f hf=>hT (hp.2 hc f hf)
  ·simp only [Bool.true_and,Bool.not_true,Bool.false_and,Bool.or_false,List.any_eq_true]
   obtain ⟨f,hf,h2⟩:=hp.1 hc
   exact ⟨f,hf,hT h2⟩)
 obtain ⟨j,h1,h2,h3,h4⟩:=hP
 have:j=i:=dist_unique hd j i (by simpa using h1) (by simpa using h) (by simpa using h3)
 subst this
 exact h4
/-! The document's tests. -/
def botD (rs:List Rec) (l:List Bool):List Test:=List.zipWith (fun r b=>(b,r.name)) rs l
def isEff (e:ByteArray):Bool:=e.toList==wGive.toList||e.toList==wTake.toList||e.toList==wNote.toList
def contraryB (a b:ByteArray):Bool:=(a.toList==wGive.toList&&b.toList==wTake.toList)||(a.toList==wTake.toList&&b.toList==wGive.toList)||(a.toList==wNote.toList&&b.toList==wNote.toList)
def undoD (m u:Mth):Bool:=u.arg.toList==m.arg.toList&&u.undo.toList.isEmpty&&u.result==1&&contraryB m.effect u.effect
def undoOkD (x:Sch) (rn:ByteArray) (m:Mth):Bool:=match meth x rn m.undo with
 | none=>false
 | some u=>undoD m u
def undosMD (x:Sch) (rn:ByteArray) (m:Mth):List Test:=[(m.undo.toList.isEmpty||undoOkD x rn m,part rn m.name)]
def undosVD (x:Sch) (v:Svc):List Test:=v.methods.flatMap (undosMD x v.name)
def undosD (x:Sch):List Test:=x.services.flatMap (undosVD x)
theorem eff_contrary {e:ByteArray}:isEff e=!(contrary e).toList.isEmpty:=by
 unfold isEff contrary
 by_cases h1:e.toList=wGive.toList
 ·rw [if_pos h1,h1];decide +kernel
 ·rw [if_neg h1]
  by_cases h2:e.toList=wTake.toList
  ·rw [if_pos h2,h2];decide +kernel
  ·rw [if_neg h2]
   by_cases h3:e.toList=wNote.toList
   ·rw [if_pos h3,h3];decide +kernel
   ·rw [if_neg h3]
    simp [h1,h2,h3]
theorem contrary_eff {a b:ByteArray} (h:isEff a=true):contraryB a b=(b.toList==(contrary a).toList):=by
 unfold isEff at h
 unfold contraryB contrary
 by_cases h1:a.toList=wGive.toList
 ·rw [if_pos h1,h1]
  rw [show (wGive.toList==wTake.toList)=false by decide +kernel,show (wGive.toList==wNote.toList)=false by decide +kernel,show (wGive.toList==wGive.toList)=true by decide +kernel]
  simp
 ·rw [if_neg h1]
  by_cases h2:a.toList=wTake.toList
  ·rw [if_pos h2,h2]
   rw [show (wTake.toList==wGive.toList)=false by decide +kernel,show (wTake.toList==wNote.toList)=false by decide +kernel,show (wTake.toList==wTake.toList)=true by decide +kernel]
   simp
  ·rw [if_neg h2]
   by_cases h3:a.toList=wNote.toList
   ·rw [if_pos h3,h3]
    rw [show (wNote.toList==wGive.toList)=false by decide +kernel,show (wNote.toList==wTake.toList)=false by decide +kernel,show (wNote.toList==wNote.toList)=true by decide +kernel]
    simp
   ·simp [h1,h2,h3] at h
theorem undos_eq {x:Sch} (h:∀ t∈effectsT x,t.1=true):undosD x=undosT x:=by
 refine flat_cong fun v hv=>flat_cong fun m hm=>?_
 have he:isEff m.effect=true:=by
  have:=h (!(contrary m.effect).toList.isEmpty&&order x m.arg,part v.name m.name) (by
   unfold effectsT effectsV effectsM
   exact List.mem_flatMap.2 ⟨v,hv,List.mem_flatMap.2 ⟨m,hm,by simp⟩⟩)
  rw [eff_contrary]
  simp only [Bool.and_eq_true] at this
  exact this.1
 unfold undosMD undosM undoOkD undoOk
 cases meth x v.name m.undo with
 | none=>rfl
 | some u =>
  show [(m.undo.toList.isEmpty||undoD m u,_)]=[(m.undo.toList.isEmpty||undoOf m u,_)]
  unfold undoD undoOf
  rw [contrary_eff he]
theorem zip_eq {x:Sch} {l:List Bool}:∀ {rs:List Rec},l.length=rs.length→(∀ i,∀ (h:i<rs.length) (h':i<l.length),l[i]=valB x.records rs[i].name)→botD rs l=rs.flatMap (bottomsR x):=by
 intro rs hl h
 unfold botD
 induction rs generalizing l with
 | nil=>simp
 | cons r rs ih =>
  cases l with
  | nil=>simp at hl
  | cons b l =>
   rw [List.zipWith_cons_cons,List.flatMap_cons,ih (l:=l) (by simpa using hl) (fun i h1 h2=>by have:=h (i+1) (by simp;omega) (by simp;omega);simpa using this)]
   have h0:=h 0 (by simp) (by simp)
   simp only [List.getElem_cons_zero] at h0
   show (b,r.name)::_=[(valB x.records r.name,r.name)]++_
   rw [h0]
   rfl
theorem dblR_dist0 {x:Sch} (h:∀ t∈doublesT x,t.1=true):Dist [] (x.records.map (·.name)):=by
 unfold doublesT at h
 exact (dist_app.1 (dblR_dist.1 h).1).1
theorem bottoms_eq {x:Sch} (h:∀ t∈doublesT x,t.1=true):botD x.records (lvI x.records (x.records.length+2))=bottomsT x :=
 zip_eq (lvI_len _ _) (fun i h1 h2=>lvI_val (dblR_dist0 h) h1)
/-- The document's answer: the first rule that fails. -/
def firstR:List (Option ByteArray × Nat)→ByteArray × Nat
 | []=>(⟨#[]⟩,0)
 | (none,_)::l=>firstR l
 | (some s,e)::_=>(s,e)
def docR (x:Sch):List (Option ByteArray × Nat):=[(firstF (namesT x),120),(firstF (countsT x),135),(firstF (doublesT x),130),(firstF (x.records.flatMap (typesR x)),131),(firstF (x.services.flatMap typesV),131),(firstF (botD x.records (lvI x.records (x.records.length+2))),132),(firstF (effectsT x),134),(firstF (undosD x),133),(firstF (sagasT x),240),(firstF (stepsT x),241),(firstF (waysT x),133)]
def doc (x:Sch):ByteArray × Nat:=firstR (docR x)
theorem first_step (t:List Test) (e:Nat) (l:List (Option ByteArray × Nat)) (m:List Flt) (h:firstF t=none→firstR l=first m):firstR ((firstF t,e)::l)=first (run e t none::m):=by
 rw [run_first]
 cases hf:firstF t with
 | none=>exact h hf
 | some s=>rfl
theorem doc_check (x:Sch):doc x=check x:=by
 unfold doc docR check flts
 refine first_step _ _ _ _ fun h1=>first_step _ _ _ _ fun h2=>first_step _ _ _ _ fun h3=>?_
 have e:firstR ((firstF (x.records.flatMap (typesR x)),131)::(firstF (x.services.flatMap typesV),131)::[(firstF (botD x.records (lvI x.records (x.records.length+2))),132),(firstF (effectsT x),134),(firstF (undosD x),133),(firstF (sagasT x),240),(firstF (stepsT x),241),(firstF (waysT x),133)])=firstR ((firstF (typesT x),131)::[(firstF (botD x.records (lvI x.records (x.records.length+2))),132),(firstF (effectsT x),134),(firstF (undosD x),133),(firstF (sagasT x),240),(firstF (stepsT x),241),(firstF (waysT x),133)]):=by
  unfold typesT
  rw [firstF_app]
  cases firstF (x.records.flatMap (typesR x)) with
  | none=>rfl
  | some s=>rfl
 rw [e]
 refine first_step _ _ _ _ fun h4=>?_
 rw [bottoms_eq (firstF_none.1 h3)]
 refine first_step _ _ _ _ fun h5=>first_step _ _ _ _ fun h6=>?_
 rw [undos_eq (firstF_none.1 h6)]
 exact first_step _ _ _ _ fun h7=>first_step _ _ _ _ fun h8=>first_step _ _ _ _ fun h9=>first_step _ _ _ _ fun h10=>rfl
/-! Rule 3 as the document goes through it. -/
def dblA:List (ByteArray × List ByteArray)→List ByteArray→List Test
 | [],_=>[]
 | (n,ps)::l,seen=>(!seenB seen n,n)::(dblP n ps []++dblA l (seen++[n]))
def declsP (x:Sch):List (ByteArray × List ByteArray):=x.records.map (fun r=>(r.name,r.fields.map (·.name)))++(x.services.map (fun v=>(v.name,v.methods.map (·.name)))++x.sagas.map (fun g=>(g.name,[])))
theorem dblA_G:∀ (gs:List Sag) (seen:List ByteArray),dblA (gs.map (fun g=>(g.name,[]))) seen=dblG gs seen
 | [],_=>rfl
 | g::gs,seen=>by
  show _::(dblP g.name [] []++dblA _ _)=_::dblG gs _
  rw [dblA_G gs]
  rfl
theorem dblA_V:∀ (vs:List Svc) (gs:List Sag) (seen:List ByteArray),dblA (vs.map (fun v=>(v.name,v.methods.map (·.name)))++gs.map (fun g=>(g.name,[]))) seen=dblV vs gs seen
 | [],gs,seen=>dblA_G gs seen
 | v::vs,gs,seen=>by
  show _::(dblP v.name _ []++dblA (vs.map (fun v=>(v.name,v.methods.map (·.name)))++gs.map (fun g=>(g.name,[]))) _)=_::(_++dblV vs gs _)
  rw [dblA_V vs]
theorem dblA_R:∀ (rs:List Rec) (vs:List Svc) (gs:List Sag) (seen:List ByteArray),dblA (rs.map (fun r=>(r.name,r.fields.map (·.name)))++(vs.map (fun v=>(v.name,v.methods.map (·.name)))++gs.map (fun g=>(g.name,[])))) seen=dblR rs vs gs seen
 | [],vs,gs,seen=>dblA_V vs gs seen
 | r::rs,vs,gs,seen=>by
  show _::(dblP r.name _ []++dblA (rs.map (fun r=>(r.name,r.fields.map (·.name)))++(vs.map (fun v=>(v.name,v.methods.map (·.name)))++gs.map (fun g=>(g.name,[])))) _)=_::(_++dblR rs vs gs _)
  rw [dblA_R rs]
theorem doubles_A (x:Sch):dblA (declsP x) []=doublesT x:=dblA_R _ _ _ _
def docV (p:ByteArray × Nat):Value:=.tuple #[.string p.1,.int .i64 (p.2:Int)]
end Chk
end Go.Proofs.YtlbihaikppkecaaGreatDoor
set_option linter.unusedVariables false
set_option linter.unusedSimpArgs false
namespace Go.Proofs.YtlbihaikppkecaaGreatDoor
open Go.RowKit Go.BigFrame
namespace Prn
open Go.Proofs.YtlbihaikppkecaaGreatDoor.Id Go.Proofs.YtlbihaikppkecaaGreatDoor.Chk
theorem flat_le {α β:Type} {f:α→List β} {l:List α} {m:Nat} (h:∀ a∈l,(f a).length≤m):(l.flatMap f).length≤l.length * m:=by
 induction l with
 | nil=>simp
 | cons a l ih =>
  rw [List.flatMap_cons,List.length_append,List.length_cons,Nat.succ_mul]
  have:=h a (by simp)
  have:=ih (fun b hb=>h b (by simp [hb]))
  omega
theorem jl_le {m:Nat}:∀ {l:List ByteArray},(∀ u∈l,u.size≤m)→(jl l).length≤l.length * (m+1)
 | [],h=>by simp [jl]
 | a::l,h=>by
  have h1:a.data.toList.length≤m:=by have:=h a (by simp);simpa using this
  have h2:(l.flatMap fun u=>32::u.data.toList).length≤l.length * (m+1):=flat_le (fun u hu=>by have:=h u (by simp [hu]);simpa using this)
  show (a.data.toList++_).length≤_
  rw [List.length_append,List.length_cons,Nat.succ_mul]
  omega
theorem fld_len {f:Fld} (h:f.type.length≤1000):(fldW f).length≤1003:=by simp [fldW];omega
theorem rec_len {x:Sch} (h:Fine x) {r:Rec} (hr:r∈x.records):(recW r).length≤99301:=by
 obtain ⟨_,h2,h3⟩:=h.re r hr
 have:=flat_le (f:=fldW) (l:=r.fields) (fun f hf=>fld_len (h3 f hf).2.1)
 have h4:r.fields.length * 1003≤99 * 1003:=Nat.mul_le_mul_right _ h2
 simp only [recW,List.length_cons,List.length_append,List.length_nil]
 omega
theorem undo_len (m:Mth):(undoW m).length≤2:=by unfold undoW;split <;> simp
theorem svc_len {x:Sch} (h:Fine x) {v:Svc} (hv:v∈x.services):(svcW v).length≤99301:=by
 obtain ⟨_,h2,_⟩:=h.sv v hv
 have:=flat_le (f:=mthW) (l:=v.methods) (m:=10) (fun m _=>by have:=undo_len m;simp [mthW];omega)
 have h4:v.methods.length * 10≤99 * 10:=Nat.mul_le_mul_right _ h2
 simp only [svcW,List.length_cons,List.length_append,List.length_nil]
 omega
theorem sag_len {x:Sch} (h:Fine x) {g:Sag} (hg:g∈x.sagas):(sagW g).length≤99301:=by
 obtain ⟨_,h2,_⟩:=h.sa g hg
 have:=flat_le (f:=stpW) (l:=g.steps) (m:=7) (fun m _=>by simp [stpW])
 have h4:g.steps.length * 7≤99 * 7:=Nat.mul_le_mul_right _ h2
 simp only [sagW,List.length_cons,List.length_append,List.length_nil]
 omega
theorem sch_len {x:Sch} (h:Fine x):(schW x).length≤297903003:=by
 have h1:=flat_le (f:=recW) (fun r hr=>rec_len h hr)
 have h2:=flat_le (f:=svcW) (fun r hr=>svc_len h hr)
 have h3:=flat_le (f:=sagW) (fun r hr=>sag_len h hr)
 have k1:x.records.length * 99301≤1000 * 99301:=Nat.mul_le_mul_right _ h.recs
 have k2:x.services.length * 99301≤1000 * 99301:=Nat.mul_le_mul_right _ h.svcs
 have k3:x.sagas.length * 99301≤1000 * 99301:=Nat.mul_le_mul_right _ h.sags
 simp only [schW,List.length_cons,List.length_append]
 omega
theorem sch_size {x:Sch} (h:Right x):∀ u∈schW x,u.size≤32:=by
 have:=owns_size (owns_sch (ok_of_right h))
 rwa [sch_tx] at this
theorem sch_jl {x:Sch} (h:Right x) (hF:Fine x):(jl (schW x)).length≤9830799099:=by
 have h1:=jl_le (sch_size h)
 have h2:(schW x).length * (32+1)≤297903003 * (32+1):=Nat.mul_le_mul_right _ (sch_len hF)
 omega
theorem sch_steps {x:Sch} (h:Right x) {g:Sag} (hg:g∈x.sagas):∀ p∈g.steps,0≤p.at_∧p.at_<100:=fun p hp=>by
 have:=(ok_of_right h).gs g hg p hp
 exact ⟨this.lo,by have:=this.hi;omega⟩
/-- A schema's text, or why there is none. -/
noncomputable def text (x:Sch):ByteArray × Nat:=if (check x).2≠0 then (⟨#[]⟩,(check x).2) else if 65536<(jn (schW x)).size then (⟨#[]⟩,3) else (jn (schW x),0)
theorem text_size (x:Sch):(text x).1.size≤65536:=by
 unfold text
 split
 ·exact Nat.zero_le _
 ·split
  ·exact Nat.zero_le _
  next h=>show (jn (schW x)).size≤65536;omega
noncomputable def print (x:Sch):Nat × Nat:=if (text x).2≠0 then (0,(text x).2) else (Sm.print (text x).1.data.toList,0)
end Prn
set_option maxRecDepth 100000 in
set_option maxHeartbeats 16000000 in
theorem pText_any (v:Value) (x:Id.Sch) (hF:Chk.Fine x) (w:World) (hk:Tk.KW w) (hv:Id.SchV w none v x) :
  Calls Tryz.prog 52 #[v] w fun e w'=>e=.returned (Chk.docV (Prn.text x))∧Below w.heap.size w w':=by
 obtain ⟨R,HR⟩:∃ R,Hid (Prn.text x=R):=⟨_,Lib.hid rfl⟩
 rw [HR.out]
 have HF:=Lib.hid hF
 have HKW:=Lib.hid hk
 have HV:=Lib.hid hv
 obtain ⟨A1,n1,c1,A2,n2,c2,A3,n3,c3,rfl,r1,r2,r3⟩:=hv
 have HN1:Hid (n1=x.records.length):=Lib.hid (by obtain ⟨_,_,e,_⟩:=ERow.slice r1;injection e)
 have hm1:n1≤9223372036854775807:=by obtain ⟨_,_,e,_,_⟩:=ERow.slice r1;injection e;omega
 have H1:=Lib.hid r1
 have HN2:Hid (n2=x.services.length):=Lib.hid (by obtain ⟨_,_,e,_⟩:=ERow.slice r2;injection e)
 have hm2:n2≤9223372036854775807:=by obtain ⟨_,_,e,_,_⟩:=ERow.slice r2;injection e;omega
 have H2:=Lib.hid r2
 have HN3:Hid (n3=x.sagas.length):=Lib.hid (by obtain ⟨_,_,e,_⟩:=ERow.slice r3;injection e)
 have hm3:n3≤9223372036854775807:=by obtain ⟨_,_,e,_,_⟩:=ERow.slice r3;injection e;omega
 have H3:=Lib.hid r3
 clear r1 r2 r3 hk hF
 go_enter Tryz.func52,Tryz.ntmps52
 go_upto_region 1 with (fail)
 refine wp_named (fun V hV=>?_)
 have HL:=Lib.hid (Chk.Lx.start hV)
 clear hV
 obtain ⟨⟨q0,q1,q2,q3⟩,-⟩:=HL.out.box.k4
 obtain ⟨p,Hp⟩:∃ p,Hid (Chk.check x=p):=⟨_,Lib.hid rfl⟩
 go_wp2_with fail
 refine (ccheck_any _ x HF.out _ (HKW.out.below HL.out.bel) (Id.SchV.below HL.out.bel HV.out)).mono ?_
 rw [Hp.out]
 rintro e W1 ⟨rfl,hb⟩
 have HLx:=Lib.hid (HL.out.below hb)
 clear HL hb q0 q1 q2 q3
 obtain ⟨ps,pe⟩:=p
 simp only
 by_cases hpe:pe=0
 case neg =>
  have HE:Hid (R=(⟨#[]⟩,pe)):=Lib.hid (by rw [←HR.out];unfold Prn.text;rw [Hp.out,if_pos hpe])
  have t1:((pe:Int) != 0)=true:=by rw [bne_iff_ne];omega
  have t2:¬(pe:Int)=0:=by omega
  have t3:((pe:Int)==0)=false:=by rw [beq_eq_false_iff_ne];omega
  clear hpe
  go_wp2_with fail
  go_ret2
  exact ⟨by rw [HE.out];rfl,HLx.out.bel⟩
 subst hpe
 have hRt:=Chk.check_ok (x:=x) (by rw [Hp.out])
 have HRt:=Lib.hid hRt
 have HRR:Hid ((if 65536<(Prn.jn (Prn.schW x)).size then ((⟨#[]⟩:ByteArray),3) else (Prn.jn (Prn.schW x),0))=R):=Lib.hid (by rw [←HR.out];unfold Prn.text;rw [Hp.out];exact (if_neg (by simp)).symm)
 have HJL:=Lib.hid (Prn.sch_jl hRt HF.out)
 have HLEN:=Lib.hid (Prn.sch_len HF.out)
 clear hRt HR Hp
 obtain ⟨⟨q0,q1,q2,q3⟩,-⟩:=HLx.out.box.k4
 have bq:=HLx.out.bel.size
 go_upto_region 5 with (fail)
 refine wp_named (fun W2 hW=>?_)
 obtain ⟨hbx,hqx,-⟩:=fresh_box hW
 have HBX:=Lib.hid (HLx.out.box.below hbx HLx.out.box.lt)
 have hb2:=HLx.out.bel.trans (hbx.mono bq)
 have hwr:Prn.Wr W2 w.heap.size W1.heap.size []:=⟨bq,hb2.size,_,hqx,ERow.nil _ _ _ _ _⟩
 have HP:=Lib.hid (Prn.Put.start hb2 hwr)
 clear hW hbx hqx hb2 hwr HLx q0 q1 q2 q3
 obtain ⟨⟨q0,q1,q2,q3⟩,-⟩:=HBX.out.k4
 have HSW:Hid (Prn.schW x=[Id.wModule,x.name,Id.sSemi]++x.records.flatMap Prn.recW++x.services.flatMap Prn.svcW++x.sagas.flatMap Prn.sagW):=Lib.hid (by simp [Prn.schW])
 have hlen:(x.records.flatMap Prn.recW).length+(x.services.flatMap Prn.svcW).length+(x.sagas.flatMap Prn.sagW).length+3≤297903003:=by have h:=HLEN.out;rw [HSW.out] at h;simp only [List.length_append,List.length_cons,List.length_nil] at h;omega
 have HBX2:=HBX
 go_wp2_with fail
 refine (pwput_lit W1.heap.size [] [Id.wModule,x.name,Id.sSemi] 3 #[.string Id.wModule,.string x.name,.string Id.sSemi] rfl rfl w W2 _ _ HP.out (by simp)).mono ?_
 rintro e W3 ⟨rfl,hp⟩
 have HP3:=Lib.hid hp
 have hbx3:=hp.on.bk HBX2.out (by decide) (by decide)
 clear hp HP q0 q1 q2 q3
 have HBX:=Lib.hid hbx3
 clear hbx3
 obtain ⟨⟨q0,q1,q2,q3⟩,-⟩:=HBX.out.k4
 go_wp2_with fail
 go_loopw [32] (fun i wr=>∃ (k:Nat),k≤n1∧i=.int .i64 k∧Hid (Prn.Put w W2 W1.heap.size [] ([Id.wModule,x.name,Id.sSemi]++(x.records.take k).flatMap Prn.recW) wr)) (fun i _=>n1 - (intOf i).toNat)
 case atStart=>exact ⟨0,by omega,rfl,HP3⟩
 case round =>
  clear q0 q1 q2 q3 HP3 HBX
  obtain ⟨k,hk,rfl,HP⟩:=hrel
  obtain ⟨V1,rfl⟩:∃ w',w'=wr:=⟨_,rfl⟩
  have ik0:(0:Int)≤(k:Int):=by omega
  have HBX:=Lib.hid (HP.out.on.bk HBX2.out (by decide) (by decide))
  obtain ⟨⟨q0,q1,q2,q3⟩,-⟩:=HBX.out.k4
  by_cases hlt:k<n1
  case neg =>
   have HPn:Hid (Prn.Put w W2 W1.heap.size [] ([Id.wModule,x.name,Id.sSemi]++x.records.flatMap Prn.recW) V1):=Lib.hid (by have h:=HP.out;rw [List.take_of_length_le (by have:=HN1.out;omega)] at h;exact h)
   clear HP
   go_wp2_with fail
   go_loopw [43] (fun i wr=>∃ (k:Nat),k≤n2∧i=.int .i64 k∧Hid (Prn.Put w W2 W1.heap.size [] ([Id.wModule,x.name,Id.sSemi]++x.records.flatMap Prn.recW++(x.services.take k).flatMap Prn.svcW) wr)) (fun i _=>n2 - (intOf i).toNat)
   case atStart=>exact ⟨0,by omega,rfl,Lib.hid (HPn.out.cast (by rw [List.take_zero,List.flatMap_nil,List.append_nil]))⟩
   case round =>
    clear q0 q1 q2 q3 HPn HBX
    obtain ⟨k,hk,rfl,HP⟩:=hrel
    obtain ⟨V1,rfl⟩:∃ w',w'=wr:=⟨_,rfl⟩
    have ik0:(0:Int)≤(k:Int):=by omega
    have HBX:=Lib.hid (HP.out.on.bk HBX2.out (by decide) (by decide))
    obtain ⟨⟨q0,q1,q2,q3⟩,-⟩:=HBX.out.k4
    by_cases hlt:k<n2
    case neg =>
     have HPn:Hid (Prn.Put w W2 W1.heap.size [] ([Id.wModule,x.name,Id.sSemi]++x.records.flatMap Prn.recW++x.services.flatMap Prn.svcW) V1):=Lib.hid (by have h:=HP.out;rw [List.take_of_length_le (by have:=HN2.out;omega)] at h;exact h)
     clear HP
     go_wp2_with fail
     go_loopw [54] (fun i wr=>∃ (k:Nat),k≤n3∧i=.int .i64 k∧Hid (Prn.Put w W2 W1.heap.size [] ([Id.wModule,x.name,Id.sSemi]++x.records.flatMap Prn.recW++x.services.flatMap Prn.svcW++(x.sagas.take k).flatMap Prn.sagW) wr)) (fun i _=>n3 - (intOf i).toNat)
     case atStart=>exact ⟨0,by omega,rfl,Lib.hid (HPn.out.cast (by rw [List.take_zero,List.flatMap_nil,List.append_nil]))⟩
     case round =>
      clear q0 q1 q2 q3 HPn HBX
      obtain ⟨k,hk,rfl,HP⟩:=hrel
      obtain ⟨V1,rfl⟩:∃ w',w'=wr:=⟨_,rfl⟩
      have ik0:(0:Int)≤(k:Int):=by omega
      have HBX:=Lib.hid (HP.out.on.bk HBX2.out (by decide) (by decide))
      obtain ⟨⟨q0,q1,q2,q3⟩,-⟩:=HBX.out.k4
      by_cases hlt:k<n3
      case neg =>
       have HPn:Hid (Prn.Put w W2 W1.heap.size [] ([Id.wModule,x.name,Id.sSemi]++x.records.flatMap Prn.recW++x.services.flatMap Prn.svcW++x.sagas.flatMap Prn.sagW) V1):=Lib.hid (by have h:=HP.out;rw [List.take_of_length_le (by have:=HN3.out;omega)] at h;exact h)
       clear HP
       have HPz:Hid (Prn.Put w W2 W1.heap.size [] (Prn.schW x) V1):=Lib.hid (HPn.out.cast HSW.out.symm)
       clear HPn
       go_wp2_with fail
       refine (pwtext_any W1.heap.size (Prn.schW x) w.heap.size V1 (by have h:=HPz.out.wr;rw [List.nil_append] at h;exact h) (by have:=HLEN.out;omega) (by have:=HJL.out;omega)).mono ?_
       rintro e V9 ⟨rfl,hb9⟩
       have HJ9:Hid (V9=V9):=Lib.hid rfl
       have HB9:=Lib.hid (HPz.out.bel.trans (hb9.mono HPz.out.bel.size))
       generalize Prn.jn (Prn.schW x)=J at *
       clear hb9
       by_cases h6:65536<J.size
       case pos =>
        have HE:Hid (R=(⟨#[]⟩,3)):=Lib.hid (by rw [←HRR.out,if_pos h6])
        have h6i:(65536:Int)<(J.size:Int):=by omega
        go_wp2_with fail
        go_ret2
        exact ⟨by rw [HE.out];rfl,HB9.out⟩
       have HE:Hid (R=(J,0)):=Lib.hid (by rw [←HRR.out,if_neg h6])
       have h6i:¬(65536:Int)<(J.size:Int):=by omega
       go_wp2_with fail
       go_ret2
       exact ⟨by rw [HE.out];rfl,HB9.out⟩
      have hka:k<x.sagas.length:=by rw [←HN3.out];exact hlt
      have hmem:=List.getElem_mem hka
      have hfl:=Prn.flat_take_le Prn.sagW hka
      have HTK:=Lib.hid (Prn.take_flat Prn.sagW hka)
      obtain ⟨g1,off1,cs,rfl,-,⟨u,he,HU⟩,hc⟩:=ERow.get H3.out hka (by omega)
      have HATS:=Lib.hid (Prn.sch_steps HRt.out hmem)
      obtain ⟨r,Hr⟩:∃ r,Hid (x.sagas[k]=r):=⟨_,Lib.hid rfl⟩
      rw [Hr.out] at he HU hfl HTK HATS
      subst he
      have HU5:=Lib.hid HU
      obtain ⟨A5,n5,c5,rfl⟩:=ERow.is HU
      have b0:=hc 0 _ rfl
      have b1:=hc 1 _ rfl
      have b2:=hc 2 _ rfl
      simp only [Nat.add_zero] at b0
      have hgl1:g1<w.heap.size:=World.block_lt_of_cell? w _ b0
      have b0:=(HP.out.bel.cell hgl1).trans b0
      have b1:=(HP.out.bel.cell hgl1).trans b1
      have b2:=(HP.out.bel.cell hgl1).trans b2
      have bqs:=HP.out.bel.size
      have hgne:¬g1=V1.heap.size:=by omega
      have ik1:(k:Int)<(n3:Int):=by omega
      generalize hM:((x.sagas.take k).flatMap Prn.sagW).length=m at hfl
      have HM:=Lib.hid hM
      generalize hM2:(Prn.sagW r).length=m2 at hfl
      have HM2:=Lib.hid hM2
      clear hc HU hM hM2 Hr bqs hmem
      go_upto_region 19 with (fail)
      refine wp_named (fun V2 hW=>?_)
      obtain ⟨hbx,hqx,-⟩:=fresh_box hW
      have HPc:=Lib.hid (HP.out.below hbx)
      obtain ⟨⟨d0,d1,d2⟩,-⟩:=hqx.k3
      clear hW hbx hqx HP q0 q1 q2 q3 b0 b1 b2
      go_wp2_with fail
      refine (pwsaga_any W1.heap.size _ r _ w V2 HPc.out.bel HPc.out.wr HU5.out HATS.out (by simp only [List.length_append,List.length_cons,List.length_nil,HM.out,HM2.out];omega)).mono ?_
      rintro e V3 ⟨rfl,hp⟩
      have HPg:Hid (Prn.Put w W2 W1.heap.size [] ([Id.wModule,x.name,Id.sSemi]++x.records.flatMap Prn.recW++x.services.flatMap Prn.svcW++(x.sagas.take (k+1)).flatMap Prn.sagW) V3):=Lib.hid ((HPc.out.step hp).cast (by rw [HTK.out];simp only [List.append_assoc,List.nil_append]))
      clear hp
      go_wp2_with fail
      go_roundw
      case rel=>exact ⟨k+1,by omega,by go_num,HPg⟩
      case measure=>simp [intOf] <;> omega
    have hka:k<x.services.length:=by rw [←HN2.out];exact hlt
    have hmem:=List.getElem_mem hka
    have hfl:=Prn.flat_take_le Prn.svcW hka
    have HTK:=Lib.hid (Prn.take_flat Prn.svcW hka)
    obtain ⟨g1,off1,cs,rfl,-,⟨u,he,HU⟩,hc⟩:=ERow.get H2.out hka (by omega)
    obtain ⟨r,Hr⟩:∃ r,Hid (x.services[k]=r):=⟨_,Lib.hid rfl⟩
    rw [Hr.out] at he HU hfl HTK
    subst he
    have HU5:=Lib.hid HU
    obtain ⟨A5,n5,c5,rfl⟩:=ERow.is HU
    have b0:=hc 0 _ rfl
    have b1:=hc 1 _ rfl
    simp only [Nat.add_zero] at b0
    have hgl1:g1<w.heap.size:=World.block_lt_of_cell? w _ b0
    have b0:=(HP.out.bel.cell hgl1).trans b0
    have b1:=(HP.out.bel.cell hgl1).trans b1
    have bqs:=HP.out.bel.size
    have hgne:¬g1=V1.heap.size:=by omega
    have ik1:(k:Int)<(n2:Int):=by omega
    generalize hM:((x.services.take k).flatMap Prn.svcW).length=m at hfl
    have HM:=Lib.hid hM
    generalize hM2:(Prn.svcW r).length=m2 at hfl
    have HM2:=Lib.hid hM2
    clear hc HU hM hM2 Hr bqs hmem
    go_upto_region 14 with (fail)
    refine wp_named (fun V2 hW=>?_)
    obtain ⟨hbx,hqx,-⟩:=fresh_box hW
    have HPc:=Lib.hid (HP.out.below hbx)
    obtain ⟨⟨d0,d1⟩,-⟩:=hqx.k2
    clear hW hbx hqx HP q0 q1 q2 q3 b0 b1
    go_wp2_with fail
    refine (pwservice_any W1.heap.size _ r _ w V2 HPc.out.bel HPc.out.wr HU5.out (by simp only [List.length_append,List.length_cons,List.length_nil,HM.out,HM2.out];omega)).mono ?_
    rintro e V3 ⟨rfl,hp⟩
    have HPg:Hid (Prn.Put w W2 W1.heap.size [] ([Id.wModule,x.name,Id.sSemi]++x.records.flatMap Prn.recW++(x.services.take (k+1)).flatMap Prn.svcW) V3):=Lib.hid ((HPc.out.step hp).cast (by rw [HTK.out];simp only [List.append_assoc,List.nil_append]))
    clear hp
    go_wp2_with fail
    go_roundw
    case rel=>exact ⟨k+1,by omega,by go_num,HPg⟩
    case measure=>simp [intOf] <;> omega
  have hka:k<x.records.length:=by rw [←HN1.out];exact hlt
  have hmem:=List.getElem_mem hka
  have hfl:=Prn.flat_take_le Prn.recW hka
  have HTK:=Lib.hid (Prn.take_flat Prn.recW hka)
  obtain ⟨g1,off1,cs,rfl,-,⟨u,he,HU⟩,hc⟩:=ERow.get H1.out hka (by omega)
  obtain ⟨r,Hr⟩:∃ r,Hid (x.records[k]=r):=⟨_,Lib.hid rfl⟩
  rw [Hr.out] at he HU hfl HTK
  subst he
  have HU5:=Lib.hid HU
  obtain ⟨A5,n5,c5,rfl⟩:=ERow.is HU
  have b0:=hc 0 _ rfl
  have b1:=hc 1 _ rfl
  have b2:=hc 2 _ rfl
  simp only [Nat.add_zero] at b0
  have hgl1:g1<w.heap.size:=World.block_lt_of_cell? w _ b0
  have b0:=(HP.out.bel.cell hgl1).trans b0
  have b1:=(HP.out.bel.cell hgl1).trans b1
  have b2:=(HP.out.bel.cell hgl1).trans b2
  have bqs:=HP.out.bel.size
  have hgne:¬g1=V1.heap.size:=by omega
  have ik1:(k:Int)<(n1:Int):=by omega
  generalize hM:((x.records.take k).flatMap Prn.recW).length=m at hfl
  have HM:=Lib.hid hM
  generalize hM2:(Prn.recW r).length=m2 at hfl
  have HM2:=Lib.hid hM2
  clear hc HU hM hM2 Hr bqs hmem
  go_upto_region 9 with (fail)
  refine wp_named (fun V2 hW=>?_)
  obtain ⟨hbx,hqx,-⟩:=fresh_box hW
  have HPc:=Lib.hid (HP.out.below hbx)
  obtain ⟨⟨d0,d1,d2⟩,-⟩:=hqx.k3
  clear hW hbx hqx HP q0 q1 q2 q3 b0 b1 b2
  go_wp2_with fail
  refine (pwrecord_any W1.heap.size _ r _ w V2 HPc.out.bel HPc.out.wr HU5.out (by simp only [List.length_append,List.length_cons,List.length_nil,HM.out,HM2.out];omega)).mono ?_
  rintro e V3 ⟨rfl,hp⟩
  have HPg:Hid (Prn.Put w W2 W1.heap.size [] ([Id.wModule,x.name,Id.sSemi]++(x.records.take (k+1)).flatMap Prn.recW) V3):=Lib.hid ((HPc.out.step hp).cast (by rw [HTK.out];simp only [List.append_assoc,List.nil_append]))
  clear hp
  go_wp2_with fail
  go_roundw
  case rel=>exact ⟨k+1,by omega,by go_num,HPg⟩
  case measure=>simp [intOf] <;> omega
set_option maxRecDepth 100000 in
set_option maxHeartbeats 8000000 in
theorem pPrint_any (v:Value) (x:Id.Sch) (hF:Chk.Fine x) (w:World) (hk:Tk.KW w) (hv:Id.SchV w none v x) :
  Calls Tryz.prog 41 #[v] w fun e w'=>e=.returned (.tuple #[.int .u64 (Prn.print x).1,.int .i64 (Prn.print x).2])∧Below w.heap.size w w':=by
 obtain ⟨R,HR⟩:∃ R,Hid (Prn.print x=R):=⟨_,Lib.hid rfl⟩
 rw [HR.out]
 have HF:=Lib.hid hF
 have HKW:=Lib.hid hk
 have HV:=Lib.hid hv
 obtain ⟨A1,n1,c1,A2,n2,c2,A3,n3,c3,rfl,r1,r2,r3⟩:=hv
 clear r1 r2 r3 hk hF
 go_enter Tryz.func41,Tryz.ntmps41
 go_upto_region 1 with (fail)
 refine wp_named (fun V hV=>?_)
 have HL:=Lib.hid (Chk.Lx.start hV)
 clear hV
 obtain ⟨⟨q0,q1,q2,q3⟩,-⟩:=HL.out.box.k4
 have hts:=Prn.text_size x
 obtain ⟨p,Hp⟩:∃ p,Hid (Prn.text x=p):=⟨_,Lib.hid rfl⟩
 rw [Hp.out] at hts
 go_wp2_with fail
 refine (pText_any _ x HF.out _ (HKW.out.below HL.out.bel) (Id.SchV.below HL.out.bel HV.out)).mono ?_
 rw [Hp.out]
 unfold Chk.docV
 rintro e W1 ⟨rfl,hb⟩
 have HB:=Lib.hid (HL.out.bel.trans (hb.mono HL.out.bel.size))
 clear HL hb q0 q1 q2 q3
 obtain ⟨ps,pe⟩:=p
 simp only at hts ⊢
 by_cases hpe:pe=0
 case neg =>
  have HE:Hid (R=(0,pe)):=Lib.hid (by rw [←HR.out];unfold Prn.print;rw [Hp.out,if_pos hpe])
  have t1:((pe:Int) != 0)=true:=by rw [bne_iff_ne];omega
  have t2:¬(pe:Int)=0:=by omega
  have t3:((pe:Int)==0)=false:=by rw [beq_eq_false_iff_ne];omega
  clear hpe
  go_wp2_with fail
  go_ret2
  exact ⟨by rw [HE.out];rfl,HB.out⟩
 subst hpe
 have HE:Hid (R=(Sm.print ps.data.toList,0)):=Lib.hid (by rw [←HR.out];unfold Prn.print;rw [Hp.out,if_neg (by simp)])
 go_wp2_with fail
 refine (long_any ps (by unfold maxLen;omega) _).mono ?_
 rintro e W2 ⟨rfl,rfl⟩
 go_wp2_with fail
 go_ret2
 exact ⟨by rw [HE.out];rfl,HB.out⟩
end Go.Proofs.YtlbihaikppkecaaGreatDoor
