/- check, plain: a right schema is right without its last saga, and with its records turned about. No condition. -/
import Derived.Test.YtjfdohhdkdjifaaGreatDoorPE14
import Derived.Test.YtjfdohhdkdjifaaGreatDoorPE15
import Derived.Test.YtjfdohhdkdjifaaGreatDoorPE06
import Derived.Test.YtjfdohhdkdjifaaGreatDoorPE13
import Derived.Test.YtjfdohhdkdjifaaGreatDoorPE03
set_option linter.unusedVariables false
set_option linter.unusedSimpArgs false
namespace Go.Proofs.YtjfdohhdkdjifaaGreatDoor
namespace Chk
open Go.Proofs.YtjfdohhdkdjifaaGreatDoor.Id
def apart (a b:ByteArray):Prop:=(a.toList==b.toList)=false
end Chk
end Go.Proofs.YtjfdohhdkdjifaaGreatDoor
set_option linter.unusedVariables false
set_option linter.unusedSimpArgs false
namespace Go.Proofs.YtjfdohhdkdjifaaGreatDoor
open Go.RowKit Go.BigFrame
/-- Within a law over a schema: its box, what lay there. -/
structure Chk.Lx (w wr:World) (S:Array Value):Prop where
 bel:Below w.heap.size w wr
 box:Bk wr w.heap.size 28 S
theorem Chk.Lx.below {w wr w':World} {S:Array Value} (h:Chk.Lx w wr S) (hb:Below wr.heap.size wr w'):Chk.Lx w w' S:=⟨h.bel.trans (hb.mono h.bel.size),h.box.below hb h.box.lt⟩
theorem Chk.Lx.start {w wr:World} {S:Array Value} (h:wr=w.alloc (.cells S 28)):Chk.Lx w wr S:=by
 subst h
 exact ⟨(Below.refl _ _).alloc (Nat.le_refl _) _,Bk.new _ _ _⟩
theorem Chk.Lx.only {w wr w':World} {S:Array Value} {e:TypeId} (h:Chk.Lx w wr S) (hb:Below w.heap.size wr w') (ho:Only e wr w') (he:28≠e):Chk.Lx w w' S:=⟨h.bel.trans hb,ho.bk h.box he⟩
end Go.Proofs.YtjfdohhdkdjifaaGreatDoor
set_option linter.unusedVariables false
set_option linter.unusedSimpArgs false
namespace Go.Proofs.YtjfdohhdkdjifaaGreatDoor
namespace Chk
open Go.Proofs.YtjfdohhdkdjifaaGreatDoor.Id
/-- The first test that fails. -/
def firstF:List Test→Option ByteArray
 | []=>none
 | t::l=>if t.1=true then firstF l else some t.2
theorem firstF_t {b:Bool} {s:ByteArray} {l:List Test} (h:b=true):firstF ((b,s)::l)=firstF l:=by
 show (if b=true then firstF l else some s)=_
 rw [if_pos h]
theorem firstF_f {b:Bool} {s:ByteArray} {l:List Test} (h:b=false):firstF ((b,s)::l)=some s:=by
 show (if b=true then firstF l else some s)=_
 rw [if_neg (by rw [h];decide)]
theorem firstF_app:∀ (a b:List Test),firstF (a++b)=match firstF a with | none=>firstF b | some s=>some s
 | [],b=>rfl
 | (c,s)::l,b=>by
  cases c
  ·rfl
  ·exact firstF_app l b
theorem run_first (e:Nat):∀ l:List Test,run e l none=(firstF l).map fun s=>(s,e)
 | []=>rfl
 | (c,s)::l=>by
  show run e l (at_ c s e none)=_
  cases c
  ·rw [show at_ false s e none=some (s,e) from rfl,run_some]
   rfl
  ·exact run_first e l
theorem firstF_none {l:List Test}:firstF l=none↔∀ t∈l,t.1=true:=by
 rw [←run_none (e:=0),run_first]
 cases firstF l <;> simp
theorem flat_cong {α β:Type} {l:List α} {f g:α→List β} (h:∀ a∈l,f a=g a):l.flatMap f=l.flatMap g:=by
 induction l with
 | nil=>rfl
 | cons a l ih =>
  rw [List.flatMap_cons,List.flatMap_cons,h a (by simp),ih (fun b hb=>h b (by simp [hb]))]
/-! Levels. -/
def lvl (rs:List Rec) (l:List Bool) (n:ByteArray):Bool:=match rs,l with
 | r::rs,b::l=>if r.name.toList==n.toList then b else lvl rs l n
 | _,_=>false
def lvT (rs:List Rec) (l:List Bool) (t:List Srt):Bool:=match t with
 | []=>false
 | x::_=>x.kind != 7||lvl rs l x.name
def lvR (rs:List Rec) (l:List Bool) (r:Rec):Bool:=(r.choice&&r.fields.any fun f=>lvT rs l f.type)||(!r.choice&&r.fields.all fun f=>lvT rs l f.type)
def lvN (rs:List Rec) (l:List Bool):List Bool:=rs.map (lvR rs l)
def lvI (rs:List Rec):Nat→List Bool
 | 0=>List.replicate rs.length false
 | k+1=>lvN rs (lvI rs k)
theorem lvI_len (rs:List Rec) (k:Nat):(lvI rs k).length=rs.length:=by
 cases k <;> simp [lvI,lvN]
theorem lvl_iff:∀ {rs:List Rec} {l:List Bool} {n:ByteArray},lvl rs l n=true→∃ i,∃ (h:i<rs.length) (h':i<l.length),rs[i].name.toList=n.toList∧l[i]=true
 | [],l,n,h=>by unfold lvl at h;cases h
 | r::rs,[],n,h=>by unfold lvl at h;cases h
 | r::rs,b::l,n,h=>by
  unfold lvl at h
  split at h
  next hn=>exact ⟨0,by simp,by simp,by simpa using hn,h⟩
  next hn =>
   obtain ⟨i,h1,h2,h3,h4⟩:=lvl_iff h
   exact ⟨i+1,by simp;omega,by simp;omega,by simpa using h3,by simpa using h4⟩
theorem lvl_of:∀ {rs:List Rec} {l:List Bool} {n:ByteArray} {seen:List ByteArray},Dist seen (rs.map (·.name))→∀ i,∀ (h:i<rs.length) (h':i<l.length),rs[i].name.toList=n.toList→l[i]=true→lvl rs l n=true
 | [],l,n,seen,hd,i,h,h',hn,hl=>absurd h (by simp)
 | r::rs,[],n,seen,hd,i,h,h',hn,hl=>absurd h' (by simp)
 | r::rs,b::l,n,seen,hd,0,h,h',hn,hl=>by
  unfold lvl
  rw [if_pos (by simpa using hn)]
  exact hl
 | r::rs,b::l,n,seen,hd,i+1,h,h',hn,hl=>by
  have hd':seenB seen r.name=false∧Dist (seen++[r.name]) (rs.map (·.name)):=hd
  have hi:i<rs.length:=by simpa using h
  have hne:¬(r.name.toList==n.toList)=true:=by
   intro he
   have hk:=dist_not hd'.2 (a:=rs[i].name) (List.mem_map.2 ⟨rs[i],List.getElem_mem hi,rfl⟩)
   rw [seen_more] at hk
   have e1:rs[i].name.toList=n.toList:=by simpa using hn
   have e2:r.name.toList=n.toList:=by simpa using he
   rw [e1,e2] at hk
   simp at hk
  unfold lvl
  rw [if_neg hne]
  exact lvl_of hd'.2 i hi (by simpa using h') (by simpa using hn) (by simpa using hl)
theorem dist_unique:∀ {l:List ByteArray} {seen:List ByteArray},Dist seen l→∀ i j,∀ (hi:i<l.length) (hj:j<l.length),l[i].toList=l[j].toList→i=j
 | [],_,_,i,j,hi,_,_=>absurd hi (by simp)
 | a::l,seen,hd,0,0,_,_,_=>rfl
 | a::l,seen,hd,0,j+1,_,hj,he=>by
  have hd':seenB seen a=false∧Dist (seen++[a]) l:=hd
  have hj':j<l.length:=by simpa using hj
  have hk:=dist_not hd'.2 (a:=l[j]) (List.getElem_mem hj')
  rw [seen_more] at hk
  have e:a.toList=l[j].toList:=by simpa using he
  rw [e] at hk
  simp at hk
 | a::l,seen,hd,i+1,0,hi,_,he=>by
  have hd':seenB seen a=false∧Dist (seen++[a]) l:=hd
  have hj':i<l.length:=by simpa using hi
  have hk:=dist_not hd'.2 (a:=l[i]) (List.getElem_mem hj')
  rw [seen_more] at hk
  have e:l[i].toList=a.toList:=by simpa using he
  rw [e] at hk
  simp at hk
 | a::l,seen,hd,i+1,j+1,hi,hj,he=>by
  have hd':seenB seen a=false∧Dist (seen++[a]) l:=hd
  rw [dist_unique hd'.2 i j (by simpa using hi) (by simpa using hj) (by simpa using he)]
/-- Pointwise. -/
def Le (a b:List Bool):Prop:=a.length=b.length∧∀ i,∀ (h:i<a.length) (h':i<b.length),a[i]=true→b[i]=true
theorem lvl_mono:∀ {rs:List Rec} {a b:List Bool} {n:ByteArray},Le a b→lvl rs a n=true→lvl rs b n=true
 | [],a,b,n,_,h=>by unfold lvl at h;cases h
 | r::rs,[],b,n,_,h=>by unfold lvl at h;cases h
 | r::rs,x::a,[],n,hl,h=>by have:=hl.1;simp at this
 | r::rs,x::a,y::b,n,hl,h=>by
  unfold lvl at h ⊢
  split at h
  next hn=>rw [if_pos hn];exact hl.2 0 (by simp) (by simp) h
  next hn =>
   rw [if_neg hn]
   refine lvl_mono ⟨by have:=hl.1;simpa using this,fun i h1 h2 h3=>?_⟩ h
   have:=hl.2 (i+1) (by simp;omega) (by simp;omega) (by simpa using h3)
   simpa using this
theorem lvT_mono {rs:List Rec} {a b:List Bool} (h:Le a b) {t:List Srt} (ht:lvT rs a t=true):lvT rs b t=true:=by
 cases t with
 | nil=>exact ht
 | cons x t =>
  unfold lvT at ht ⊢
  rw [Bool.or_eq_true] at ht ⊢
  exact ht.imp id (lvl_mono h)
theorem lvR_mono {rs:List Rec} {a b:List Bool} (h:Le a b) {r:Rec} (hr:lvR rs a r=true):lvR rs b r=true:=by
 unfold lvR at hr ⊢
 cases hc:r.choice
 ·rw [hc] at hr
  simp only [Bool.false_and,Bool.not_false,Bool.true_and,Bool.false_or,List.all_eq_true] at hr ⊢
  exact fun f hf=>lvT_mono h (hr f hf)
 ·rw [hc] at hr
  simp only [Bool.true_and,Bool.not_true,Bool.false_and,Bool.or_false,List.any_eq_true] at hr ⊢
  obtain ⟨f,hf,ht⟩:=hr
  exact ⟨f,hf,lvT_mono h ht⟩
theorem lvI_le (rs:List Rec):∀ k,Le (lvI rs k) (lvI rs (k+1))
 | 0=>⟨by rw [lvI_len,lvI_len],fun i h h' ht=>by simp [lvI] at ht⟩
 | k+1=>⟨by rw [lvI_len,lvI_len],fun i h h' ht=>by
   simp only [lvI,lvN,List.getElem_map] at ht ⊢
   exact lvR_mono (lvI_le rs k) ht⟩
theorem le_count:∀ {a b:List Bool},Le a b→a≠b→a.countP id+1≤b.countP id
 | [],[],_,h=>absurd rfl h
 | [],_::_,h,_=>by have:=h.1;simp at this
 | _::_,[],h,_=>by have:=h.1;simp at this
 | x::a,y::b,h,hne=>by
  have ht:Le a b:=⟨by have:=h.1;simpa using this,fun i h1 h2 h3=>by
   have:=h.2 (i+1) (by simp;omega) (by simp;omega) (by simpa using h3)
   simpa using this⟩
  have h0:=h.2 0 (by simp) (by simp)
  simp only [List.getElem_cons_zero] at h0
  by_cases he:a=b
  ·subst he
   cases x <;> cases y <;> simp_all
  ·have:=le_count ht he
   cases x <;> cases y <;> simp_all <;> omega
theorem lvI_fix (rs:List Rec):∀ k,lvI rs k=lvI rs (k+1)∨k+1≤(lvI rs (k+1)).countP id
 | 0=>by
  by_cases h:lvI rs 0=lvI rs 1
  ·exact Or.inl h
  ·have:=le_count (lvI_le rs 0) h
   exact Or.inr (by omega)
 | k+1=>by
  rcases lvI_fix rs k with h | h
  ·exact Or.inl (by show lvN rs (lvI rs k)=lvN rs (lvI rs (k+1));rw [←h])
  ·by_cases he:lvI rs (k+1)=lvI rs (k+2)
   ·exact Or.inl he
   ·have:=le_count (lvI_le rs (k+1)) he
    exact Or.inr (by omega)
theorem lvI_end (rs:List Rec):lvI rs (rs.length+1)=lvN rs (lvI rs (rs.length+1)):=by
 rcases lvI_fix rs (rs.length+1) with h | h
 ·exact h
 ·have:=List.countP_le_length (p:=(id:Bool→Bool)) (l:=lvI rs (rs.length+1+1))
  rw [lvI_len] at this
  omega
theorem lvI_sound (rs:List Rec):∀ k i,∀ (h:i<rs.length) (h':i<(lvI rs k).length),(lvI rs k)[i]=true→Val rs rs[i].name.toList
 | 0,i,h,h',ht=>by simp [lvI] at ht
 | k+1,i,h,h',ht=>by
  simp only [lvI,lvN,List.getElem_map] at ht
  have hT:∀ {t:List Srt},lvT rs (lvI rs k) t=true→hasP (Val rs) t:=by
   intro t hh
   cases t with
   | nil=>cases hh
   | cons x t =>
    unfold lvT at hh
    rw [Bool.or_eq_true] at hh
    refine hh.imp (fun h=>by simpa using h) (fun h=>?_)
    obtain ⟨j,h1,h2,h3,h4⟩:=lvl_iff h
    rw [←h3]
    exact lvI_sound rs k j h1 h2 h4
  refine Val.step (List.getElem_mem h) ?_
  unfold lvR at ht
  cases hc:rs[i].choice
  ·rw [hc] at ht
   simp only [Bool.false_and,Bool.not_false,Bool.true_and,Bool.false_or,List.all_eq_true] at ht
   exact ⟨fun e=>(by rw [hc] at e;cases e),fun _ f hf=>hT (ht f hf)⟩
  ·rw [hc] at ht
   simp only [Bool.true_and,Bool.not_true,Bool.false_and,Bool.or_false,List.any_eq_true] at ht
   obtain ⟨f,hf,h2⟩:=ht
   exact ⟨fun _=>⟨f,hf,hT h2⟩,fun e=>(by rw [hc] at e;cases e)⟩
open Classical in
theorem lvI_val {rs:List Rec} (hd:Dist [] (rs.map (·.name))) {i:Nat} (h:i<rs.length):(lvI rs (rs.length+2))[i]'(by rw [lvI_len];exact h)=valB rs rs[i].name:=by
 have hfix:lvI rs (rs.length+2)=lvI rs (rs.length+1):=(lvI_end rs).symm
 rw [Bool.eq_iff_iff]
 unfold valB
 rw [decide_eq_true_eq]
 refine ⟨fun ht=>lvI_sound rs _ i h _ ht,fun hv=>?_⟩
 have hP:=hv (fun s=>∃ j,∃ (h1:j<rs.length) (h2:j<(lvI rs (rs.length+2)).length),rs[j].name.toList=s∧(lvI rs (rs.length+2))[j]=true) (fun r hr hp=>by
  obtain ⟨j,hj,rfl⟩:=List.getElem_of_mem hr
  refine ⟨j,hj,by rw [lvI_len];exact hj,rfl,?_⟩
  have e:(lvI rs (rs.length+2))[j]'(by rw [lvI_len];exact hj)=lvR rs (lvI rs (rs.length+1)) rs[j]:=by
   simp only [lvI,lvN,List.getElem_map]
  rw [e,←hfix]
  have hT:∀ {t:List Srt},hasP (fun s=>∃ j,∃ (h1:j<rs.length) (h2:j<(lvI rs (rs.length+2)).length),rs[j].name.toList=s∧(lvI rs (rs.length+2))[j]=true) t→lvT rs (lvI rs (rs.length+2)) t=true:=by
   intro t hh
   cases t with
   | nil=>exact hh.elim
   | cons x t =>
    unfold lvT
    rw [Bool.or_eq_true]
    refine hh.imp (fun h=>by simpa using h) (fun ⟨j,h1,h2,h3,h4⟩=>lvl_of hd j h1 h2 h3 h4)
  unfold lvR
  cases hc:rs[j].choice
  ·simp only [Bool.false_and,Bool.not_false,Bool.true_and,Bool.false_or,List.all_eq_true]
   exact fun f hf=>hT (hp.2 hc f hf)
  ·simp only [Bool.true_and,Bool.not_true,Bool.false_and,Bool.or_false,List.any_eq_true]
   obtain ⟨f,hf,h2⟩:=hp.1 hc
   exact ⟨f,hf,hT h2⟩)
 obtain ⟨j,h1,h2,h3,h4⟩:=hP
 have:j=i:=dist_unique hd j i (by simpa using h1) (by simpa using h) (by simpa using h3)
 subst this
 exact h4
/-! The document's tests. -/
def botD (rs:List Rec) (l:List Bool):List Test:=List.zipWith (fun r b=>(b,r.name)) rs l
def isEff (e:ByteArray):Bool:=e.toList==wGive.toList||e.toList==wTake.toList||e.toList==wNote.toList
def contraryB (a b:ByteArray):Bool:=(a.toList==wGive.toList&&b.toList==wTake.toList)||(a.toList==wTake.toList&&b.toList==wGive.toList)||(a.toList==wNote.toList&&b.toList==wNote.toList)
def undoD (m u:Mth):Bool:=u.arg.toList==m.arg.toList&&u.undo.toList.isEmpty&&u.result==1&&contraryB m.effect u.effect
def undoOkD (x:Sch) (rn:ByteArray) (m:Mth):Bool:=match meth x rn m.undo with
 | none=>false
 | some u=>undoD m u
def undosMD (x:Sch) (rn:ByteArray) (m:Mth):List Test:=[(m.undo.toList.isEmpty||undoOkD x rn m,part rn m.name)]
def undosVD (x:Sch) (v:Svc):List Test:=v.methods.flatMap (undosMD x v.name)
def undosD (x:Sch):List Test:=x.services.flatMap (undosVD x)
theorem eff_contrary {e:ByteArray}:isEff e=!(contrary e).toList.isEmpty:=by
 unfold isEff contrary
 by_cases h1:e.toList=wGive.toList
 ·rw [if_pos h1,h1];decide +kernel
 ·rw [if_neg h1]
  by_cases h2:e.toList=wTake.toList
  ·rw [if_pos h2,h2];decide +kernel
  ·rw [if_neg h2]
   by_cases h3:e.toList=wNote.toList
   ·rw [if_pos h3,h3];decide +kernel
   ·rw [if_neg h3]
    simp [h1,h2,h3]
theorem contrary_eff {a b:ByteArray} (h:isEff a=true):contraryB a b=(b.toList==(contrary a).toList):=by
 unfold isEff at h
 unfold contraryB contrary
 by_cases h1:a.toList=wGive.toList
 ·rw [if_pos h1,h1]
  rw [show (wGive.toList==wTake.toList)=false by decide +kernel,show (wGive.toList==wNote.toList)=false by decide +kernel,show (wGive.toList==wGive.toList)=true by decide +kernel]
  simp
 ·rw [if_neg h1]
  by_cases h2:a.toList=wTake.toList
  ·rw [if_pos h2,h2]
   rw [show (wTake.toList==wGive.toList)=false by decide +kernel,show (wTake.toList==wNote.toList)=false by decide +kernel,show (wTake.toList==wTake.toList)=true by decide +kernel]
   simp
  ·rw [if_neg h2]
   by_cases h3:a.toList=wNote.toList
   ·rw [if_pos h3,h3]
    rw [show (wNote.toList==wGive.toList)=false by decide +kernel,show (wNote.toList==wTake.toList)=false by decide +kernel,show (wNote.toList==wNote.toList)=true by decide +kernel]
    simp
   ·simp [h1,h2,h3] at h
theorem undos_eq {x:Sch} (h:∀ t∈effectsT x,t.1=true):undosD x=undosT x:=by
 refine flat_cong fun v hv=>flat_cong fun m hm=>?_
 have he:isEff m.effect=true:=by
  have:=h (!(contrary m.effect).toList.isEmpty&&order x m.arg,part v.name m.name) (by
   unfold effectsT effectsV effectsM
   exact List.mem_flatMap.2 ⟨v,hv,List.mem_flatMap.2 ⟨m,hm,by simp⟩⟩)
  rw [eff_contrary]
  simp only [Bool.and_eq_true] at this
  exact this.1
 unfold undosMD undosM undoOkD undoOk
 cases meth x v.name m.undo with
 | none=>rfl
 | some u =>
  show [(m.undo.toList.isEmpty||undoD m u,_)]=[(m.undo.toList.isEmpty||undoOf m u,_)]
  unfold undoD undoOf
  rw [contrary_eff he]
theorem zip_eq {x:Sch} {l:List Bool}:∀ {rs:List Rec},l.length=rs.length→(∀ i,∀ (h:i<rs.length) (h':i<l.length),l[i]=valB x.records rs[i].name)→botD rs l=rs.flatMap (bottomsR x):=by
 intro rs hl h
 unfold botD
 induction rs generalizing l with
 | nil=>simp
 | cons r rs ih =>
  cases l with
  | nil=>simp at hl
  | cons b l =>
   rw [List.zipWith_cons_cons,List.flatMap_cons,ih (l:=l) (by simpa using hl) (fun i h1 h2=>by have:=h (i+1) (by simp;omega) (by simp;omega);simpa using this)]
   have h0:=h 0 (by simp) (by simp)
   simp only [List.getElem_cons_zero] at h0
   show (b,r.name)::_=[(valB x.records r.name,r.name)]++_
   rw [h0]
   rfl
theorem dblR_dist0 {x:Sch} (h:∀ t∈doublesT x,t.1=true):Dist [] (x.records.map (·.name)):=by
 unfold doublesT at h
 exact (dist_app.1 (dblR_dist.1 h).1).1
theorem bottoms_eq {x:Sch} (h:∀ t∈doublesT x,t.1=true):botD x.records (lvI x.records (x.records.length+2))=bottomsT x :=
 zip_eq (lvI_len _ _) (fun i h1 h2=>lvI_val (dblR_dist0 h) h1)
/-- The document's answer: the first rule that fails. -/
def firstR:List (Option ByteArray × Nat)→ByteArray × Nat
 | []=>(⟨#[]⟩,0)
 | (none,_)::l=>firstR l
 | (some s,e)::_=>(s,e)
def docR (x:Sch):List (Option ByteArray × Nat):=[(firstF (namesT x),120),(firstF (countsT x),135),(firstF (doublesT x),130),(firstF (x.records.flatMap (typesR x)),131),(firstF (x.services.flatMap typesV),131),(firstF (botD x.records (lvI x.records (x.records.length+2))),132),(firstF (effectsT x),134),(firstF (undosD x),133),(firstF (sagasT x),240),(firstF (stepsT x),241),(firstF (waysT x),133)]
def doc (x:Sch):ByteArray × Nat:=firstR (docR x)
theorem first_step (t:List Test) (e:Nat) (l:List (Option ByteArray × Nat)) (m:List Flt) (h:firstF t=none→firstR l=first m):firstR ((firstF t,e)::l)=first (run e t none::m):=by
 rw [run_first]
 cases hf:firstF t with
 | none=>exact h hf
 | some s=>rfl
theorem doc_check (x:Sch):doc x=check x:=by
 unfold doc docR check flts
 refine first_step _ _ _ _ fun h1=>first_step _ _ _ _ fun h2=>first_step _ _ _ _ fun h3=>?_
 have e:firstR ((firstF (x.records.flatMap (typesR x)),131)::(firstF (x.services.flatMap typesV),131)::[(firstF (botD x.records (lvI x.records (x.records.length+2))),132),(firstF (effectsT x),134),(firstF (undosD x),133),(firstF (sagasT x),240),(firstF (stepsT x),241),(firstF (waysT x),133)])=firstR ((firstF (typesT x),131)::[(firstF (botD x.records (lvI x.records (x.records.length+2))),132),(firstF (effectsT x),134),(firstF (undosD x),133),(firstF (sagasT x),240),(firstF (stepsT x),241),(firstF (waysT x),133)]):=by
  unfold typesT
  rw [firstF_app]
  cases firstF (x.records.flatMap (typesR x)) with
  | none=>rfl
  | some s=>rfl
 rw [e]
 refine first_step _ _ _ _ fun h4=>?_
 rw [bottoms_eq (firstF_none.1 h3)]
 refine first_step _ _ _ _ fun h5=>first_step _ _ _ _ fun h6=>?_
 rw [undos_eq (firstF_none.1 h6)]
 exact first_step _ _ _ _ fun h7=>first_step _ _ _ _ fun h8=>first_step _ _ _ _ fun h9=>first_step _ _ _ _ fun h10=>rfl
/-! Rule 3 as the document goes through it. -/
def dblA:List (ByteArray × List ByteArray)→List ByteArray→List Test
 | [],_=>[]
 | (n,ps)::l,seen=>(!seenB seen n,n)::(dblP n ps []++dblA l (seen++[n]))
def declsP (x:Sch):List (ByteArray × List ByteArray):=x.records.map (fun r=>(r.name,r.fields.map (·.name)))++(x.services.map (fun v=>(v.name,v.methods.map (·.name)))++x.sagas.map (fun g=>(g.name,[])))
theorem dblA_G:∀ (gs:List Sag) (seen:List ByteArray),dblA (gs.map (fun g=>(g.name,[]))) seen=dblG gs seen
 | [],_=>rfl
 | g::gs,seen=>by
  show _::(dblP g.name [] []++dblA _ _)=_::dblG gs _
  rw [dblA_G gs]
  rfl
theorem dblA_V:∀ (vs:List Svc) (gs:List Sag) (seen:List ByteArray),dblA (vs.map (fun v=>(v.name,v.methods.map (·.name)))++gs.map (fun g=>(g.name,[]))) seen=dblV vs gs seen
 | [],gs,seen=>dblA_G gs seen
 | v::vs,gs,seen=>by
  show _::(dblP v.name _ []++dblA (vs.map (fun v=>(v.name,v.methods.map (·.name)))++gs.map (fun g=>(g.name,[]))) _)=_::(_++dblV vs gs _)
  rw [dblA_V vs]
theorem dblA_R:∀ (rs:List Rec) (vs:List Svc) (gs:List Sag) (seen:List ByteArray),dblA (rs.map (fun r=>(r.name,r.fields.map (·.name)))++(vs.map (fun v=>(v.name,v.methods.map (·.name)))++gs.map (fun g=>(g.name,[])))) seen=dblR rs vs gs seen
 | [],vs,gs,seen=>dblA_V vs gs seen
 | r::rs,vs,gs,seen=>by
  show _::(dblP r.name _ []++dblA (rs.map (fun r=>(r.name,r.fields.map (·.name)))++(vs.map (fun v=>(v.name,v.methods.map (·.name)))++gs.map (fun g=>(g.name,[])))) _)=_::(_++dblR rs vs gs _)
  rw [dblA_R rs]
theorem doubles_A (x:Sch):dblA (declsP x) []=doublesT x:=dblA_R _ _ _ _
def docV (p:ByteArray × Nat):Value:=.tuple #[.string p.1,.int .i64 (p.2:Int)]
end Chk
end Go.Proofs.YtjfdohhdkdjifaaGreatDoor
set_option linter.unusedVariables false
set_option linter.unusedSimpArgs false
namespace Go.Proofs.YtjfdohhdkdjifaaGreatDoor
open Go.RowKit Go.BigFrame
namespace Prn
open Go.Proofs.YtjfdohhdkdjifaaGreatDoor.Id Go.Proofs.YtjfdohhdkdjifaaGreatDoor.Chk
theorem flat_le {α β:Type} {f:α→List β} {l:List α} {m:Nat} (h:∀ a∈l,(f a).length≤m):(l.flatMap f).length≤l.length * m:=by
 induction l with
 | nil=>simp
 | cons a l ih =>
  rw [List.flatMap_cons,List.length_append,List.length_cons,Nat.succ_mul]
  have:=h a (by simp)
  have:=ih (fun b hb=>h b (by simp [hb]))
  omega
theorem jl_le {m:Nat}:∀ {l:List ByteArray},(∀ u∈l,u.size≤m)→(jl l).length≤l.length * (m+1)
 | [],h=>by simp [jl]
 | a::l,h=>by
  have h1:a.data.toList.length≤m:=by have:=h a (by simp);simpa using this
  have h2:(l.flatMap fun u=>32::u.data.toList).length≤l.length * (m+1):=flat_le (fun u hu=>by have:=h u (by simp [hu]);simpa using this)
  show (a.data.toList++_).length≤_
  rw [List.length_append,List.length_cons,Nat.succ_mul]
  omega
theorem jn_size (l:List ByteArray):(jn l).size=(jl l).length:=by simp [jn,ByteArray.size]
/-- A schema's text, or why there is none. -/
noncomputable def text (x:Sch):ByteArray × Nat:=if (check x).2≠0 then (⟨#[]⟩,(check x).2) else if 65536<(jn (schW x)).size then (⟨#[]⟩,3) else (jn (schW x),0)
noncomputable def print (x:Sch):Nat × Nat:=if (text x).2≠0 then (0,(text x).2) else (Sm.print (text x).1.data.toList,0)
end Prn
end Go.Proofs.YtjfdohhdkdjifaaGreatDoor
set_option linter.unusedVariables false
set_option linter.unusedSimpArgs false
namespace Go.Proofs.YtjfdohhdkdjifaaGreatDoor
open Go.RowKit Go.BigFrame
namespace Prn
open Go.Proofs.YtjfdohhdkdjifaaGreatDoor.Id Go.Proofs.YtjfdohhdkdjifaaGreatDoor.Chk
def typeP (t:List Srt):ByteArray:=if t.length≤12∧okP t=true then jn (t.map sortW) else ⟨#[]⟩
theorem okP_drop {t:List Srt} {k:Nat} (h:k+1<t.length):okP (t.drop k)=(mid (t[k]'(by omega))&&okP (t.drop (k+1))):=by
 rw [List.drop_eq_getElem_cons (show k<t.length by omega),List.drop_eq_getElem_cons h]
 rfl
theorem okP_last {t:List Srt} {k:Nat} (h:k+1=t.length):okP (t.drop k)=finP (t[k]'(by omega)):=by
 rw [List.drop_eq_getElem_cons (show k<t.length by omega),List.drop_of_length_le (by omega)]
 rfl
theorem sorts_size {t:List Srt} (h:okP t=true):∀ u∈t.map sortW,u.size≤32:=fun u hu=>by
 obtain ⟨x,hx,rfl⟩:=List.mem_map.1 hu
 exact (own_sorts h x hx).2
end Prn
set_option maxRecDepth 100000 in
set_option maxHeartbeats 16000000 in
theorem pType_any (tv:Value) (t:List Id.Srt) (w:World) (hk:Tk.KW w) (ht:Id.SortsR w none tv t) :
  Calls Tryz.prog 103 #[tv] w fun e w'=>e=.returned (.string (Prn.typeP t))∧Below w.heap.size w w':=by
 obtain ⟨T,HT⟩:∃ T,Hid (Prn.typeP t=T):=⟨_,Lib.hid rfl⟩
 rw [HT.out]
 unfold Prn.typeP at HT
 have HKW:=Lib.hid hk
 have HS:=Lib.hid ht
 obtain ⟨A,n,c,rfl⟩:=ERow.is ht
 have HN:Hid (n=t.length):=Lib.hid (by obtain ⟨_,_,e,_⟩:=ERow.slice ht;injection e)
 have hm:n≤9223372036854775807:=by obtain ⟨_,_,e,_,_⟩:=ERow.slice ht;injection e;omega
 clear hk ht
 by_cases h12:n≤12
 case neg =>
  have HE:Hid (T=⟨#[]⟩):=Lib.hid (by rw [←HT.out,if_neg (by rw [←HN.out];exact fun h=>h12 h.1)])
  have h0:((n:Int)==0)=false:=by rw [beq_eq_false_iff_ne];omega
  have h0b:¬(n:Int)=0:=by omega
  have h1:(12:Int)<(n:Int):=by omega
  have h2:12<n:=by omega
  clear h12
  go_enter Tryz.func103,Tryz.ntmps103
  go_wp2_with fail
  go_ret
  exact ⟨by rw [HE.out];rfl,Below.refl _ _⟩
 by_cases h00:n=0
 case pos =>
  have HE:Hid (T=⟨#[]⟩):=Lib.hid (by rw [←HT.out,if_neg (by rw [List.length_eq_zero_iff.1 (HN.out.symm.trans h00)];exact fun h=>by cases h.2)])
  subst h00
  try simp only [Int.cast_ofNat_Int] at *
  go_enter Tryz.func103,Tryz.ntmps103
  go_wp2_with fail
  go_ret
  exact ⟨by rw [HE.out];rfl,Below.refl _ _⟩
 obtain ⟨R,HR⟩:∃ R,Hid (Prn.okP t=R):=⟨_,Lib.hid rfl⟩
 have HTT:Hid ((if R=true then Prn.jn (t.map Prn.sortW) else ⟨#[]⟩)=T):=Lib.hid (by rw [←HT.out,HR.out];simp only [←HN.out,h12,true_and])
 have HNO:Hid (R=false→T=⟨#[]⟩):=Lib.hid (fun h=>by rw [←HTT.out,if_neg (by rw [h];decide)])
 have h0:((n:Int)==0)=false:=by rw [beq_eq_false_iff_ne];omega
 have h0b:¬(n:Int)=0:=by omega
 have h1:¬(12:Int)<(n:Int):=by omega
 have h2:¬12<n:=by omega
 have hn1:1≤n:=by omega
 clear h00 HT
 go_enter Tryz.func103,Tryz.ntmps103
 go_wp2_with fail
 go_loopw [17] (fun i wr=>∃ (k:Nat),k≤n∧i=.int .i64 k∧Hid ((k<n→Prn.okP (t.drop k)=R)∧(k=n→R=true))∧Hid (Below w.heap.size w wr)) (fun i _=>n - (intOf i).toNat)
 case atStart=>exact ⟨0,by omega,rfl,Lib.hid ⟨fun _=>HR.out,fun h=>by omega⟩,Lib.hid (Below.refl _ _)⟩
 case round =>
  obtain ⟨k,hk,rfl,HK,HB⟩:=hrel
  obtain ⟨V,rfl⟩:∃ w',w'=wr:=⟨_,rfl⟩
  have ik0:(0:Int)≤(k:Int):=by omega
  by_cases hlt:k<n
  case neg =>
   obtain rfl:k=n:=by omega
   have hRt:=HK.out.2 rfl
   have HRO:Hid (Prn.okP t=true):=Lib.hid (by rw [HR.out];exact hRt)
   have HE:Hid (Prn.jn (t.map Prn.sortW)=T):=Lib.hid (by rw [←HTT.out,if_pos hRt])
   have hbs:=HB.out.size
   clear hRt HK
   go_upto_region 24 with (fail)
   refine wp_named (fun W2 hW=>?_)
   obtain ⟨hbx,hqx,-⟩:=fresh_box hW
   have HP:=Lib.hid (Prn.Put.start (w0:=V) (b:=V.heap.size) (L:=[]) hbx ⟨Nat.le_refl _,hbx.size,_,hqx,ERow.nil _ _ _ _ _⟩)
   clear hW hqx
   have HB2:=Lib.hid (HB.out.trans (hbx.mono hbs))
   clear hbx
   go_wp2_with fail
   refine (pwsorts_any V.heap.size _ t _ V W2 HP.out.bel HP.out.wr (fun w' hb _=>ERow.below (ERow.below HS.out HB.out (fun _ _ h=>h)) hb (fun _ _ h=>h)) (by simp only [List.length_nil,List.length_append,←HN.out];omega)).mono ?_
   rintro e W3 ⟨rfl,hp⟩
   have HP3:=Lib.hid (HP.out.step hp)
   clear hp
   go_wp2_with fail
   have hjl:=Prn.jl_le (Prn.sorts_size HRO.out)
   rw [List.length_map,←HN.out] at hjl
   refine (pwtext_any V.heap.size (t.map Prn.sortW) V.heap.size W3 (by have h:=HP3.out.wr;rw [List.nil_append,List.nil_append] at h;exact h) (by simp only [List.length_map,←HN.out];omega) (by omega)).mono ?_
   rw [HE.out]
   rintro e W4 ⟨rfl,hb4⟩
   have HB4:=Lib.hid (HB.out.trans ((HP3.out.bel.trans (hb4.mono HP3.out.bel.size)).mono hbs))
   clear hb4 hjl
   go_wp2_with fail
   go_ret
   exact ⟨rfl,HB4.out⟩
  have hka:k<t.length:=by rw [←HN.out];exact hlt
  have hK:=HK.out.1 hlt
  obtain ⟨g,off,cs,rfl,-,e1,hc⟩:=ERow.get HS.out hka (by omega)
  have HX:Hid ((k+1<n→Prn.okP (t.drop k)=(Chk.mid t[k]&&Prn.okP (t.drop (k+1))))∧(k+1=n→Prn.okP (t.drop k)=Prn.finP t[k])):=Lib.hid ⟨fun h=>Prn.okP_drop (by rw [←HN.out];exact h),fun h=>Prn.okP_last (by rw [←HN.out];exact h)⟩
  obtain ⟨⟨yk,yn⟩,Hy⟩:∃ y,Hid (t[k]=y):=⟨_,Lib.hid rfl⟩
  rw [hK,Hy.out] at HX
  rw [Hy.out] at e1
  unfold Id.SortE Id.Srt.cells at e1
  subst e1
  have a0:=hc 0 _ rfl
  have a1:=hc 1 _ rfl
  simp only [Nat.add_zero] at a0
  have hgl:g<w.heap.size:=World.block_lt_of_cell? w _ a0
  have a0:=(HB.out.cell hgl).trans a0
  have a1:=(HB.out.cell hgl).trans a1
  have hbs:=HB.out.size
  have hgne:¬g=V.heap.size:=by omega
  have ik1:(k:Int)<(n:Int):=by omega
  clear hc Hy hka hK HK
  go_upto_region 6 with (fail)
  refine wp_named (fun V1 hW=>?_)
  obtain ⟨hbx,hqx,-⟩:=fresh_box hW
  have HB1:=Lib.hid (HB.out.trans (hbx.mono hbs))
  obtain ⟨⟨b0,b1⟩,-⟩:=hqx.k2
  clear hW hbx hqx a0 a1 HB
  by_cases hl:k+1=n
  case pos =>
   have hf:=HX.out.2 hl
   have HFN:=Lib.hid hf
   have l1:((k:Int)==(n:Int) - 1)=true:=by rw [beq_iff_eq];omega
   have l2:(k:Int)=(n:Int) - 1:=by omega
   clear hf
   by_cases h5:yk=5
   case pos =>
    subst h5
    have HE:Hid (T=⟨#[]⟩):=Lib.hid (HNO.out (HFN.out.trans rfl))
    clear HX
    go_wp2_with fail
    go_ret
    exact ⟨by rw [HE.out];rfl,HB1.out⟩
   by_cases h6:yk=6
   case pos =>
    subst h6
    have HE:Hid (T=⟨#[]⟩):=Lib.hid (HNO.out (HFN.out.trans rfl))
    clear HX
    go_wp2_with fail
    go_ret
    exact ⟨by rw [HE.out];rfl,HB1.out⟩
   by_cases h1:yk=1
   case pos =>
    subst h1
    have hf:R=yn.toList.isEmpty:=HFN.out
    cases hne:yn.toList.isEmpty
    case false =>
     have HE:Hid (T=⟨#[]⟩):=Lib.hid (HNO.out (hf.trans hne))
     clear HX
     go_wp2_with fail
     go_ret
     exact ⟨by rw [HE.out];rfl,HB1.out⟩
    have hRt:R=true:=hf.trans hne
    clear hf
    have HK2:Hid ((k+1<n→Prn.okP (t.drop (k+1))=R)∧(k+1=n→R=true)):=Lib.hid (⟨fun h=>by omega,fun _=>hRt⟩)
    clear HX
    go_wp2_with fail
    go_roundw
    case rel=>exact ⟨k+1,by omega,by go_num,HK2,HB1⟩
    case measure=>simp [intOf] <;> omega
   by_cases h2:yk=2
   case pos =>
    subst h2
    have hf:R=yn.toList.isEmpty:=HFN.out
    cases hne:yn.toList.isEmpty
    case false =>
     have HE:Hid (T=⟨#[]⟩):=Lib.hid (HNO.out (hf.trans hne))
     clear HX
     go_wp2_with fail
     go_ret
     exact ⟨by rw [HE.out];rfl,HB1.out⟩
    have hRt:R=true:=hf.trans hne
    clear hf
    have HK2:Hid ((k+1<n→Prn.okP (t.drop (k+1))=R)∧(k+1=n→R=true)):=Lib.hid (⟨fun h=>by omega,fun _=>hRt⟩)
    clear HX
    go_wp2_with fail
    go_roundw
    case rel=>exact ⟨k+1,by omega,by go_num,HK2,HB1⟩
    case measure=>simp [intOf] <;> omega
   by_cases h3:yk=3
   case pos =>
    subst h3
    have hf:R=yn.toList.isEmpty:=HFN.out
    cases hne:yn.toList.isEmpty
    case false =>
     have HE:Hid (T=⟨#[]⟩):=Lib.hid (HNO.out (hf.trans hne))
     clear HX
     go_wp2_with fail
     go_ret
     exact ⟨by rw [HE.out];rfl,HB1.out⟩
    have hRt:R=true:=hf.trans hne
    clear hf
    have HK2:Hid ((k+1<n→Prn.okP (t.drop (k+1))=R)∧(k+1=n→R=true)):=Lib.hid (⟨fun h=>by omega,fun _=>hRt⟩)
    clear HX
    go_wp2_with fail
    go_roundw
    case rel=>exact ⟨k+1,by omega,by go_num,HK2,HB1⟩
    case measure=>simp [intOf] <;> omega
   by_cases h4:yk=4
   case pos =>
    subst h4
    have hf:R=yn.toList.isEmpty:=HFN.out
    cases hne:yn.toList.isEmpty
    case false =>
     have HE:Hid (T=⟨#[]⟩):=Lib.hid (HNO.out (hf.trans hne))
     clear HX
     go_wp2_with fail
     go_ret
     exact ⟨by rw [HE.out];rfl,HB1.out⟩
    have hRt:R=true:=hf.trans hne
    clear hf
    have HK2:Hid ((k+1<n→Prn.okP (t.drop (k+1))=R)∧(k+1=n→R=true)):=Lib.hid (⟨fun h=>by omega,fun _=>hRt⟩)
    clear HX
    go_wp2_with fail
    go_roundw
    case rel=>exact ⟨k+1,by omega,by go_num,HK2,HB1⟩
    case measure=>simp [intOf] <;> omega
   by_cases h7:yk=7
   case pos =>
    subst h7
    have HF7:Hid (R=Tk.isName yn):=Lib.hid HFN.out
    obtain ⟨b,HBN⟩:∃ b,Hid (Tk.isName yn=b):=⟨_,Lib.hid rfl⟩
    go_wp2_with fail
    refine (name_any yn _ (HKW.out.below HB1.out)).mono ?_
    rw [HBN.out]
    rintro e V2 ⟨rfl,hb2⟩
    have HBz:=Lib.hid (HB1.out.trans (hb2.mono HB1.out.size))
    clear hb2 b0 b1
    cases b
    case false =>
     have HE:Hid (T=⟨#[]⟩):=Lib.hid (HNO.out (HF7.out.trans HBN.out))
     go_wp2_with fail
     go_ret
     exact ⟨by rw [HE.out];rfl,HBz.out⟩
    have hRt:R=true:=HF7.out.trans HBN.out
    have HK2:Hid ((k+1<n→Prn.okP (t.drop (k+1))=R)∧(k+1=n→R=true)):=Lib.hid (⟨fun h=>by omega,fun _=>hRt⟩)
    clear HX
    go_wp2_with fail
    go_roundw
    case rel=>exact ⟨k+1,by omega,by go_num,HK2,HBz⟩
    case measure=>simp [intOf] <;> omega
   have hRf:R=false:=by rw [HFN.out];unfold Prn.finP;simp only [h1,h2,h3,h4,h7,false_or,or_self,if_false]
   have t5:((yk:Int)==5)=false:=by rw [beq_eq_false_iff_ne];omega
   have t6:((yk:Int)==6)=false:=by rw [beq_eq_false_iff_ne];omega
   have t1:((yk:Int)==1)=false:=by rw [beq_eq_false_iff_ne];omega
   have t2:((yk:Int)==2)=false:=by rw [beq_eq_false_iff_ne];omega
   have t3:((yk:Int)==3)=false:=by rw [beq_eq_false_iff_ne];omega
   have t4:((yk:Int)==4)=false:=by rw [beq_eq_false_iff_ne];omega
   have t7:((yk:Int)==7)=false:=by rw [beq_eq_false_iff_ne];omega
   have HRF:=Lib.hid hRf
   clear hRf h5 h6 h1 h2 h3 h4 h7
   have HE:Hid (T=⟨#[]⟩):=Lib.hid (HNO.out (HRF.out))
   clear HX
   go_wp2_with fail
   go_ret
   exact ⟨by rw [HE.out];rfl,HB1.out⟩
  have hf:=HX.out.1 (by omega)
  have HFN:=Lib.hid hf
  have l1:((k:Int)==(n:Int) - 1)=false:=by rw [beq_eq_false_iff_ne];omega
  have l2:¬(k:Int)=(n:Int) - 1:=by omega
  clear hf
  by_cases h5:yk=5
  case pos =>
   subst h5
   have hf:R=(yn.toList.isEmpty&&Prn.okP (t.drop (k+1))):=HFN.out
   cases hne:yn.toList.isEmpty
   case false =>
    have HE:Hid (T=⟨#[]⟩):=Lib.hid (HNO.out (by rw [hf,hne];rfl))
    clear HX
    go_wp2_with fail
    go_ret
    exact ⟨by rw [HE.out];rfl,HB1.out⟩
   have HK3:Hid (Prn.okP (t.drop (k+1))=R):=Lib.hid (by rw [hf,hne];rfl)
   clear hf
   have HK2:Hid ((k+1<n→Prn.okP (t.drop (k+1))=R)∧(k+1=n→R=true)):=Lib.hid (⟨fun _=>HK3.out,fun h=>absurd h hl⟩)
   clear HX
   go_wp2_with fail
   go_roundw
   case rel=>exact ⟨k+1,by omega,by go_num,HK2,HB1⟩
   case measure=>simp [intOf] <;> omega
  by_cases h6:yk=6
  case pos =>
   subst h6
   have hf:R=(yn.toList.isEmpty&&Prn.okP (t.drop (k+1))):=HFN.out
   cases hne:yn.toList.isEmpty
   case false =>
    have HE:Hid (T=⟨#[]⟩):=Lib.hid (HNO.out (by rw [hf,hne];rfl))
    clear HX
    go_wp2_with fail
    go_ret
    exact ⟨by rw [HE.out];rfl,HB1.out⟩
   have HK3:Hid (Prn.okP (t.drop (k+1))=R):=Lib.hid (by rw [hf,hne];rfl)
   clear hf
   have HK2:Hid ((k+1<n→Prn.okP (t.drop (k+1))=R)∧(k+1=n→R=true)):=Lib.hid (⟨fun _=>HK3.out,fun h=>absurd h hl⟩)
   clear HX
   go_wp2_with fail
   go_roundw
   case rel=>exact ⟨k+1,by omega,by go_num,HK2,HB1⟩
   case measure=>simp [intOf] <;> omega
  have HRF:Hid (R=false):=Lib.hid (by rw [HFN.out];unfold Chk.mid;simp [h5,h6])
  by_cases h1:yk=1
  case pos =>
   subst h1
   have HE:Hid (T=⟨#[]⟩):=Lib.hid (HNO.out (HRF.out))
   clear HX
   go_wp2_with fail
   go_ret
   exact ⟨by rw [HE.out];rfl,HB1.out⟩
  by_cases h2:yk=2
  case pos =>
   subst h2
   have HE:Hid (T=⟨#[]⟩):=Lib.hid (HNO.out (HRF.out))
   clear HX
   go_wp2_with fail
   go_ret
   exact ⟨by rw [HE.out];rfl,HB1.out⟩
  by_cases h3:yk=3
  case pos =>
   subst h3
   have HE:Hid (T=⟨#[]⟩):=Lib.hid (HNO.out (HRF.out))
   clear HX
   go_wp2_with fail
   go_ret
   exact ⟨by rw [HE.out];rfl,HB1.out⟩
  by_cases h4:yk=4
  case pos =>
   subst h4
   have HE:Hid (T=⟨#[]⟩):=Lib.hid (HNO.out (HRF.out))
   clear HX
   go_wp2_with fail
   go_ret
   exact ⟨by rw [HE.out];rfl,HB1.out⟩
  by_cases h7:yk=7
  case pos =>
   subst h7
   have HE:Hid (T=⟨#[]⟩):=Lib.hid (HNO.out (HRF.out))
   clear HX
   go_wp2_with fail
   go_ret
   exact ⟨by rw [HE.out];rfl,HB1.out⟩
  have t5:((yk:Int)==5)=false:=by rw [beq_eq_false_iff_ne];omega
  have t6:((yk:Int)==6)=false:=by rw [beq_eq_false_iff_ne];omega
  have t1:((yk:Int)==1)=false:=by rw [beq_eq_false_iff_ne];omega
  have t2:((yk:Int)==2)=false:=by rw [beq_eq_false_iff_ne];omega
  have t3:((yk:Int)==3)=false:=by rw [beq_eq_false_iff_ne];omega
  have t4:((yk:Int)==4)=false:=by rw [beq_eq_false_iff_ne];omega
  have t7:((yk:Int)==7)=false:=by rw [beq_eq_false_iff_ne];omega
  clear h5 h6 h1 h2 h3 h4 h7
  have HE:Hid (T=⟨#[]⟩):=Lib.hid (HNO.out (HRF.out))
  clear HX
  go_wp2_with fail
  go_ret
  exact ⟨by rw [HE.out];rfl,HB1.out⟩
end Go.Proofs.YtjfdohhdkdjifaaGreatDoor
set_option linter.unusedVariables false
set_option linter.unusedSimpArgs false
namespace Go.Proofs.YtjfdohhdkdjifaaGreatDoor
namespace Prn
open Go.Proofs.YtjfdohhdkdjifaaGreatDoor.Id Go.Proofs.YtjfdohhdkdjifaaGreatDoor.Chk
theorem type_of {s:ByteArray} {l:List Tk.Tok} {a:Nat} {x:List Srt} (ht:Tk.all s=(l,a,0)) (hr:sorts (l,false)=(x,([],false))):Id.type s=(x,0,0):=whole_good ht hr
theorem type_text {t:List Srt} (h:okP t=true) (hl:t.length≤12):Id.type (jn (t.map sortW))=(t,0,0):=by
 have ho:Owns (t.map sortT):=fun u hu=>by
  obtain ⟨x,hx,rfl⟩:=List.mem_map.1 hu
  exact own_sorts h x hx
 have hsz:(jn (t.map sortW)).size≤65536:=by
  rw [jn_size]
  have:=jl_le (sorts_size h)
  rw [List.length_map] at this
  omega
 have ha:=all_text ho (by rw [tx_sorts];exact hsz)
 rw [tx_sorts] at ha
 have hr:=sorts_ok h []
 rw [List.append_nil] at hr
 exact type_of ha (read_placed sorts_z (at_sorts t) hr)
end Prn
end Go.Proofs.YtjfdohhdkdjifaaGreatDoor
