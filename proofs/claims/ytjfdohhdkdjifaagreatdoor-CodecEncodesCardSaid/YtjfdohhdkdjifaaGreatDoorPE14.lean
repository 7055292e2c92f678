/- check, plain: what a right schema has. No condition. -/
import Derived.Test.YtjfdohhdkdjifaaGreatDoorPE13
import Derived.Test.YtjfdohhdkdjifaaGreatDoorPE04
import Derived.Test.YtjfdohhdkdjifaaGreatDoorPE06
import Derived.Test.YtjfdohhdkdjifaaGreatDoorPE10
set_option linter.unusedVariables false
set_option linter.unusedSimpArgs false
namespace Go.Proofs.YtjfdohhdkdjifaaGreatDoor
namespace Chk
open Go.Proofs.YtjfdohhdkdjifaaGreatDoor.Id
theorem run_some (e:Nat) (p:ByteArray × Nat):∀ l:List Test,run e l (some p)=some p
 | []=>rfl
 | t::l=>by
  have:at_ t.1 t.2 e (some p)=some p:=by unfold at_;cases t.1 <;> rfl
  show run e l (at_ t.1 t.2 e (some p))=some p
  rw [this]
  exact run_some e p l
theorem run_none {e:Nat}:∀ {l:List Test},run e l none=none↔∀ t∈l,t.1=true
 | []=>by simp [run]
 | t::l=>by
  show run e l (at_ t.1 t.2 e none)=none↔_
  cases h:t.1
  ·have:at_ false t.2 e none=some (t.2,e):=rfl
   rw [this,run_some]
   simp [h]
  ·have:at_ true t.2 e none=none:=rfl
   rw [this,run_none]
   simp [h]
theorem run_code {e:Nat}:∀ {l:List Test} {p:ByteArray × Nat},run e l none=some p→p.2=e
 | [],p,h=>by cases h
 | t::l,p,h=>by
  replace h:run e l (at_ t.1 t.2 e none)=some p:=h
  cases ht:t.1
  ·have:at_ t.1 t.2 e none=some (t.2,e):=by rw [ht];rfl
   rw [this,run_some] at h
   injection h with h
   rw [←h]
  ·have:at_ t.1 t.2 e none=none:=by rw [ht];rfl
   rw [this] at h
   exact run_code h
def Right (x:Sch):Prop:=∀ f∈flts x,f=none
theorem first_ok:∀ {l:List Flt},(∀ f∈l,∀ p,f=some p→p.2≠0)→(first l).2=0→∀ f∈l,f=none
 | [],_,_=>by simp
 | none::l,h,h0=>by
  intro f hf
  rcases List.mem_cons.1 hf with rfl | hf
  ·rfl
  ·exact first_ok (l:=l) (fun g hg=>h g (by simp [hg])) h0 f hf
 | some p::l,h,h0=>absurd h0 (h _ (by simp) p rfl)
theorem first_none:∀ {l:List Flt},(∀ f∈l,f=none)→first l=(⟨#[]⟩,0)
 | [],_=>rfl
 | none::l,h=>first_none (l:=l) (fun f hf=>h f (by simp [hf]))
 | some p::l,h=>by have:=h (some p) (by simp);cases this
theorem check_ok {x:Sch} (h:(check x).2=0):Right x:=by
 refine first_ok (fun f hf p hp=>?_) h
 unfold flts at hf
 simp only [List.mem_cons,List.not_mem_nil,or_false] at hf
 rcases hf with h | h | h | h | h | h | h | h | h | h <;> (rw [h] at hp;rw [run_code hp];decide)
theorem check_right {x:Sch} (h:Right x):check x=(⟨#[]⟩,0):=first_none h
theorem right_iff {x:Sch}:Right x↔(∀ t∈namesT x,t.1=true)∧(∀ t∈countsT x,t.1=true)∧(∀ t∈doublesT x,t.1=true)∧(∀ t∈typesT x,t.1=true)∧(∀ t∈bottomsT x,t.1=true)∧(∀ t∈effectsT x,t.1=true)∧(∀ t∈undosT x,t.1=true)∧(∀ t∈sagasT x,t.1=true)∧(∀ t∈stepsT x,t.1=true)∧(∀ t∈waysT x,t.1=true):=by
 unfold Right flts
 simp only [List.mem_cons,List.not_mem_nil,or_false,forall_eq_or_imp,forall_eq,run_none]
/-- Names that all differ, and from those seen. -/
def Dist:List ByteArray→List ByteArray→Prop
 | _,[]=>True
 | seen,a::l=>seenB seen a=false∧Dist (seen++[a]) l
theorem dist_app:∀ {seen A B:List ByteArray},Dist seen (A++B)↔Dist seen A∧Dist (seen++A) B
 | seen,[],B=>by simp [Dist]
 | seen,a::A,B=>by
  show (_∧Dist (seen++[a]) (A++B))↔_
  rw [dist_app]
  show _↔(_∧Dist (seen++[a]) A)∧Dist (seen++(a::A)) B
  rw [List.append_assoc,List.singleton_append,and_assoc]
theorem dblG_dist:∀ {gs:List Sag} {seen:List ByteArray},(∀ t∈dblG gs seen,t.1=true)↔Dist seen (gs.map (·.name))
 | [],seen=>by simp [dblG,Dist]
 | g::gs,seen=>by
  unfold dblG
  simp only [List.mem_cons,forall_eq_or_imp,List.map_cons,Dist,Bool.not_eq_true']
  rw [dblG_dist]
theorem dblV_dist:∀ {vs:List Svc} {gs:List Sag} {seen:List ByteArray},(∀ t∈dblV vs gs seen,t.1=true)↔Dist seen (vs.map (·.name)++gs.map (·.name))∧∀ v∈vs,∀ t∈dblP v.name (v.methods.map (·.name)) [],t.1=true
 | [],gs,seen=>by
  unfold dblV
  rw [dblG_dist]
  simp
 | v::vs,gs,seen=>by
  unfold dblV
  simp only [List.mem_cons,forall_eq_or_imp,List.map_cons,List.mem_append,Bool.not_eq_true']
  have h1:(∀ t:Test,t∈dblP v.name (v.methods.map (·.name)) []∨t∈dblV vs gs (seen++[v.name])→t.1=true)↔(∀ t∈dblP v.name (v.methods.map (·.name)) [],t.1=true)∧∀ t∈dblV vs gs (seen++[v.name]),t.1=true:=⟨fun h=>⟨fun t ht=>h t (.inl ht),fun t ht=>h t (.inr ht)⟩,fun h t ht=>ht.elim (h.1 t) (h.2 t)⟩
  rw [h1,dblV_dist]
  show _↔(_∧Dist _ _)∧_
  exact ⟨fun ⟨a,b,c,d⟩=>⟨⟨a,c⟩,b,d⟩,fun ⟨⟨a,c⟩,b,d⟩=>⟨a,b,c,d⟩⟩
theorem dblR_dist:∀ {rs:List Rec} {vs:List Svc} {gs:List Sag} {seen:List ByteArray},(∀ t∈dblR rs vs gs seen,t.1=true)↔Dist seen (rs.map (·.name)++(vs.map (·.name)++gs.map (·.name)))∧(∀ r∈rs,∀ t∈dblP r.name (r.fields.map (·.name)) [],t.1=true)∧∀ v∈vs,∀ t∈dblP v.name (v.methods.map (·.name)) [],t.1=true
 | [],vs,gs,seen=>by
  unfold dblR
  rw [dblV_dist]
  simp
 | r::rs,vs,gs,seen=>by
  unfold dblR
  simp only [List.mem_cons,forall_eq_or_imp,List.map_cons,List.mem_append,Bool.not_eq_true']
  have h1:(∀ t:Test,t∈dblP r.name (r.fields.map (·.name)) []∨t∈dblR rs vs gs (seen++[r.name])→t.1=true)↔(∀ t∈dblP r.name (r.fields.map (·.name)) [],t.1=true)∧∀ t∈dblR rs vs gs (seen++[r.name]),t.1=true:=⟨fun h=>⟨fun t ht=>h t (.inl ht),fun t ht=>h t (.inr ht)⟩,fun h t ht=>ht.elim (h.1 t) (h.2 t)⟩
  rw [h1,dblR_dist]
  show _↔(_∧Dist _ _)∧_
  exact ⟨fun ⟨a,b,c,d,e⟩=>⟨⟨a,c⟩,⟨b,d⟩,e⟩,fun ⟨⟨a,c⟩,⟨b,d⟩,e⟩=>⟨a,b,c,d,e⟩⟩
theorem dist_not {a:ByteArray}:∀ {seen l:List ByteArray},Dist seen l→a∈l→seenB seen a=false
 | seen,b::l,h,ha=>by
  rcases List.mem_cons.1 ha with rfl | ha
  ·exact h.1
  ·have:=dist_not h.2 ha
   rw [seen_more] at this
   simp at this
   exact this.1
/-- Of names that differ the one looked for is found. -/
theorem find_self {α:Type} (nm:α→ByteArray):∀ {l:List α} {seen:List ByteArray},Dist seen (l.map nm)→∀ {r:α},r∈l→l.find? (fun y=>(nm y).toList==(nm r).toList)=some r
 | a::l,seen,h,r,hr=>by
  rw [List.find?_cons]
  rcases List.mem_cons.1 hr with rfl | hr
  ·simp
  ·have h1:=dist_not h.2 (List.mem_map.2 ⟨r,hr,rfl⟩)
   rw [seen_more] at h1
   have h2:((nm a).toList==(nm r).toList)=false:=by
    cases h3:((nm a).toList==(nm r).toList)
    ·rfl
    ·rw [h3] at h1;simp at h1
   rw [h2]
   exact find_self nm h.2 hr
theorem right_find {x:Sch} (h:Right x) {r:Rec} (hr:r∈x.records):find x r.name=some r:=by
 have h1:=(dblR_dist.1 (right_iff.1 h).2.2.1).1
 exact find_self (·.name) (dist_app.1 h1).1 hr
theorem meth_mem {x:Sch} {a b:ByteArray} {m:Mth} (h:meth x a b=some m):∃ v∈x.services,v.name.toList=a.toList∧m∈v.methods:=by
 unfold meth at h
 split at h
 ·cases h
 ·rename_i v hv
  exact ⟨v,List.mem_of_find?_eq_some hv,by simpa using List.find?_some hv,List.mem_of_find?_eq_some h⟩
end Chk
end Go.Proofs.YtjfdohhdkdjifaaGreatDoor
set_option linter.unusedVariables false
set_option linter.unusedSimpArgs false
namespace Go.Proofs.YtjfdohhdkdjifaaGreatDoor
namespace Prn
open Go.Proofs.YtjfdohhdkdjifaaGreatDoor.Id Go.Proofs.YtjfdohhdkdjifaaGreatDoor.Chk
/-! Their tokens. -/
def nT (w:ByteArray):Tk.Tok:=⟨1,w,0,0⟩
def sT (w:ByteArray):Tk.Tok:=⟨3,w,0,0⟩
def dT (n:Int):Tk.Tok:=⟨2,numW n,n.toNat,0⟩
def sortT (x:Srt):Tk.Tok:=nT (sortW x)
def fldT (f:Fld):List Tk.Tok:=nT f.name::sT sColon::(f.type.map sortT++[sT sSemi])
def recT (r:Rec):List Tk.Tok:=nT (if r.choice then wChoice else wRecord)::nT r.name::sT sLeft::(r.fields.flatMap fldT++[sT sRight])
def undoT (m:Mth):List Tk.Tok:=if m.undo.toList.isEmpty then [] else [nT wUndo,nT m.undo]
def mthT (m:Mth):List Tk.Tok:=nT m.effect::nT m.name::sT sOpen::nT m.arg::sT sClose::sT sArrow::sortT ⟨m.result,⟨#[]⟩⟩::(undoT m++[sT sSemi])
def svcT (v:Svc):List Tk.Tok:=nT wService::nT v.name::sT sLeft::(v.methods.flatMap mthT++[sT sRight])
def stpT (p:Stp):List Tk.Tok:=[nT wDo,nT p.service,sT sDot,nT p.method,nT wAt,dT p.at_,sT sSemi]
def sagT (g:Sag):List Tk.Tok:=nT wSaga::nT g.name::sT sOpen::nT g.arg::sT sClose::sT sLeft::(g.steps.flatMap stpT++[sT sRight])
def schT (x:Sch):List Tk.Tok:=nT wModule::nT x.name::sT sSemi::(x.records.flatMap recT++(x.services.flatMap svcT++x.sagas.flatMap sagT))
abbrev tx (l:List Tk.Tok):List ByteArray:=l.map (·.text)
theorem tx_sorts (l:List Srt):tx (l.map sortT)=l.map sortW:=by
 induction l with
 | nil=>rfl
 | cons a l ih=>show _::tx (l.map sortT)=_::_;rw [ih];rfl
theorem join_tx (l:List Tk.Tok):Tk.joinT l=jl (tx l):=by
 cases l with
 | nil=>rfl
 | cons t l =>
  show _++l.flatMap _=_++(tx l).flatMap _
  congr 1
  induction l with
  | nil=>rfl
  | cons u l ih=>rw [List.flatMap_cons];show _=(u.text::tx l).flatMap _;rw [List.flatMap_cons,ih]
/-! Right tokens. -/
def Own (t:Tk.Tok):Prop:=(0<t.text.size∧Tk.oneAt 3 t.text 0=({ t with at_:=0 },0))∧t.text.size≤32
theorem own_name {w:ByteArray} (h:Tk.isName w=true):Own (nT w):=by
 unfold Tk.isName at h
 simp only [Bool.and_eq_true,decide_eq_true_eq] at h
 obtain ⟨⟨⟨⟨h1,h2⟩,h3⟩,h4⟩,h5⟩:=h
 refine ⟨⟨h1,?_⟩,h2⟩
 have hb:Tk.isInner (w[0]'(by omega)).toNat=true:=by
  rw [Tk.byte_eq (by omega)] at h3
  unfold Tk.isInner
  rw [h3]
  rfl
 rw [Tk.runEnd_on (by omega) hb] at h5
 show Tk.oneAt 3 w 0=(nT w,0)
 unfold Tk.oneAt
 dsimp only
 rw [if_pos h3,h5,Tk.extract_self,if_neg (by omega)]
 rfl
theorem mem_kw {w:ByteArray} (h:Tk.isKw w=true):w∈Tk.words:=by
 unfold Tk.isKw at h
 obtain ⟨x,hx,e⟩:=List.any_eq_true.1 h
 have e2:w=x:=Tk.text_eq (by simpa using e)
 rw [e2]
 exact hx
theorem own_kw:∀ w∈Tk.words,Own (nT w):=by
 intro w hw
 simp only [Tk.words,List.mem_cons,List.not_mem_nil,or_false] at hw
 rcases hw with rfl | rfl | rfl | rfl | rfl | rfl | rfl | rfl | rfl | rfl | rfl | rfl | rfl | rfl | rfl | rfl | rfl <;> exact ⟨⟨by decide,by kernel_rfl⟩,by decide⟩
/-! What a schema is of which there is a text. -/
def finP (x:Srt):Bool:=if x.kind=1∨x.kind=2∨x.kind=3∨x.kind=4 then x.name.toList.isEmpty else if x.kind=7 then Tk.isName x.name else false
def okP:List Srt→Bool
 | []=>false
 | [x]=>finP x
 | x::y::l=>mid x&&okP (y::l)
structure OkM (m:Mth):Prop where
 ef:m.effect=wGive∨m.effect=wTake∨m.effect=wNote
 nm:Tk.isName m.name=true
 ar:Tk.isName m.arg=true
 re:m.result=1∨m.result=3
 un:m.undo.toList.isEmpty=true∨Tk.isName m.undo=true
structure OkSt (p:Stp):Prop where
 sv:Tk.isName p.service=true
 me:Tk.isName p.method=true
 lo:0≤p.at_
 hi:p.at_<4
structure Ok (x:Sch):Prop where
 nm:Tk.isName x.name=true
 rn:∀ r∈x.records,Tk.isName r.name=true
 rf:∀ r∈x.records,∀ f∈r.fields,Tk.isName f.name=true∧okP f.type=true
 vn:∀ v∈x.services,Tk.isName v.name=true
 vm:∀ v∈x.services,∀ m∈v.methods,OkM m
 gn:∀ g∈x.sagas,Tk.isName g.name=true∧Tk.isName g.arg=true
 gs:∀ g∈x.sagas,∀ p∈g.steps,OkSt p
theorem empty_of {w:ByteArray} (h:w.toList.isEmpty=true):w=⟨#[]⟩:=Tk.text_eq (by
 rw [List.isEmpty_iff.1 h]
 decide +kernel)
theorem finP_kind {x:Srt} (h:finP x=true):(x=⟨1,⟨#[]⟩⟩∨x=⟨2,⟨#[]⟩⟩∨x=⟨3,⟨#[]⟩⟩∨x=⟨4,⟨#[]⟩⟩)∨(x.kind=7∧Tk.isName x.name=true):=by
 obtain ⟨k,n⟩:=x
 unfold finP at h
 simp only at h ⊢
 split at h
 next hk =>
  rw [empty_of h]
  left
  rcases hk with rfl | rfl | rfl | rfl <;> simp
 next hk =>
  split at h
  next h7=>exact .inr ⟨h7,h⟩
  next=>cases h
theorem mid_kind {x:Srt} (h:mid x=true):x=⟨5,⟨#[]⟩⟩∨x=⟨6,⟨#[]⟩⟩:=by
 obtain ⟨k,n⟩:=x
 unfold mid at h
 simp only [Bool.and_eq_true,Bool.or_eq_true,beq_iff_eq] at h
 rw [empty_of h.2]
 rcases h.1 with rfl | rfl <;> simp
theorem sortW_mem {x:Srt} (h:(x=⟨1,⟨#[]⟩⟩∨x=⟨2,⟨#[]⟩⟩∨x=⟨3,⟨#[]⟩⟩∨x=⟨4,⟨#[]⟩⟩)∨(x=⟨5,⟨#[]⟩⟩∨x=⟨6,⟨#[]⟩⟩)):Own (sortT x):=by
 rcases h with (rfl | rfl | rfl | rfl) | (rfl | rfl) <;> exact ⟨⟨by decide,by kernel_rfl⟩,by decide⟩
theorem sortW_name {x:Srt} (h:x.kind=7):sortW x=x.name:=by
 unfold sortW
 simp [h]
theorem own_sorts:∀ {t:List Srt},okP t=true→∀ x∈t,Own (sortT x)
 | [],h,x,hx=>by cases hx
 | [y],h,x,hx=>by
  simp only [List.mem_singleton] at hx
  subst hx
  rcases finP_kind h with h1 | ⟨h7,hn⟩
  ·exact sortW_mem (.inl h1)
  ·unfold sortT
   rw [sortW_name h7]
   exact own_name hn
 | y::z::l,h,x,hx=>by
  have h':(mid y&&okP (z::l))=true:=h
  rw [Bool.and_eq_true] at h'
  rcases List.mem_cons.1 hx with rfl | hx
  ·exact sortW_mem (.inr (mid_kind h'.1))
  ·exact own_sorts h'.2 x hx
def Owns (l:List Tk.Tok):Prop:=∀ t∈l,Own t
theorem all_text {l:List Tk.Tok} (h:Owns l) (hs:(jn (tx l)).size≤65536):Tk.all (jn (tx l))=(Tk.placed l 0,0,0) :=
 Tk.all_joinT (fun t ht=>(h t ht).1) (by rw [jn_data,join_tx]) hs
/-! Reading. -/
theorem name_kw {w k:ByteArray} (h:Tk.isName w=true) (hk:k∈Tk.words):(w.toList==k.toList)=false:=by
 unfold Tk.isName at h
 simp only [Bool.and_eq_true,Bool.not_eq_true'] at h
 have h4:=h.1.2
 unfold Tk.isKw at h4
 rw [List.any_eq_false] at h4
 exact Bool.eq_false_iff.2 (h4 k hk)
theorem is_n (w k:ByteArray) (r:List Tk.Tok):is (nT w::r,false) k=(w.toList==k.toList):=by simp [is,nT]
theorem name_n {w:ByteArray} (h:Tk.isName w=true) (r:List Tk.Tok):name (nT w::r,false)=(w,(r,false)):=by
 unfold name one
 simp [nT,h]
theorem endW_name {w:ByteArray} (h:Tk.isName w=true):endW w=0:=by
 have h1:=beq_eq_false_iff_ne.1 (name_kw h (k:=⟨#[110,111,110,101]⟩) (mem_kw (by decide +kernel)))
 have h2:=beq_eq_false_iff_ne.1 (name_kw h (k:=⟨#[98,111,111,108]⟩) (mem_kw (by decide +kernel)))
 have h3:=beq_eq_false_iff_ne.1 (name_kw h (k:=⟨#[105,110,116]⟩) (mem_kw (by decide +kernel)))
 have h4:=beq_eq_false_iff_ne.1 (name_kw h (k:=⟨#[116,101,120,116]⟩) (mem_kw (by decide +kernel)))
 rw [show (⟨#[110,111,110,101]⟩:ByteArray).toList=[110,111,110,101] by decide +kernel] at h1
 rw [show (⟨#[98,111,111,108]⟩:ByteArray).toList=[98,111,111,108] by decide +kernel] at h2
 rw [show (⟨#[105,110,116]⟩:ByteArray).toList=[105,110,116] by decide +kernel] at h3
 rw [show (⟨#[116,101,120,116]⟩:ByteArray).toList=[116,101,120,116] by decide +kernel] at h4
 unfold endW
 rw [if_neg h1,if_neg h2,if_neg h3,if_neg h4]
theorem sorts_end {f:Nat} {w:ByteArray} {k:Nat} (h1:(w.toList==wList.toList)=false) (h2:(w.toList==wOpt.toList)=false) (h3:endW w=k+1) (r:List Tk.Tok) (acc:List Srt):sortsF (f+1) (nT w::r,false) acc=(acc++[⟨k+1,⟨#[]⟩⟩],(r,false)):=by
 rw [sortsF]
 simp only [is_n,h1,h2,Bool.false_eq_true,if_false]
 rw [if_pos (by simp [ends,nT,h3])]
 simp [head,nT,h3]
theorem sortsF_ok:∀ (t:List Srt) (f:Nat) (r:List Tk.Tok) (acc:List Srt),okP t=true→t.length≤f→sortsF f (t.map sortT++r,false) acc=(acc++t,(r,false))
 | [],f,r,acc,h,hf=>by cases h
 | [x],0,r,acc,h,hf=>by simp at hf
 | [x],f+1,r,acc,h,hf=>by
  rcases finP_kind h with (rfl | rfl | rfl | rfl) | ⟨h7,hn⟩
  ·exact sorts_end (w:=wNone) (by decide +kernel) (by decide +kernel) (k:=0) (by decide +kernel) r acc
  ·exact sorts_end (w:=wBool) (by decide +kernel) (by decide +kernel) (k:=1) (by decide +kernel) r acc
  ·exact sorts_end (w:=wInt) (by decide +kernel) (by decide +kernel) (k:=2) (by decide +kernel) r acc
  ·exact sorts_end (w:=wText) (by decide +kernel) (by decide +kernel) (k:=3) (by decide +kernel) r acc
  ·obtain ⟨k,n⟩:=x
   simp only at h7 hn
   subst h7
   show sortsF (f+1) (nT n::r,false) acc=_
   rw [sortsF]
   simp only [is_n,name_kw hn (k:=wList) (mem_kw (by decide +kernel)),name_kw hn (k:=wOpt) (mem_kw (by decide +kernel)),Bool.false_eq_true,if_false]
   rw [if_neg (by simp [ends,nT,endW_name hn]),name_n hn]
 | x::y::l,0,r,acc,h,hf=>by simp at hf
 | x::y::l,f+1,r,acc,h,hf=>by
  have h':(mid x&&okP (y::l))=true:=h
  rw [Bool.and_eq_true] at h'
  rcases mid_kind h'.1 with rfl | rfl
  ·show sortsF (f+1) (nT wList::((y::l).map sortT++r),false) acc=_
   rw [sortsF]
   simp only [is_n,show (wList.toList==wList.toList)=true by decide +kernel,Bool.false_eq_true,if_false,if_true,List.tail_cons]
   rw [sortsF_ok (y::l) f r _ h'.2 (by simpa using hf)]
   simp
  ·show sortsF (f+1) (nT wOpt::((y::l).map sortT++r),false) acc=_
   rw [sortsF]
   simp only [is_n,show (wOpt.toList==wList.toList)=false by decide +kernel,show (wOpt.toList==wOpt.toList)=true by decide +kernel,Bool.false_eq_true,if_false,if_true,List.tail_cons]
   rw [sortsF_ok (y::l) f r _ h'.2 (by simpa using hf)]
   simp
theorem sorts_ok {t:List Srt} (h:okP t=true) (r:List Tk.Tok):sorts (t.map sortT++r,false)=(t,(r,false)):=by
 unfold sorts
 rw [sortsF_ok t _ r [] h (by simp;omega)]
 rfl
theorem placed_z:∀ (l:List Tk.Tok) (k:Nat),(Tk.placed l k).map z=l.map z
 | [],_=>rfl
 | t::l,k=>by
  show z _::(Tk.placed l _).map z=z t::l.map z
  rw [placed_z l]
  rfl
theorem tok_z {t:Tk.Tok} (h:t.at_=0):z t=t:=by
 obtain ⟨a,b,c,d⟩:=t
 simp only at h
 subst h
 rfl
theorem z_all:∀ {l:List Tk.Tok},(∀ t∈l,t.at_=0)→l.map z=l
 | [],_=>rfl
 | t::l,h=>by rw [List.map_cons,tok_z (h t (by simp)),z_all (fun u hu=>h u (by simp [hu]))]
theorem at_flat {α:Type} {f:α→List Tk.Tok} {l:List α} (h:∀ a∈l,∀ t∈f a,t.at_=0):∀ t∈l.flatMap f,t.at_=0:=fun t ht=>by
 obtain ⟨a,ha,ht⟩:=List.mem_flatMap.1 ht
 exact h a ha t ht
theorem at_sorts (l:List Srt):∀ t∈l.map sortT,t.at_=0:=fun t ht=>by
 obtain ⟨a,_,rfl⟩:=List.mem_map.1 ht
 rfl
theorem sch_at (x:Sch):∀ t∈schT x,t.at_=0:=by
 have hf:∀ f:Fld,∀ t∈fldT f,t.at_=0:=fun f t ht=>by
  simp only [fldT,List.mem_cons,List.mem_append,List.not_mem_nil,or_false] at ht
  rcases ht with rfl | rfl | ht | rfl
  ·rfl
  ·rfl
  ·exact at_sorts _ t ht
  ·rfl
 have hm:∀ m:Mth,∀ t∈mthT m,t.at_=0:=fun m t ht=>by
  simp only [mthT,undoT,List.mem_cons,List.mem_append,List.not_mem_nil,or_false] at ht
  rcases ht with rfl | rfl | rfl | rfl | rfl | rfl | rfl | ht | rfl
  ·rfl
  ·rfl
  ·rfl
  ·rfl
  ·rfl
  ·rfl
  ·rfl
  ·split at ht
   ·cases ht
   ·simp only [List.mem_cons,List.not_mem_nil,or_false] at ht
    rcases ht with rfl | rfl <;> rfl
  ·rfl
 have hp:∀ p:Stp,∀ t∈stpT p,t.at_=0:=fun p t ht=>by
  simp only [stpT,List.mem_cons,List.not_mem_nil,or_false] at ht
  rcases ht with rfl | rfl | rfl | rfl | rfl | rfl | rfl <;> rfl
 intro t ht
 simp only [schT,List.mem_cons,List.mem_append] at ht
 rcases ht with rfl | rfl | rfl | ht | ht | ht
 ·rfl
 ·rfl
 ·rfl
 ·refine at_flat (fun r _ t ht=>?_) t ht
  simp only [recT,List.mem_cons,List.mem_append,List.not_mem_nil,or_false] at ht
  rcases ht with rfl | rfl | rfl | ht | rfl
  ·rfl
  ·rfl
  ·rfl
  ·exact at_flat (fun f _=>hf f) t ht
  ·rfl
 ·refine at_flat (fun r _ t ht=>?_) t ht
  simp only [svcT,List.mem_cons,List.mem_append,List.not_mem_nil,or_false] at ht
  rcases ht with rfl | rfl | rfl | ht | rfl
  ·rfl
  ·rfl
  ·rfl
  ·exact at_flat (fun f _=>hm f) t ht
  ·rfl
 ·refine at_flat (fun r _ t ht=>?_) t ht
  simp only [sagT,List.mem_cons,List.mem_append,List.not_mem_nil,or_false] at ht
  rcases ht with rfl | rfl | rfl | rfl | rfl | rfl | ht | rfl
  ·rfl
  ·rfl
  ·rfl
  ·rfl
  ·rfl
  ·rfl
  ·exact at_flat (fun f _=>hp f) t ht
  ·rfl
/-- Reading commutes with places. -/
theorem read_placed {α:Type} {read:St→α × St} (hz:∀ s,read (zs s)=((read s).1,zs (read s).2)) {l:List Tk.Tok} (h0:∀ t∈l,t.at_=0) {a:α} (h:read (l,false)=(a,([],false))):read (Tk.placed l 0,false)=(a,([],false)):=by
 have h1:=hz (Tk.placed l 0,false)
 rw [show zs (Tk.placed l 0,false)=(l,false) from by unfold zs;rw [placed_z,z_all h0],h] at h1
 obtain ⟨⟨b,q,e⟩,hb⟩:∃ p,read (Tk.placed l 0,false)=p:=⟨_,rfl⟩
 rw [hb] at h1 ⊢
 unfold zs at h1
 simp only [Prod.mk.injEq] at h1
 obtain ⟨h2,h3,h4⟩:=h1
 rw [←h2,←h4,List.map_eq_nil_iff.1 h3.symm]
/-- A right schema has such parts. -/
theorem ok_of_right {x:Sch} (h:Right x):Ok x:=by
 obtain ⟨hn,hc,hd,ht,hb,he,hu,hg,hs,hw⟩:=right_iff.1 h
 unfold namesT at hn
 simp only [List.mem_cons,List.mem_append,forall_eq_or_imp] at hn
 obtain ⟨n0,n1⟩:=hn
 have nr:∀ r∈x.records,Tk.isName r.name=true∧∀ f∈r.fields,Tk.isName f.name=true:=fun r hr=>by
  have k:=fun t (ht:t∈namesR r)=>n1 t (.inl (List.mem_flatMap.2 ⟨r,hr,ht⟩))
  exact ⟨k (nm r.name) (by simp [namesR]),fun f hf=>k (nm f.name) (by unfold namesR;exact List.mem_cons_of_mem _ (List.mem_flatMap.2 ⟨f,hf,by simp [namesF]⟩))⟩
 have nv:∀ v∈x.services,Tk.isName v.name=true∧∀ m∈v.methods,Tk.isName m.name=true:=fun v hv=>by
  have k:=fun t (ht:t∈namesV v)=>n1 t (.inr (.inl (List.mem_flatMap.2 ⟨v,hv,ht⟩)))
  exact ⟨k (nm v.name) (by simp [namesV]),fun f hf=>k (nm f.name) (by unfold namesV;exact List.mem_cons_of_mem _ (List.mem_flatMap.2 ⟨f,hf,by simp [namesM]⟩))⟩
 have ng:∀ g∈x.sagas,Tk.isName g.name=true:=fun g hg=>n1 (nm g.name) (.inr (.inr (List.mem_flatMap.2 ⟨g,hg,by simp [namesG]⟩)))
 have fnd:∀ w:ByteArray,(find x w).isSome=true→Tk.isName w=true:=fun w hw=>by
  obtain ⟨r,hr⟩:=Option.isSome_iff_exists.1 hw
  have h1:=List.find?_some hr
  have h2:=List.mem_of_find?_eq_some hr
  have e:r.name=w:=Tk.text_eq (by simpa using h1)
  rw [←e]
  exact (nr r h2).1
 have ord:∀ w:ByteArray,order x w=true→Tk.isName w=true:=fun w hw=>by
  refine fnd w ?_
  unfold order at hw
  split at hw
  ·cases hw
  ·next hf=>rw [hf];rfl
 have okt:∀ t:List Srt,okT x t=true→okP t=true:=by
  intro t
  induction t with
  | nil=>intro h;cases h
  | cons a t ih =>
   intro h
   cases t with
   | nil =>
    have h':fin x a=true:=h
    show finP a=true
    unfold fin at h'
    unfold finP
    split at h'
    next hk=>rw [if_pos hk];exact h'
    next hk =>
     rw [if_neg hk]
     split at h'
     next h7=>rw [if_pos h7];exact fnd _ h'
     next=>cases h'
   | cons b t =>
    have h':(mid a&&okT x (b::t))=true:=h
    rw [Bool.and_eq_true] at h'
    show (mid a&&okP (b::t))=true
    rw [Bool.and_eq_true]
    exact ⟨h'.1,ih h'.2⟩
 have ms:∀ v∈x.services,∀ m∈v.methods,(m.result=1∨m.result=3)∧(contrary m.effect).toList.isEmpty=false∧order x m.arg=true∧(m.undo.toList.isEmpty=true∨undoOk x v.name m=true):=fun v hv m hm=>by
  have k1:=ht (m.result==3||m.result==1,Chk.part v.name m.name) (by unfold typesT;exact List.mem_append_right _ (List.mem_flatMap.2 ⟨v,hv,List.mem_flatMap.2 ⟨m,hm,by simp [typesM]⟩⟩))
  have k2:=he (!(contrary m.effect).toList.isEmpty&&order x m.arg,Chk.part v.name m.name) (List.mem_flatMap.2 ⟨v,hv,List.mem_flatMap.2 ⟨m,hm,by simp [effectsM]⟩⟩)
  have k3:=hu (m.undo.toList.isEmpty||undoOk x v.name m,Chk.part v.name m.name) (List.mem_flatMap.2 ⟨v,hv,List.mem_flatMap.2 ⟨m,hm,by simp [undosM]⟩⟩)
  simp only [Bool.or_eq_true,beq_iff_eq] at k1
  simp only [Bool.and_eq_true,Bool.not_eq_true'] at k2
  simp only [Bool.or_eq_true] at k3
  exact ⟨k1.symm,k2.1,k2.2,k3⟩
 have mth:∀ a b m,meth x a b=some m→Tk.isName a=true∧Tk.isName b=true:=fun a b m hm=>by
  obtain ⟨v,hv,e,hmv⟩:=meth_mem hm
  refine ⟨by rw [←Tk.text_eq e];exact (nv v hv).1,?_⟩
  unfold meth at hm
  split at hm
  ·cases hm
  ·have h1:=List.find?_some hm
   have e2:m.name=b:=Tk.text_eq (by simpa using h1)
   rw [←e2]
   exact (nv v hv).2 m hmv
 refine ⟨n0,fun r hr=>(nr r hr).1,fun r hr f hf=>⟨(nr r hr).2 f hf,?_⟩,fun v hv=>(nv v hv).1,fun v hv m hm=>?_,fun g hg'=>⟨ng g hg',?_⟩,fun g hg' p hp=>?_⟩
 ·have k:=ht (right x f.type,Chk.part r.name f.name) (by unfold typesT;exact List.mem_append_left _ (List.mem_flatMap.2 ⟨r,hr,List.mem_flatMap.2 ⟨f,hf,by simp [typesF]⟩⟩))
  simp only at k
  unfold right at k
  rw [Bool.and_eq_true] at k
  exact okt _ k.2
 ·obtain ⟨k1,k2,k3,k4⟩:=ms v hv m hm
  refine ⟨?_,(nv v hv).2 m hm,ord _ k3,k1,?_⟩
  ·unfold contrary at k2
   by_cases e1:m.effect.toList=wGive.toList
   ·exact .inl (Tk.text_eq e1)
   ·rw [if_neg e1] at k2
    by_cases e2:m.effect.toList=wTake.toList
    ·exact .inr (.inl (Tk.text_eq e2))
    ·rw [if_neg e2] at k2
     by_cases e3:m.effect.toList=wNote.toList
     ·exact .inr (.inr (Tk.text_eq e3))
     ·rw [if_neg e3] at k2
      exact absurd k2 (by decide +kernel)
  ·refine k4.imp id fun k=>?_
   unfold undoOk at k
   split at k
   ·cases k
   ·next u hu'=>exact (mth _ _ _ hu').2
 ·have k:=hg (order x g.arg,g.name) (List.mem_flatMap.2 ⟨g,hg',by simp⟩)
  exact ord _ k
 ·obtain ⟨k,hk,rfl⟩:=List.getElem_of_mem hp
  have hz:(g.steps[k],k)∈g.steps.zipIdx:=by
   rw [List.mem_iff_getElem]
   exact ⟨k,by rw [List.length_zipIdx];exact hk,by rw [List.getElem_zipIdx,Nat.zero_add]⟩
  have h1:=hs (stepOk x g.arg g.steps[k],nth g.name k) (List.mem_flatMap.2 ⟨g,hg',List.mem_flatMap.2 ⟨_,hz,by simp [stepsP]⟩⟩)
  simp only at h1
  unfold stepOk at h1
  split at h1
  ·cases h1
  ·next m hm =>
   unfold stepOf at h1
   simp only [Bool.and_eq_true,decide_eq_true_eq] at h1
   exact ⟨(mth _ _ _ hm).1,(mth _ _ _ hm).2,h1.1.2,h1.2⟩
end Prn
end Go.Proofs.YtjfdohhdkdjifaaGreatDoor
