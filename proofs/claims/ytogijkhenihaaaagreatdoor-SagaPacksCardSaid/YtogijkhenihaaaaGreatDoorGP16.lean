/- check, plain: what a right schema has. No condition. -/
import Derived.Test.YtogijkhenihaaaaGreatDoorGP15
import Derived.Test.YtogijkhenihaaaaGreatDoorGP04
import Derived.Test.YtogijkhenihaaaaGreatDoorGP09
import Derived.Test.YtogijkhenihaaaaGreatDoorGP12
set_option linter.unusedVariables false
set_option linter.unusedSimpArgs false
namespace Go.Proofs.YtogijkhenihaaaaGreatDoor
namespace Chk
open Go.Proofs.YtogijkhenihaaaaGreatDoor.Id
theorem run_some (e:Nat) (p:ByteArray × Nat):∀ l:List Test,run e l (some p)=some p
 | []=>rfl
 | t::l=>by
  have:at_ t.1 t.2 e (some p)=some p:=by unfold at_;cases t.1 <;> rfl
  show run e l (at_ t.1 t.2 e (some p))=some p
  rw [this]
  exact run_some e p l
theorem run_none {e:Nat}:∀ {l:List Test},run e l none=none↔∀ t∈l,t.1=true
 | []=>by simp [run]
 | t::l=>by
  show run e l (at_ t.1 t.2 e none)=none↔_
  cases h:t.1
  ·have:at_ false t.2 e none=some (t.2,e):=rfl
   rw [this,run_some]
   simp [h]
  ·have:at_ true t.2 e none=none:=rfl
   rw [this,run_none]
   simp [h]
theorem run_code {e:Nat}:∀ {l:List Test} {p:ByteArray × Nat},run e l none=some p→p.2=e
 | [],p,h=>by cases h
 | t::l,p,h=>by
  replace h:run e l (at_ t.1 t.2 e none)=some p:=h
  cases ht:t.1
  ·have:at_ t.1 t.2 e none=some (t.2,e):=by rw [ht];rfl
   rw [this,run_some] at h
   injection h with h
   rw [←h]
  ·have:at_ t.1 t.2 e none=none:=by rw [ht];rfl
   rw [this] at h
   exact run_code h
def Right (x:Sch):Prop:=∀ f∈flts x,f=none
theorem first_ok:∀ {l:List Flt},(∀ f∈l,∀ p,f=some p→p.2≠0)→(first l).2=0→∀ f∈l,f=none
 | [],_,_=>by simp
 | none::l,h,h0=>by
  intro f hf
  rcases List.mem_cons.1 hf with rfl | hf
  ·rfl
  ·exact first_ok (l:=l) (fun g hg=>h g (by simp [hg])) h0 f hf
 | some p::l,h,h0=>absurd h0 (h _ (by simp) p rfl)
theorem check_ok {x:Sch} (h:(check x).2=0):Right x:=by
 refine first_ok (fun f hf p hp=>?_) h
 unfold flts at hf
 simp only [List.mem_cons,List.not_mem_nil,or_false] at hf
 rcases hf with h | h | h | h | h | h | h | h | h | h <;> (rw [h] at hp;rw [run_code hp];decide)
theorem right_iff {x:Sch}:Right x↔(∀ t∈namesT x,t.1=true)∧(∀ t∈countsT x,t.1=true)∧(∀ t∈doublesT x,t.1=true)∧(∀ t∈typesT x,t.1=true)∧(∀ t∈bottomsT x,t.1=true)∧(∀ t∈effectsT x,t.1=true)∧(∀ t∈undosT x,t.1=true)∧(∀ t∈sagasT x,t.1=true)∧(∀ t∈stepsT x,t.1=true)∧(∀ t∈waysT x,t.1=true):=by
 unfold Right flts
 simp only [List.mem_cons,List.not_mem_nil,or_false,forall_eq_or_imp,forall_eq,run_none]
theorem meth_mem {x:Sch} {a b:ByteArray} {m:Mth} (h:meth x a b=some m):∃ v∈x.services,v.name.toList=a.toList∧m∈v.methods:=by
 unfold meth at h
 split at h
 ·cases h
 ·rename_i v hv
  exact ⟨v,List.mem_of_find?_eq_some hv,by simpa using List.find?_some hv,List.mem_of_find?_eq_some h⟩
theorem meth_congr {x:Sch} {a a' b:ByteArray} (h:a.toList=a'.toList):meth x a b=meth x a' b:=by
 unfold meth
 rw [h]
/-- Each step's method is there, takes what the saga takes; if it is not the last one, it can be undone. -/
theorem right_step {x:Sch} (h:Right x) {g:Sag} (hg:g∈x.sagas) {k:Nat} (hk:k<g.steps.length):∃ m,meth x g.steps[k].service g.steps[k].method=some m∧m.arg.toList=g.arg.toList ∧
  (k+1<g.steps.length→∃ u,meth x g.steps[k].service m.undo=some u∧u.arg.toList=m.arg.toList∧u.undo.toList.isEmpty=true∧u.effect.toList=(contrary m.effect).toList∧(contrary m.effect).toList.isEmpty=false):=by
 obtain ⟨_,_,_,_,_,he,hu,_,hs,hw⟩:=right_iff.1 h
 have hz:(g.steps[k],k)∈g.steps.zipIdx:=by
  rw [List.mem_iff_getElem]
  exact ⟨k,by rw [List.length_zipIdx];exact hk,by rw [List.getElem_zipIdx,Nat.zero_add]⟩
 have h1:=hs (stepOk x g.arg g.steps[k],nth g.name k) (List.mem_flatMap.2 ⟨g,hg,List.mem_flatMap.2 ⟨_,hz,by simp [stepsP]⟩⟩)
 have h2:=hw (wayOk x g.steps.length (g.steps[k],k),nth g.name k) (List.mem_flatMap.2 ⟨g,hg,List.mem_flatMap.2 ⟨_,hz,by simp [waysP]⟩⟩)
 simp only at h1 h2
 unfold stepOk at h1
 split at h1
 ·cases h1
 ·rename_i m hm
  unfold stepOf at h1
  simp only [Bool.and_eq_true,beq_iff_eq] at h1
  refine ⟨m,hm,h1.1.1,fun hlt=>?_⟩
  unfold wayOk at h2
  rw [hm] at h2
  have hne:(k+1==g.steps.length)=false:=by rw [beq_eq_false_iff_ne];omega
  simp only [hne,Bool.false_or,Option.getD_some,Bool.not_eq_true'] at h2
  obtain ⟨v,hv,hvn,hmv⟩:=meth_mem hm
  have h3:=hu (m.undo.toList.isEmpty||undoOk x v.name m,part v.name m.name) (List.mem_flatMap.2 ⟨v,hv,List.mem_flatMap.2 ⟨m,hmv,by simp [undosM]⟩⟩)
  have h4:=he (!(contrary m.effect).toList.isEmpty&&order x m.arg,part v.name m.name) (List.mem_flatMap.2 ⟨v,hv,List.mem_flatMap.2 ⟨m,hmv,by simp [effectsM]⟩⟩)
  simp only [h2,Bool.false_or] at h3
  simp only [Bool.and_eq_true,Bool.not_eq_true'] at h4
  unfold undoOk at h3
  split at h3
  ·cases h3
  ·rename_i u hum
   unfold undoOf at h3
   simp only [Bool.and_eq_true,beq_iff_eq] at h3
   exact ⟨u,by rw [←meth_congr hvn];exact hum,h3.1.1.1,h3.1.1.2,h3.2,h4.1⟩
end Chk
end Go.Proofs.YtogijkhenihaaaaGreatDoor
set_option linter.unusedVariables false
set_option linter.unusedSimpArgs false
namespace Go.Proofs.YtogijkhenihaaaaGreatDoor
namespace Prn
open Go.Proofs.YtogijkhenihaaaaGreatDoor.Id Go.Proofs.YtogijkhenihaaaaGreatDoor.Chk
/-! Their tokens. -/
def nT (w:ByteArray):Tk.Tok:=⟨1,w,0,0⟩
def sT (w:ByteArray):Tk.Tok:=⟨3,w,0,0⟩
def dT (n:Int):Tk.Tok:=⟨2,numW n,n.toNat,0⟩
def sortT (x:Srt):Tk.Tok:=nT (sortW x)
def fldT (f:Fld):List Tk.Tok:=nT f.name::sT sColon::(f.type.map sortT++[sT sSemi])
def recT (r:Rec):List Tk.Tok:=nT (if r.choice then wChoice else wRecord)::nT r.name::sT sLeft::(r.fields.flatMap fldT++[sT sRight])
def undoT (m:Mth):List Tk.Tok:=if m.undo.toList.isEmpty then [] else [nT wUndo,nT m.undo]
def mthT (m:Mth):List Tk.Tok:=nT m.effect::nT m.name::sT sOpen::nT m.arg::sT sClose::sT sArrow::sortT ⟨m.result,⟨#[]⟩⟩::(undoT m++[sT sSemi])
def svcT (v:Svc):List Tk.Tok:=nT wService::nT v.name::sT sLeft::(v.methods.flatMap mthT++[sT sRight])
def stpT (p:Stp):List Tk.Tok:=[nT wDo,nT p.service,sT sDot,nT p.method,nT wAt,dT p.at_,sT sSemi]
def sagT (g:Sag):List Tk.Tok:=nT wSaga::nT g.name::sT sOpen::nT g.arg::sT sClose::sT sLeft::(g.steps.flatMap stpT++[sT sRight])
def schT (x:Sch):List Tk.Tok:=nT wModule::nT x.name::sT sSemi::(x.records.flatMap recT++(x.services.flatMap svcT++x.sagas.flatMap sagT))
abbrev tx (l:List Tk.Tok):List ByteArray:=l.map (·.text)
theorem tx_app (a b:List Tk.Tok):tx (a++b)=tx a++tx b:=List.map_append
theorem tx_flat {α:Type} {f:α→List Tk.Tok} {g:α→List ByteArray} (h:∀ a,tx (f a)=g a) (l:List α):tx (l.flatMap f)=l.flatMap g:=by
 induction l with
 | nil=>rfl
 | cons a l ih=>rw [List.flatMap_cons,List.flatMap_cons,tx_app,h,ih]
theorem tx_sorts (l:List Srt):tx (l.map sortT)=l.map sortW:=by
 induction l with
 | nil=>rfl
 | cons a l ih=>show _::tx (l.map sortT)=_::_;rw [ih];rfl
theorem fld_tx (f:Fld):tx (fldT f)=fldW f:=by
 show f.name::sColon::tx (f.type.map sortT++[sT sSemi])=_
 rw [tx_app,tx_sorts]
 rfl
theorem rec_tx (r:Rec):tx (recT r)=recW r:=by
 show _::r.name::sLeft::tx (r.fields.flatMap fldT++[sT sRight])=_
 rw [tx_app,tx_flat fld_tx]
 rfl
theorem mth_tx (m:Mth):tx (mthT m)=mthW m:=by
 show m.effect::m.name::sOpen::m.arg::sClose::sArrow::_::tx (undoT m++[sT sSemi])=_
 rw [tx_app]
 unfold undoT mthW undoW
 split <;> rfl
theorem svc_tx (v:Svc):tx (svcT v)=svcW v:=by
 show _::v.name::sLeft::tx (v.methods.flatMap mthT++[sT sRight])=_
 rw [tx_app,tx_flat mth_tx]
 rfl
theorem sag_tx (g:Sag):tx (sagT g)=sagW g:=by
 show _::g.name::sOpen::g.arg::sClose::sLeft::tx (g.steps.flatMap stpT++[sT sRight])=_
 rw [tx_app,tx_flat (f:=stpT) (g:=stpW) (fun p=>rfl)]
 rfl
theorem sch_tx (x:Sch):tx (schT x)=schW x:=by
 show _::x.name::sSemi::tx (x.records.flatMap recT++(x.services.flatMap svcT++x.sagas.flatMap sagT))=_
 rw [tx_app,tx_app,tx_flat rec_tx,tx_flat svc_tx,tx_flat sag_tx]
 rfl
theorem join_tx (l:List Tk.Tok):Tk.joinT l=jl (tx l):=by
 cases l with
 | nil=>rfl
 | cons t l =>
  show _++l.flatMap _=_++(tx l).flatMap _
  congr 1
  induction l with
  | nil=>rfl
  | cons u l ih=>rw [List.flatMap_cons];show _=(u.text::tx l).flatMap _;rw [List.flatMap_cons,ih]
/-! Right tokens. -/
def Own (t:Tk.Tok):Prop:=(0<t.text.size∧Tk.oneAt 3 t.text 0=({ t with at_:=0 },0))∧t.text.size≤32
theorem own_name {w:ByteArray} (h:Tk.isName w=true):Own (nT w):=by
 unfold Tk.isName at h
 simp only [Bool.and_eq_true,decide_eq_true_eq] at h
 obtain ⟨⟨⟨⟨h1,h2⟩,h3⟩,h4⟩,h5⟩:=h
 refine ⟨⟨h1,?_⟩,h2⟩
 have hb:Tk.isInner (w[0]'(by omega)).toNat=true:=by
  rw [Tk.byte_eq (by omega)] at h3
  unfold Tk.isInner
  rw [h3]
  rfl
 rw [Tk.runEnd_on (by omega) hb] at h5
 show Tk.oneAt 3 w 0=(nT w,0)
 unfold Tk.oneAt
 dsimp only
 rw [if_pos h3,h5,Tk.extract_self,if_neg (by omega)]
 rfl
theorem mem_kw {w:ByteArray} (h:Tk.isKw w=true):w∈Tk.words:=by
 unfold Tk.isKw at h
 obtain ⟨x,hx,e⟩:=List.any_eq_true.1 h
 have e2:w=x:=Tk.text_eq (by simpa using e)
 rw [e2]
 exact hx
theorem own_kw:∀ w∈Tk.words,Own (nT w):=by
 intro w hw
 simp only [Tk.words,List.mem_cons,List.not_mem_nil,or_false] at hw
 rcases hw with rfl | rfl | rfl | rfl | rfl | rfl | rfl | rfl | rfl | rfl | rfl | rfl | rfl | rfl | rfl | rfl | rfl <;> exact ⟨⟨by decide,by kernel_rfl⟩,by decide⟩
theorem own_colon:Own (sT sColon):=⟨⟨by decide,by kernel_rfl⟩,by decide⟩
theorem own_semi:Own (sT sSemi):=⟨⟨by decide,by kernel_rfl⟩,by decide⟩
theorem own_left:Own (sT sLeft):=⟨⟨by decide,by kernel_rfl⟩,by decide⟩
theorem own_right:Own (sT sRight):=⟨⟨by decide,by kernel_rfl⟩,by decide⟩
theorem own_open:Own (sT sOpen):=⟨⟨by decide,by kernel_rfl⟩,by decide⟩
theorem own_close:Own (sT sClose):=⟨⟨by decide,by kernel_rfl⟩,by decide⟩
theorem own_dot:Own (sT sDot):=⟨⟨by decide,by kernel_rfl⟩,by decide⟩
theorem own_arrow:Own (sT sArrow):=⟨⟨by decide,by kernel_rfl⟩,by decide⟩
theorem num_text (n:Nat) (h:n<10):numW (n:Int)=⟨#[UInt8.ofNat (48+n)]⟩:=by
 unfold numW
 rw [Lib.itoa_nonneg,Lib.decDigits_one h]
theorem own_num {n:Int} (h0:0≤n) (h4:n<4):Own (dT n):=by
 have:n=((0:Nat):Int)∨n=((1:Nat):Int)∨n=((2:Nat):Int)∨n=((3:Nat):Int):=by omega
 rcases this with rfl | rfl | rfl | rfl <;> (unfold dT;rw [num_text _ (by decide)];exact ⟨⟨by decide,by kernel_rfl⟩,by decide⟩)
/-! What a schema is of which there is a text. -/
def finP (x:Srt):Bool:=if x.kind=1∨x.kind=2∨x.kind=3∨x.kind=4 then x.name.toList.isEmpty else if x.kind=7 then Tk.isName x.name else false
def okP:List Srt→Bool
 | []=>false
 | [x]=>finP x
 | x::y::l=>mid x&&okP (y::l)
structure OkM (m:Mth):Prop where
 ef:m.effect=wGive∨m.effect=wTake∨m.effect=wNote
 nm:Tk.isName m.name=true
 ar:Tk.isName m.arg=true
 re:m.result=1∨m.result=3
 un:m.undo.toList.isEmpty=true∨Tk.isName m.undo=true
structure OkSt (p:Stp):Prop where
 sv:Tk.isName p.service=true
 me:Tk.isName p.method=true
 lo:0≤p.at_
 hi:p.at_<4
structure Ok (x:Sch):Prop where
 nm:Tk.isName x.name=true
 rn:∀ r∈x.records,Tk.isName r.name=true
 rf:∀ r∈x.records,∀ f∈r.fields,Tk.isName f.name=true∧okP f.type=true
 vn:∀ v∈x.services,Tk.isName v.name=true
 vm:∀ v∈x.services,∀ m∈v.methods,OkM m
 gn:∀ g∈x.sagas,Tk.isName g.name=true∧Tk.isName g.arg=true
 gs:∀ g∈x.sagas,∀ p∈g.steps,OkSt p
theorem empty_of {w:ByteArray} (h:w.toList.isEmpty=true):w=⟨#[]⟩:=Tk.text_eq (by
 rw [List.isEmpty_iff.1 h]
 decide +kernel)
theorem finP_kind {x:Srt} (h:finP x=true):(x=⟨1,⟨#[]⟩⟩∨x=⟨2,⟨#[]⟩⟩∨x=⟨3,⟨#[]⟩⟩∨x=⟨4,⟨#[]⟩⟩)∨(x.kind=7∧Tk.isName x.name=true):=by
 obtain ⟨k,n⟩:=x
 unfold finP at h
 simp only at h ⊢
 split at h
 next hk =>
  rw [empty_of h]
  left
  rcases hk with rfl | rfl | rfl | rfl <;> simp
 next hk =>
  split at h
  next h7=>exact .inr ⟨h7,h⟩
  next=>cases h
theorem mid_kind {x:Srt} (h:mid x=true):x=⟨5,⟨#[]⟩⟩∨x=⟨6,⟨#[]⟩⟩:=by
 obtain ⟨k,n⟩:=x
 unfold mid at h
 simp only [Bool.and_eq_true,Bool.or_eq_true,beq_iff_eq] at h
 rw [empty_of h.2]
 rcases h.1 with rfl | rfl <;> simp
theorem sortW_mem {x:Srt} (h:(x=⟨1,⟨#[]⟩⟩∨x=⟨2,⟨#[]⟩⟩∨x=⟨3,⟨#[]⟩⟩∨x=⟨4,⟨#[]⟩⟩)∨(x=⟨5,⟨#[]⟩⟩∨x=⟨6,⟨#[]⟩⟩)):Own (sortT x):=by
 rcases h with (rfl | rfl | rfl | rfl) | (rfl | rfl) <;> exact ⟨⟨by decide,by kernel_rfl⟩,by decide⟩
theorem sortW_name {x:Srt} (h:x.kind=7):sortW x=x.name:=by
 unfold sortW
 simp [h]
theorem own_sorts:∀ {t:List Srt},okP t=true→∀ x∈t,Own (sortT x)
 | [],h,x,hx=>by cases hx
 | [y],h,x,hx=>by
  simp only [List.mem_singleton] at hx
  subst hx
  rcases finP_kind h with h1 | ⟨h7,hn⟩
  ·exact sortW_mem (.inl h1)
  ·unfold sortT
   rw [sortW_name h7]
   exact own_name hn
 | y::z::l,h,x,hx=>by
  have h':(mid y&&okP (z::l))=true:=h
  rw [Bool.and_eq_true] at h'
  rcases List.mem_cons.1 hx with rfl | hx
  ·exact sortW_mem (.inr (mid_kind h'.1))
  ·exact own_sorts h'.2 x hx
def Owns (l:List Tk.Tok):Prop:=∀ t∈l,Own t
theorem owns_nil:Owns []:=fun t h=>by cases h
theorem owns_cons {t:Tk.Tok} {l:List Tk.Tok} (h:Own t) (k:Owns l):Owns (t::l):=fun u hu=>by
 rcases List.mem_cons.1 hu with rfl | hu
 ·exact h
 ·exact k u hu
theorem owns_app {a b:List Tk.Tok} (h:Owns a) (k:Owns b):Owns (a++b):=fun u hu=>(List.mem_append.1 hu).elim (h u) (k u)
theorem owns_flat {α:Type} {f:α→List Tk.Tok} {l:List α} (h:∀ a∈l,Owns (f a)):Owns (l.flatMap f):=fun u hu=>by
 obtain ⟨a,ha,hu⟩:=List.mem_flatMap.1 hu
 exact h a ha u hu
theorem owns_fld {f:Fld} (h:Tk.isName f.name=true∧okP f.type=true):Owns (fldT f):=owns_cons (own_name h.1) (owns_cons own_colon (owns_app (fun t ht=>by
 obtain ⟨x,hx,rfl⟩:=List.mem_map.1 ht
 exact own_sorts h.2 x hx) (owns_cons own_semi owns_nil)))
theorem owns_mth {m:Mth} (h:OkM m):Owns (mthT m):=by
 refine owns_cons ?_ (owns_cons (own_name h.nm) (owns_cons own_open (owns_cons (own_name h.ar) (owns_cons own_close (owns_cons own_arrow (owns_cons ?_ (owns_app ?_ (owns_cons own_semi owns_nil))))))))
 ·rcases h.ef with e | e | e <;> (rw [e];exact own_kw _ (mem_kw (by decide +kernel)))
 ·rcases h.re with e | e <;> rw [e]
  ·exact sortW_mem (.inl (.inl rfl))
  ·exact sortW_mem (.inl (.inr (.inr (.inl rfl))))
 ·unfold undoT
  split
  ·exact owns_nil
  ·next hu =>
   rcases h.un with e | e
   ·exact absurd e hu
   ·exact owns_cons (own_kw _ (mem_kw (by decide +kernel))) (owns_cons (own_name e) owns_nil)
theorem owns_stp {p:Stp} (h:OkSt p):Owns (stpT p):=owns_cons (own_kw _ (mem_kw (by decide +kernel))) (owns_cons (own_name h.sv) (owns_cons own_dot (owns_cons (own_name h.me) (owns_cons (own_kw _ (mem_kw (by decide +kernel))) (owns_cons (own_num h.lo h.hi) (owns_cons own_semi owns_nil))))))
theorem owns_sch {x:Sch} (h:Ok x):Owns (schT x):=by
 refine owns_cons (own_kw _ (mem_kw (by decide +kernel))) (owns_cons (own_name h.nm) (owns_cons own_semi (owns_app (owns_flat fun r hr=>?_) (owns_app (owns_flat fun v hv=>?_) (owns_flat fun g hg=>?_)))))
 ·refine owns_cons ?_ (owns_cons (own_name (h.rn r hr)) (owns_cons own_left (owns_app (owns_flat fun f hf=>owns_fld (h.rf r hr f hf)) (owns_cons own_right owns_nil))))
  split <;> exact own_kw _ (mem_kw (by decide +kernel))
 ·exact owns_cons (own_kw _ (mem_kw (by decide +kernel))) (owns_cons (own_name (h.vn v hv)) (owns_cons own_left (owns_app (owns_flat fun m hm=>owns_mth (h.vm v hv m hm)) (owns_cons own_right owns_nil))))
 ·exact owns_cons (own_kw _ (mem_kw (by decide +kernel))) (owns_cons (own_name (h.gn g hg).1) (owns_cons own_open (owns_cons (own_name (h.gn g hg).2) (owns_cons own_close (owns_cons own_left (owns_app (owns_flat fun p hp=>owns_stp (h.gs g hg p hp)) (owns_cons own_right owns_nil)))))))
theorem all_text {l:List Tk.Tok} (h:Owns l) (hs:(jn (tx l)).size≤65536):Tk.all (jn (tx l))=(Tk.placed l 0,0,0) :=
 Tk.all_joinT (fun t ht=>(h t ht).1) (by rw [jn_data,join_tx]) hs
theorem owns_size {l:List Tk.Tok} (h:Owns l):∀ u∈tx l,u.size≤32:=fun u hu=>by
 obtain ⟨t,ht,rfl⟩:=List.mem_map.1 hu
 exact (h t ht).2
/-! Reading. -/
theorem name_kw {w k:ByteArray} (h:Tk.isName w=true) (hk:k∈Tk.words):(w.toList==k.toList)=false:=by
 unfold Tk.isName at h
 simp only [Bool.and_eq_true,Bool.not_eq_true'] at h
 have h4:=h.1.2
 unfold Tk.isKw at h4
 rw [List.any_eq_false] at h4
 exact Bool.eq_false_iff.2 (h4 k hk)
theorem is_n (w k:ByteArray) (r:List Tk.Tok):is (nT w::r,false) k=(w.toList==k.toList):=by simp [is,nT]
theorem name_n {w:ByteArray} (h:Tk.isName w=true) (r:List Tk.Tok):name (nT w::r,false)=(w,(r,false)):=by
 unfold name one
 simp [nT,h]
theorem endW_name {w:ByteArray} (h:Tk.isName w=true):endW w=0:=by
 have h1:=beq_eq_false_iff_ne.1 (name_kw h (k:=⟨#[110,111,110,101]⟩) (mem_kw (by decide +kernel)))
 have h2:=beq_eq_false_iff_ne.1 (name_kw h (k:=⟨#[98,111,111,108]⟩) (mem_kw (by decide +kernel)))
 have h3:=beq_eq_false_iff_ne.1 (name_kw h (k:=⟨#[105,110,116]⟩) (mem_kw (by decide +kernel)))
 have h4:=beq_eq_false_iff_ne.1 (name_kw h (k:=⟨#[116,101,120,116]⟩) (mem_kw (by decide +kernel)))
 rw [show (⟨#[110,111,110,101]⟩:ByteArray).toList=[110,111,110,101] by decide +kernel] at h1
 rw [show (⟨#[98,111,111,108]⟩:ByteArray).toList=[98,111,111,108] by decide +kernel] at h2
 rw [show (⟨#[105,110,116]⟩:ByteArray).toList=[105,110,116] by decide +kernel] at h3
 rw [show (⟨#[116,101,120,116]⟩:ByteArray).toList=[116,101,120,116] by decide +kernel] at h4
 unfold endW
 rw [if_neg h1,if_neg h2,if_neg h3,if_neg h4]
theorem sorts_end {f:Nat} {w:ByteArray} {k:Nat} (h1:(w.toList==wList.toList)=false) (h2:(w.toList==wOpt.toList)=false) (h3:endW w=k+1) (r:List Tk.Tok) (acc:List Srt):sortsF (f+1) (nT w::r,false) acc=(acc++[⟨k+1,⟨#[]⟩⟩],(r,false)):=by
 rw [sortsF]
 simp only [is_n,h1,h2,Bool.false_eq_true,if_false]
 rw [if_pos (by simp [ends,nT,h3])]
 simp [head,nT,h3]
theorem sortsF_ok:∀ (t:List Srt) (f:Nat) (r:List Tk.Tok) (acc:List Srt),okP t=true→t.length≤f→sortsF f (t.map sortT++r,false) acc=(acc++t,(r,false))
 | [],f,r,acc,h,hf=>by cases h
 | [x],0,r,acc,h,hf=>by simp at hf
 | [x],f+1,r,acc,h,hf=>by
  rcases finP_kind h with (rfl | rfl | rfl | rfl) | ⟨h7,hn⟩
  ·exact sorts_end (w:=wNone) (by decide +kernel) (by decide +kernel) (k:=0) (by decide +kernel) r acc
  ·exact sorts_end (w:=wBool) (by decide +kernel) (by decide +kernel) (k:=1) (by decide +kernel) r acc
  ·exact sorts_end (w:=wInt) (by decide +kernel) (by decide +kernel) (k:=2) (by decide +kernel) r acc
  ·exact sorts_end (w:=wText) (by decide +kernel) (by decide +kernel) (k:=3) (by decide +kernel) r acc
  ·obtain ⟨k,n⟩:=x
   simp only at h7 hn
   subst h7
   show sortsF (f+1) (nT n::r,false) acc=_
   rw [sortsF]
   simp only [is_n,name_kw hn (k:=wList) (mem_kw (by decide +kernel)),name_kw hn (k:=wOpt) (mem_kw (by decide +kernel)),Bool.false_eq_true,if_false]
   rw [if_neg (by simp [ends,nT,endW_name hn]),name_n hn]
 | x::y::l,0,r,acc,h,hf=>by simp at hf
 | x::y::l,f+1,r,acc,h,hf=>by
  have h':(mid x&&okP (y::l))=true:=h
  rw [Bool.and_eq_true] at h'
  rcases mid_kind h'.1 with rfl | rfl
  ·show sortsF (f+1) (nT wList::((y::l).map sortT++r),false) acc=_
   rw [sortsF]
   simp only [is_n,show (wList.toList==wList.toList)=true by decide +kernel,Bool.false_eq_true,if_false,if_true,List.tail_cons]
   rw [sortsF_ok (y::l) f r _ h'.2 (by simpa using hf)]
   simp
  ·show sortsF (f+1) (nT wOpt::((y::l).map sortT++r),false) acc=_
   rw [sortsF]
   simp only [is_n,show (wOpt.toList==wList.toList)=false by decide +kernel,show (wOpt.toList==wOpt.toList)=true by decide +kernel,Bool.false_eq_true,if_false,if_true,List.tail_cons]
   rw [sortsF_ok (y::l) f r _ h'.2 (by simpa using hf)]
   simp
theorem sorts_ok {t:List Srt} (h:okP t=true) (r:List Tk.Tok):sorts (t.map sortT++r,false)=(t,(r,false)):=by
 unfold sorts
 rw [sortsF_ok t _ r [] h (by simp;omega)]
 rfl
theorem placed_z:∀ (l:List Tk.Tok) (k:Nat),(Tk.placed l k).map z=l.map z
 | [],_=>rfl
 | t::l,k=>by
  show z _::(Tk.placed l _).map z=z t::l.map z
  rw [placed_z l]
  rfl
theorem tok_z {t:Tk.Tok} (h:t.at_=0):z t=t:=by
 obtain ⟨a,b,c,d⟩:=t
 simp only at h
 subst h
 rfl
theorem z_all:∀ {l:List Tk.Tok},(∀ t∈l,t.at_=0)→l.map z=l
 | [],_=>rfl
 | t::l,h=>by rw [List.map_cons,tok_z (h t (by simp)),z_all (fun u hu=>h u (by simp [hu]))]
theorem at_flat {α:Type} {f:α→List Tk.Tok} {l:List α} (h:∀ a∈l,∀ t∈f a,t.at_=0):∀ t∈l.flatMap f,t.at_=0:=fun t ht=>by
 obtain ⟨a,ha,ht⟩:=List.mem_flatMap.1 ht
 exact h a ha t ht
theorem at_sorts (l:List Srt):∀ t∈l.map sortT,t.at_=0:=fun t ht=>by
 obtain ⟨a,_,rfl⟩:=List.mem_map.1 ht
 rfl
theorem sch_at (x:Sch):∀ t∈schT x,t.at_=0:=by
 have hf:∀ f:Fld,∀ t∈fldT f,t.at_=0:=fun f t ht=>by
  simp only [fldT,List.mem_cons,List.mem_append,List.not_mem_nil,or_false] at ht
  rcases ht with rfl | rfl | ht | rfl
  ·rfl
  ·rfl
  ·exact at_sorts _ t ht
  ·rfl
 have hm:∀ m:Mth,∀ t∈mthT m,t.at_=0:=fun m t ht=>by
  simp only [mthT,undoT,List.mem_cons,List.mem_append,List.not_mem_nil,or_false] at ht
  rcases ht with rfl | rfl | rfl | rfl | rfl | rfl | rfl | ht | rfl
  ·rfl
  ·rfl
  ·rfl
  ·rfl
  ·rfl
  ·rfl
  ·rfl
  ·split at ht
   ·cases ht
   ·simp only [List.mem_cons,List.not_mem_nil,or_false] at ht
    rcases ht with rfl | rfl <;> rfl
  ·rfl
 have hp:∀ p:Stp,∀ t∈stpT p,t.at_=0:=fun p t ht=>by
  simp only [stpT,List.mem_cons,List.not_mem_nil,or_false] at ht
  rcases ht with rfl | rfl | rfl | rfl | rfl | rfl | rfl <;> rfl
 intro t ht
 simp only [schT,List.mem_cons,List.mem_append] at ht
 rcases ht with rfl | rfl | rfl | ht | ht | ht
 ·rfl
 ·rfl
 ·rfl
 ·refine at_flat (fun r _ t ht=>?_) t ht
  simp only [recT,List.mem_cons,List.mem_append,List.not_mem_nil,or_false] at ht
  rcases ht with rfl | rfl | rfl | ht | rfl
  ·rfl
  ·rfl
  ·rfl
  ·exact at_flat (fun f _=>hf f) t ht
  ·rfl
 ·refine at_flat (fun r _ t ht=>?_) t ht
  simp only [svcT,List.mem_cons,List.mem_append,List.not_mem_nil,or_false] at ht
  rcases ht with rfl | rfl | rfl | ht | rfl
  ·rfl
  ·rfl
  ·rfl
  ·exact at_flat (fun f _=>hm f) t ht
  ·rfl
 ·refine at_flat (fun r _ t ht=>?_) t ht
  simp only [sagT,List.mem_cons,List.mem_append,List.not_mem_nil,or_false] at ht
  rcases ht with rfl | rfl | rfl | rfl | rfl | rfl | ht | rfl
  ·rfl
  ·rfl
  ·rfl
  ·rfl
  ·rfl
  ·rfl
  ·exact at_flat (fun f _=>hp f) t ht
  ·rfl
/-- Reading commutes with places. -/
theorem read_placed {α:Type} {read:St→α × St} (hz:∀ s,read (zs s)=((read s).1,zs (read s).2)) {l:List Tk.Tok} (h0:∀ t∈l,t.at_=0) {a:α} (h:read (l,false)=(a,([],false))):read (Tk.placed l 0,false)=(a,([],false)):=by
 have h1:=hz (Tk.placed l 0,false)
 rw [show zs (Tk.placed l 0,false)=(l,false) from by unfold zs;rw [placed_z,z_all h0],h] at h1
 obtain ⟨⟨b,q,e⟩,hb⟩:∃ p,read (Tk.placed l 0,false)=p:=⟨_,rfl⟩
 rw [hb] at h1 ⊢
 unfold zs at h1
 simp only [Prod.mk.injEq] at h1
 obtain ⟨h2,h3,h4⟩:=h1
 rw [←h2,←h4,List.map_eq_nil_iff.1 h3.symm]
/-- A right schema has such parts. -/
theorem ok_of_right {x:Sch} (h:Right x):Ok x:=by
 obtain ⟨hn,hc,hd,ht,hb,he,hu,hg,hs,hw⟩:=right_iff.1 h
 unfold namesT at hn
 simp only [List.mem_cons,List.mem_append,forall_eq_or_imp] at hn
 obtain ⟨n0,n1⟩:=hn
 have nr:∀ r∈x.records,Tk.isName r.name=true∧∀ f∈r.fields,Tk.isName f.name=true:=fun r hr=>by
  have k:=fun t (ht:t∈namesR r)=>n1 t (.inl (List.mem_flatMap.2 ⟨r,hr,ht⟩))
  exact ⟨k (nm r.name) (by simp [namesR]),fun f hf=>k (nm f.name) (by unfold namesR;exact List.mem_cons_of_mem _ (List.mem_flatMap.2 ⟨f,hf,by simp [namesF]⟩))⟩
 have nv:∀ v∈x.services,Tk.isName v.name=true∧∀ m∈v.methods,Tk.isName m.name=true:=fun v hv=>by
  have k:=fun t (ht:t∈namesV v)=>n1 t (.inr (.inl (List.mem_flatMap.2 ⟨v,hv,ht⟩)))
  exact ⟨k (nm v.name) (by simp [namesV]),fun f hf=>k (nm f.name) (by unfold namesV;exact List.mem_cons_of_mem _ (List.mem_flatMap.2 ⟨f,hf,by simp [namesM]⟩))⟩
 have ng:∀ g∈x.sagas,Tk.isName g.name=true:=fun g hg=>n1 (nm g.name) (.inr (.inr (List.mem_flatMap.2 ⟨g,hg,by simp [namesG]⟩)))
 have fnd:∀ w:ByteArray,(find x w).isSome=true→Tk.isName w=true:=fun w hw=>by
  obtain ⟨r,hr⟩:=Option.isSome_iff_exists.1 hw
  have h1:=List.find?_some hr
  have h2:=List.mem_of_find?_eq_some hr
  have e:r.name=w:=Tk.text_eq (by simpa using h1)
  rw [←e]
  exact (nr r h2).1
 have ord:∀ w:ByteArray,order x w=true→Tk.isName w=true:=fun w hw=>by
  refine fnd w ?_
  unfold order at hw
  split at hw
  ·cases hw
  ·next hf=>rw [hf];rfl
 have okt:∀ t:List Srt,okT x t=true→okP t=true:=by
  intro t
  induction t with
  | nil=>intro h;cases h
  | cons a t ih =>
   intro h
   cases t with
   | nil =>
    have h':fin x a=true:=h
    show finP a=true
    unfold fin at h'
    unfold finP
    split at h'
    next hk=>rw [if_pos hk];exact h'
    next hk =>
     rw [if_neg hk]
     split at h'
     next h7=>rw [if_pos h7];exact fnd _ h'
     next=>cases h'
   | cons b t =>
    have h':(mid a&&okT x (b::t))=true:=h
    rw [Bool.and_eq_true] at h'
    show (mid a&&okP (b::t))=true
    rw [Bool.and_eq_true]
    exact ⟨h'.1,ih h'.2⟩
 have ms:∀ v∈x.services,∀ m∈v.methods,(m.result=1∨m.result=3)∧(contrary m.effect).toList.isEmpty=false∧order x m.arg=true∧(m.undo.toList.isEmpty=true∨undoOk x v.name m=true):=fun v hv m hm=>by
  have k1:=ht (m.result==3||m.result==1,Chk.part v.name m.name) (by unfold typesT;exact List.mem_append_right _ (List.mem_flatMap.2 ⟨v,hv,List.mem_flatMap.2 ⟨m,hm,by simp [typesM]⟩⟩))
  have k2:=he (!(contrary m.effect).toList.isEmpty&&order x m.arg,Chk.part v.name m.name) (List.mem_flatMap.2 ⟨v,hv,List.mem_flatMap.2 ⟨m,hm,by simp [effectsM]⟩⟩)
  have k3:=hu (m.undo.toList.isEmpty||undoOk x v.name m,Chk.part v.name m.name) (List.mem_flatMap.2 ⟨v,hv,List.mem_flatMap.2 ⟨m,hm,by simp [undosM]⟩⟩)
  simp only [Bool.or_eq_true,beq_iff_eq] at k1
  simp only [Bool.and_eq_true,Bool.not_eq_true'] at k2
  simp only [Bool.or_eq_true] at k3
  exact ⟨k1.symm,k2.1,k2.2,k3⟩
 have mth:∀ a b m,meth x a b=some m→Tk.isName a=true∧Tk.isName b=true:=fun a b m hm=>by
  obtain ⟨v,hv,e,hmv⟩:=meth_mem hm
  refine ⟨by rw [←Tk.text_eq e];exact (nv v hv).1,?_⟩
  unfold meth at hm
  split at hm
  ·cases hm
  ·have h1:=List.find?_some hm
   have e2:m.name=b:=Tk.text_eq (by simpa using h1)
   rw [←e2]
   exact (nv v hv).2 m hmv
 refine ⟨n0,fun r hr=>(nr r hr).1,fun r hr f hf=>⟨(nr r hr).2 f hf,?_⟩,fun v hv=>(nv v hv).1,fun v hv m hm=>?_,fun g hg'=>⟨ng g hg',?_⟩,fun g hg' p hp=>?_⟩
 ·have k:=ht (right x f.type,Chk.part r.name f.name) (by unfold typesT;exact List.mem_append_left _ (List.mem_flatMap.2 ⟨r,hr,List.mem_flatMap.2 ⟨f,hf,by simp [typesF]⟩⟩))
  simp only at k
  unfold right at k
  rw [Bool.and_eq_true] at k
  exact okt _ k.2
 ·obtain ⟨k1,k2,k3,k4⟩:=ms v hv m hm
  refine ⟨?_,(nv v hv).2 m hm,ord _ k3,k1,?_⟩
  ·unfold contrary at k2
   by_cases e1:m.effect.toList=wGive.toList
   ·exact .inl (Tk.text_eq e1)
   ·rw [if_neg e1] at k2
    by_cases e2:m.effect.toList=wTake.toList
    ·exact .inr (.inl (Tk.text_eq e2))
    ·rw [if_neg e2] at k2
     by_cases e3:m.effect.toList=wNote.toList
     ·exact .inr (.inr (Tk.text_eq e3))
     ·rw [if_neg e3] at k2
      exact absurd k2 (by decide +kernel)
  ·refine k4.imp id fun k=>?_
   unfold undoOk at k
   split at k
   ·cases k
   ·next u hu'=>exact (mth _ _ _ hu').2
 ·have k:=hg (order x g.arg,g.name) (List.mem_flatMap.2 ⟨g,hg',by simp⟩)
  exact ord _ k
 ·obtain ⟨k,hk,rfl⟩:=List.getElem_of_mem hp
  have hz:(g.steps[k],k)∈g.steps.zipIdx:=by
   rw [List.mem_iff_getElem]
   exact ⟨k,by rw [List.length_zipIdx];exact hk,by rw [List.getElem_zipIdx,Nat.zero_add]⟩
  have h1:=hs (stepOk x g.arg g.steps[k],nth g.name k) (List.mem_flatMap.2 ⟨g,hg',List.mem_flatMap.2 ⟨_,hz,by simp [stepsP]⟩⟩)
  simp only at h1
  unfold stepOk at h1
  split at h1
  ·cases h1
  ·next m hm =>
   unfold stepOf at h1
   simp only [Bool.and_eq_true,decide_eq_true_eq] at h1
   exact ⟨(mth _ _ _ hm).1,(mth _ _ _ hm).2,h1.1.2,h1.2⟩
end Prn
end Go.Proofs.YtogijkhenihaaaaGreatDoor
