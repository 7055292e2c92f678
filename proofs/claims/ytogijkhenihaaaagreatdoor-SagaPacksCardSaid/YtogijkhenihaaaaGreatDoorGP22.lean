/- values, plain: when a type is right in the eyes of value.types; records by name; where a whole ends, as the document goes. No condition. -/
import Derived.Test.YtogijkhenihaaaaGreatDoorGP21
import Derived.Test.YtogijkhenihaaaaGreatDoorGP04
import Derived.Test.YtogijkhenihaaaaGreatDoorGP20
import Derived.Test.YtogijkhenihaaaaGreatDoorGP17
import Derived.Test.YtogijkhenihaaaaGreatDoorGP15
set_option linter.unusedVariables false
set_option linter.unusedSimpArgs false
namespace Go.Proofs.YtogijkhenihaaaaGreatDoor
open Go.RowKit Go.BigFrame
namespace Vl
open Go.Proofs.YtogijkhenihaaaaGreatDoor.Id Go.Proofs.YtogijkhenihaaaaGreatDoor.Chk Go.Proofs.YtogijkhenihaaaaGreatDoor.Prn
theorem typeP_empty (t:List Srt):(typeP t).toList.isEmpty=!(decide (t.length≤12)&&okP t):=by
 unfold typeP
 by_cases h:t.length≤12∧okP t=true
 ·rw [if_pos h,decide_eq_true h.1,h.2]
  cases he:(jn (t.map sortW)).toList.isEmpty
  ·rfl
  ·exfalso
   have h1:=type_text h.2 h.1
   rw [empty_of he] at h1
   have h2:(Id.type (⟨#[]⟩:ByteArray)).2.2=120:=by decide +kernel
   rw [h1] at h2
   cases h2
 ·rw [if_neg h]
  have:(decide (t.length≤12)&&okP t)=false:=by
   rw [Bool.eq_false_iff]
   intro h2
   rw [Bool.and_eq_true,decide_eq_true_eq] at h2
   exact h h2
  rw [this]
  decide +kernel
/-- The last sort's name is there. -/
def lastOk (s:Sch) (t:List Srt):Bool:=match t.getLast? with
 | none=>false
 | some x=>x.kind != 7||(find s x.name).isSome
theorem find_name {s:Sch} {n:ByteArray} {r:Rec} (h:find s n=some r):r∈s.records∧r.name=n:=by
 unfold find at h
 refine ⟨List.mem_of_find?_eq_some h,Tk.text_eq ?_⟩
 have:=List.find?_some h
 simpa using this
theorem fin_last {s:Sch} (h:Right s) (x:Srt):fin s x=(finP x&&(x.kind != 7||(find s x.name).isSome)):=by
 unfold fin finP
 by_cases h1:x.kind=1∨x.kind=2∨x.kind=3∨x.kind=4
 ·rw [if_pos h1,if_pos h1,show (x.kind != 7)=true by rw [bne_iff_ne];omega]
  simp
 ·rw [if_neg h1,if_neg h1]
  by_cases h7:x.kind=7
  ·rw [if_pos h7,if_pos h7,show (x.kind != 7)=false by rw [h7];rfl,Bool.false_or]
   cases hf:find s x.name with
   | none=>simp
   | some r =>
    obtain ⟨hr,hn⟩:=find_name hf
    have:=(ok_of_right h).rn r hr
    rw [hn] at this
    rw [this]
    rfl
  ·rw [if_neg h7,if_neg h7,Bool.false_and]
theorem okT_last {s:Sch} (h:Right s):∀ t:List Srt,okT s t=(okP t&&lastOk s t)
 | []=>rfl
 | [x]=>fin_last h x
 | x::y::l=>by
  show (mid x&&okT s (y::l))=(mid x&&okP (y::l)&&lastOk s (x::y::l))
  rw [okT_last h (y::l),Bool.and_assoc]
  rfl
theorem right_typeP {s:Sch} (h:Right s) (t:List Srt):right s t=(!(typeP t).toList.isEmpty&&lastOk s t):=by
 rw [typeP_empty,Bool.not_not]
 unfold right
 rw [okT_last h,Bool.and_assoc]
/-- The last record of a name. -/
def lastR (rs:List Rec) (n:ByteArray):Rec:=(rs.reverse.find? fun r=>r.name.toList==n.toList).getD recZ
/-- Types of a right schema's fields, and types within a type, are right. -/
theorem okT_tail {s:Sch} {x:Srt} {t:List Srt} (h:okT s (x::t)=true) (hx:x.kind=5∨x.kind=6):okT s t=true:=by
 cases t with
 | nil =>
  have h:fin s x=true:=h
  unfold fin at h
  rw [if_neg (by omega),if_neg (by omega)] at h
  cases h
 | cons y l =>
  have h:(mid x&&okT s (y::l))=true:=h
  rw [Bool.and_eq_true] at h
  exact h.2
theorem okT_kind {s:Sch} {x:Srt} {t:List Srt} (h:okT s (x::t)=true):(x.kind=1∨x.kind=2∨x.kind=3∨x.kind=4)∨x.kind=5∨x.kind=6∨(x.kind=7∧t=[]∧(find s x.name).isSome=true):=by
 cases t with
 | nil =>
  have h:fin s x=true:=h
  unfold fin at h
  by_cases h1:x.kind=1∨x.kind=2∨x.kind=3∨x.kind=4
  ·exact .inl h1
  ·rw [if_neg h1] at h
   by_cases h7:x.kind=7
   ·rw [if_pos h7] at h
    exact .inr (.inr (.inr ⟨h7,rfl,h⟩))
   ·rw [if_neg h7] at h
    cases h
 | cons y l =>
  have h:(mid x&&okT s (y::l))=true:=h
  rw [Bool.and_eq_true] at h
  have:=h.1
  unfold mid at this
  simp only [Bool.and_eq_true,Bool.or_eq_true,beq_iff_eq] at this
  omega
theorem okT_ne {s:Sch} {t:List Srt} (h:okT s t=true):t≠[]:=fun e=>by subst e;cases h
theorem right_okT {s:Sch} {t:List Srt} (h:right s t=true):okT s t=true∧t.length≤12:=by
 unfold right at h
 rw [Bool.and_eq_true,decide_eq_true_eq] at h
 exact ⟨h.2,h.1⟩
theorem field_right {s:Sch} (h:Right s) {r:Rec} (hr:r∈s.records) {f:Fld} (hf:f∈r.fields):right s f.type=true:=by
 have ht:=(right_iff.1 h).2.2.2.1
 exact ht (right s f.type,Chk.part r.name f.name) (List.mem_append_left _ (List.mem_flatMap.2 ⟨r,hr,List.mem_flatMap.2 ⟨f,hf,by simp [typesF]⟩⟩))
def docV (v:List Node):Option (Nat × List Node)→Int × Nat
 | none=>(-1,0)
 | some p=>((v.length:Int) - p.2.length,p.1)
def deep:Option (Nat × List Node)→Nat
 | none=>0
 | some p=>p.1
end Vl
end Go.Proofs.YtogijkhenihaaaaGreatDoor
set_option linter.unusedVariables false
set_option linter.unusedSimpArgs false
namespace Go.Proofs.YtogijkhenihaaaaGreatDoor
open Go.RowKit Go.BigFrame
namespace Vl
open Go.Proofs.YtogijkhenihaaaaGreatDoor.Id Go.Proofs.YtogijkhenihaaaaGreatDoor.Chk Go.Proofs.YtogijkhenihaaaaGreatDoor.Prn
end Vl
end Go.Proofs.YtogijkhenihaaaaGreatDoor
set_option linter.unusedVariables false
set_option linter.unusedSimpArgs false
namespace Go.Proofs.YtogijkhenihaaaaGreatDoor
open Go.RowKit Go.BigFrame
namespace Vl
open Go.Proofs.YtogijkhenihaaaaGreatDoor.Id Go.Proofs.YtogijkhenihaaaaGreatDoor.Chk Go.Proofs.YtogijkhenihaaaaGreatDoor.Prn
def lvQ (p:List Srt→Bool) (r:Rec):Bool:=if r.choice then r.fields.any (fun f=>p f.type) else r.fields.all (fun f=>p f.type)
/-- Is there a value of a type that is at most so deep? -/
def lvT (s:Sch):Nat→List Srt→Bool
 | 0,_=>false
 | _+1,[]=>false
 | d+1,x::_=>if x.kind=7 then (match find s x.name with | none=>false | some r=>lvQ (lvT s d) r) else true
theorem lvQ_mono {p q:List Srt→Bool} (h:∀ t,p t=true→q t=true) {r:Rec} (hr:lvQ p r=true):lvQ q r=true:=by
 unfold lvQ at hr ⊢
 split at hr
 ·rename_i hc
  rw [if_pos hc]
  obtain ⟨f,hf,hp⟩:=List.any_eq_true.1 hr
  exact List.any_eq_true.2 ⟨f,hf,h _ hp⟩
 ·rename_i hc
  rw [if_neg hc]
  exact List.all_eq_true.2 fun f hf=>h _ (List.all_eq_true.1 hr f hf)
theorem lvT_succ {s:Sch}:∀ (d:Nat) (t:List Srt),lvT s d t=true→lvT s (d+1) t=true
 | 0,t,h=>by unfold lvT at h;cases h
 | d+1,[],h=>by unfold lvT at h;cases h
 | d+1,x::t,h=>by
  unfold lvT at h ⊢
  split at h
  ·rename_i h7
   rw [if_pos h7]
   split at h
   ·cases h
   ·exact lvQ_mono (lvT_succ d) h
  ·rename_i h7
   rw [if_neg h7]
theorem lvT_mono {s:Sch} {d e:Nat} (hde:d≤e) {t:List Srt} (h:lvT s d t=true):lvT s e t=true:=by
 induction e with
 | zero =>
  obtain rfl:d=0:=by omega
  exact h
 | succ e ih =>
  by_cases hd:d=e+1
  ·subst hd;exact h
  ·exact lvT_succ _ _ (ih (by omega))
/-- Depths as they are known: of each name, 0 if none is. -/
abbrev Kn:=ByteArray→Nat
def dpt (kn:Kn) (t:List Srt):Nat:=match t with
 | []=>0
 | x::_=>if x.kind=7 then kn x.name else 1
structure LstS where
 best:Nat
 worst:Nat
 miss:Bool
def lstStep (kn:Kn) (a:LstS) (f:Fld):LstS :=
 ⟨if 0<dpt kn f.type∧(a.best=0∨dpt kn f.type<a.best) then dpt kn f.type else a.best,max a.worst (dpt kn f.type),a.miss||dpt kn f.type==0⟩
def lstF (kn:Kn) (r:Rec):LstS:=r.fields.foldl (lstStep kn) ⟨0,0,false⟩
def lstD (kn:Kn) (r:Rec):Nat × Bool:=if r.choice then ((lstF kn r).best+1,decide (0<(lstF kn r).best)) else ((lstF kn r).worst+1,!(lstF kn r).miss)
/-- What the fold finds. -/
theorem lst_fold (kn:Kn):∀ (l:List Fld) (a:LstS),
  (∀ d,(l.foldl (lstStep kn) a).worst≤d↔a.worst≤d∧∀ f∈l,dpt kn f.type≤d) ∧
  ((l.foldl (lstStep kn) a).miss=true↔a.miss=true∨∃ f∈l,dpt kn f.type=0) ∧
  ((l.foldl (lstStep kn) a).best=0↔a.best=0∧∀ f∈l,dpt kn f.type=0) ∧
  (∀ f∈l,dpt kn f.type≠0→(l.foldl (lstStep kn) a).best≤dpt kn f.type) ∧
  (a.best≠0→(l.foldl (lstStep kn) a).best≤a.best) ∧
  ((l.foldl (lstStep kn) a).best≠a.best→∃ f∈l,dpt kn f.type=(l.foldl (lstStep kn) a).best)
 | [],a=>by simp
 | f::l,a=>by
  obtain ⟨h1,h2,h3,h4,h5,h6⟩:=lst_fold kn l (lstStep kn a f)
  rw [List.foldl_cons]
  have hb:(lstStep kn a f).best=if 0<dpt kn f.type∧(a.best=0∨dpt kn f.type<a.best) then dpt kn f.type else a.best:=rfl
  have hw:(lstStep kn a f).worst=max a.worst (dpt kn f.type):=rfl
  have hm:(lstStep kn a f).miss=(a.miss||dpt kn f.type==0):=rfl
  generalize (l.foldl (lstStep kn) (lstStep kn a f))=b at *
  generalize lstStep kn a f=c at *
  refine ⟨fun d=>?_,?_,?_,?_,?_,?_⟩
  ·rw [h1 d,hw]
   simp only [List.mem_cons,forall_eq_or_imp]
   constructor
   ·rintro ⟨a1,a2⟩;exact ⟨by omega,by omega,a2⟩
   ·rintro ⟨a1,a2,a3⟩;exact ⟨by omega,a3⟩
  ·rw [h2,hm]
   simp only [List.mem_cons,exists_eq_or_imp,Bool.or_eq_true,beq_iff_eq,or_assoc]
  ·rw [h3,hb]
   simp only [List.mem_cons,forall_eq_or_imp]
   split <;> constructor <;> (rintro ⟨a1,a2⟩) <;> first | (exact ⟨by omega,by omega,a2⟩) | (exact ⟨by omega,a2.2⟩) | omega
  ·intro g hg hd
   rcases List.mem_cons.1 hg with rfl | hg
   ·by_cases hc:c.best=0
    ·rw [hb] at hc
     split at hc <;> omega
    ·have:=h5 hc
     rw [hb] at this
     split at this <;> omega
   ·exact h4 g hg hd
  ·intro ha
   by_cases hc:c.best=0
   ·rw [hb] at hc
    split at hc <;> omega
   ·have:=h5 hc
    rw [hb] at this
    split at this <;> omega
  ·intro hne
   by_cases hc:b.best=c.best
   ·refine ⟨f,by simp,?_⟩
    rw [hc,hb]
    rw [hc,hb] at hne
    split at hne
    ·rename_i h;rw [if_pos h]
    ·exact absurd rfl hne
   ·obtain ⟨g,hg,he⟩:=h6 hc
    exact ⟨g,by simp [hg],he⟩
/-- The least depths. -/
def Min (s:Sch) (kn:Kn):Prop:=∀ n,(kn n≠0→lvT s (kn n) [⟨7,n⟩]=true)∧∀ d,lvT s d [⟨7,n⟩]=true→kn n≠0∧kn n≤d
def Sd (s:Sch) (kn:Kn):Prop:=∀ n,kn n≠0→lvT s (kn n) [⟨7,n⟩]=true
theorem lvT_head {s:Sch} {d:Nat} {x:Srt} {t:List Srt}:lvT s d (x::t)=lvT s d [x]:=by
 cases d with
 | zero=>rfl
 | succ d=>rfl
theorem lvT_name {s:Sch} {d:Nat} {x:Srt} (h:x.kind=7):lvT s d [x]=lvT s d [⟨7,x.name⟩]:=by
 obtain ⟨k,n⟩:=x
 simp only at h
 subst h
 rfl
theorem Sd.dpt {s:Sch} {kn:Kn} (h:Sd s kn) {t:List Srt} (hd:dpt kn t≠0):lvT s (dpt kn t) t=true:=by
 cases t with
 | nil=>exact absurd rfl hd
 | cons x t =>
  rw [lvT_head]
  unfold Vl.dpt at hd ⊢
  simp only at hd ⊢
  by_cases h7:x.kind=7
  ·rw [if_pos h7] at hd ⊢
   rw [lvT_name h7]
   exact h _ hd
  ·rw [if_neg h7]
   unfold lvT
   rw [if_neg h7]
theorem Min.dpt {s:Sch} {kn:Kn} (h:Min s kn) {t:List Srt} {d:Nat} (hd:lvT s d t=true):dpt kn t≠0∧dpt kn t≤d:=by
 cases t with
 | nil=>cases d <;> (unfold lvT at hd;cases hd)
 | cons x t =>
  rw [lvT_head] at hd
  unfold Vl.dpt
  simp only
  by_cases h7:x.kind=7
  ·rw [if_pos h7]
   rw [lvT_name h7] at hd
   exact (h _).2 d hd
  ·rw [if_neg h7]
   cases d with
   | zero=>cases hd
   | succ d=>exact ⟨by omega,by omega⟩
/-- A record's least depth is right, as far as others' are. -/
theorem Sd.rec {s:Sch} {kn:Kn} (h:Sd s kn) {n:ByteArray} {r:Rec} (hf:find s n=some r) (ho:(lstD kn r).2=true):lvT s (lstD kn r).1 [⟨7,n⟩]=true:=by
 obtain ⟨h1,h2,h3,h4,h5,h6⟩:=lst_fold kn r.fields ⟨0,0,false⟩
 have e:r.fields.foldl (lstStep kn) ⟨0,0,false⟩=lstF kn r:=rfl
 rw [e] at h1 h2 h3 h4 h5 h6
 unfold lstD at ho ⊢
 cases hc:r.choice
 ·rw [hc] at ho
  simp only [Bool.false_eq_true,if_false] at ho ⊢
  unfold lvT
  simp only [if_true,hf]
  unfold lvQ
  rw [hc]
  simp only [Bool.false_eq_true,if_false]
  refine List.all_eq_true.2 fun f hfm=>?_
  have hm:¬(lstF kn r).miss=true:=by simpa using ho
  rw [h2] at hm
  have hd:Vl.dpt kn f.type≠0:=fun e=>hm (.inr ⟨f,hfm,e⟩)
  exact lvT_mono (((h1 _).1 (Nat.le_refl _)).2 f hfm) (h.dpt hd)
 ·rw [hc] at ho
  simp only [if_true,decide_eq_true_eq] at ho ⊢
  unfold lvT
  simp only [if_true,hf]
  unfold lvQ
  rw [hc]
  simp only [if_true]
  obtain ⟨f,hfm,he⟩:=h6 (by simp only;omega)
  refine List.any_eq_true.2 ⟨f,hfm,?_⟩
  have hd:Vl.dpt kn f.type≠0:=by omega
  have:=h.dpt hd
  rw [he] at this
  exact this
/-- Where nothing changes any more, the depths are the least. -/
def Stop (s:Sch) (kn:Kn):Prop:=∀ r∈s.records,(lstD kn r).2=true→kn r.name≠0∧kn r.name≤(lstD kn r).1
theorem Stop.le {s:Sch} {kn:Kn} (h:Stop s kn):∀ (d:Nat) (t:List Srt),lvT s d t=true→dpt kn t≠0∧dpt kn t≤d
 | 0,t,hl=>by unfold lvT at hl;cases hl
 | d+1,[],hl=>by unfold lvT at hl;cases hl
 | d+1,x::t,hl=>by
  unfold lvT at hl
  unfold dpt
  simp only
  split at hl
  ·rename_i h7
   rw [if_pos h7]
   split at hl
   ·cases hl
   ·rename_i r hr
    obtain ⟨hm,hn⟩:=find_name hr
    obtain ⟨h1,h2,h3,h4,h5,h6⟩:=lst_fold kn r.fields ⟨0,0,false⟩
    have e:r.fields.foldl (lstStep kn) ⟨0,0,false⟩=lstF kn r:=rfl
    rw [e] at h1 h2 h3 h4 h5 h6
    have hs:=h r hm
    rw [hn] at hs
    unfold lstD at hs
    unfold lvQ at hl
    cases hc:r.choice
    ·rw [hc] at hs hl
     simp only [Bool.false_eq_true,if_false] at hs hl
     have ha:=List.all_eq_true.1 hl
     have hmiss:(lstF kn r).miss=false:=by
      rw [Bool.eq_false_iff]
      intro hmi
      rcases h2.1 hmi with e | ⟨f,hf,e⟩
      ·cases e
      ·exact (Stop.le h d f.type (ha f hf)).1 e
     obtain ⟨a1,a2⟩:=hs (by rw [hmiss];rfl)
     refine ⟨a1,Nat.le_trans a2 ?_⟩
     have:=(h1 d).2 ⟨Nat.zero_le _,fun f hf=>(Stop.le h d f.type (ha f hf)).2⟩
     omega
    ·rw [hc] at hs hl
     simp only [if_true,decide_eq_true_eq] at hs hl
     obtain ⟨f,hf,hp⟩:=List.any_eq_true.1 hl
     obtain ⟨b1,b2⟩:=Stop.le h d f.type hp
     have hb:(lstF kn r).best≠0:=fun e=>b1 ((h3.1 e).2 f hf)
     have hb2:=h4 f hf b1
     obtain ⟨a1,a2⟩:=hs (by omega)
     exact ⟨a1,by omega⟩
  ·rename_i h7
   rw [if_neg h7]
   exact ⟨by omega,by omega⟩
theorem Stop.min {s:Sch} {kn:Kn} (h:Stop s kn) (hs:Sd s kn):Min s kn:=fun n=>⟨hs n,fun d hd=>by
 have:=h.le d _ hd
 exact this⟩
end Vl
end Go.Proofs.YtogijkhenihaaaaGreatDoor
set_option linter.unusedVariables false
set_option linter.unusedSimpArgs false
namespace Go.Proofs.YtogijkhenihaaaaGreatDoor
open Go.RowKit Go.BigFrame
namespace Vl
open Go.Proofs.YtogijkhenihaaaaGreatDoor.Id Go.Proofs.YtogijkhenihaaaaGreatDoor.Chk Go.Proofs.YtogijkhenihaaaaGreatDoor.Prn
/-- What the least depths are made of. -/
theorem Min.lst {s:Sch} {kn:Kn} (h:Min s kn) {n:ByteArray} {r:Rec} (hf:find s n=some r) (h0:kn n≠0):(lstD kn r).2=true∧(lstD kn r).1=kn n:=by
 have hs:Sd s kn:=fun m hm=>(h m).1 hm
 have hl:=(h n).1 h0
 obtain ⟨d,hd⟩:∃ d,kn n=d+1:=⟨kn n - 1,by omega⟩
 have key:(lstD kn r).2=true∧(lstD kn r).1≤kn n:=by
  rw [hd] at hl ⊢
  unfold lvT at hl
  simp only [if_true,hf] at hl
  obtain ⟨h1,h2,h3,h4,h5,h6⟩:=lst_fold kn r.fields ⟨0,0,false⟩
  have e:r.fields.foldl (lstStep kn) ⟨0,0,false⟩=lstF kn r:=rfl
  rw [e] at h1 h2 h3 h4 h5 h6
  unfold lvQ at hl
  unfold lstD
  cases hc:r.choice
  ·rw [hc] at hl
   simp only [Bool.false_eq_true,if_false] at hl ⊢
   have ha:=List.all_eq_true.1 hl
   have hmiss:(lstF kn r).miss=false:=by
    rw [Bool.eq_false_iff]
    intro hmi
    rcases h2.1 hmi with e | ⟨f,hf,e⟩
    ·cases e
    ·exact (h.dpt (ha f hf)).1 e
   have:=(h1 d).2 ⟨Nat.zero_le _,fun f hf=>(h.dpt (ha f hf)).2⟩
   exact ⟨by rw [hmiss];rfl,by omega⟩
  ·rw [hc] at hl
   simp only [if_true] at hl ⊢
   obtain ⟨f,hfm,hp⟩:=List.any_eq_true.1 hl
   obtain ⟨b1,b2⟩:=h.dpt hp
   have hb:(lstF kn r).best≠0:=fun e=>b1 ((h3.1 e).2 f hfm)
   have hb2:=h4 f hfm b1
   exact ⟨by rw [decide_eq_true_eq];omega,by omega⟩
 exact ⟨key.1,Nat.le_antisymm key.2 ((h n).2 _ (hs.rec hf key.1)).2⟩
/-- A choice's least way. -/
def way (kn:Kn) (r:Rec) (d:Nat):Nat:=r.fields.findIdx (fun f=>dpt kn f.type==d)
theorem Min.way {s:Sch} {kn:Kn} (h:Min s kn) {n:ByteArray} {r:Rec} (hf:find s n=some r) (h0:kn n≠0) (hc:r.choice=true):way kn r (kn n - 1)<r.fields.length∧1<kn n:=by
 obtain ⟨h1,h2⟩:=h.lst hf h0
 unfold lstD at h1 h2
 rw [hc] at h1 h2
 simp only [if_true,decide_eq_true_eq] at h1 h2
 obtain ⟨g1,g2,g3,g4,g5,g6⟩:=lst_fold kn r.fields ⟨0,0,false⟩
 have e:r.fields.foldl (lstStep kn) ⟨0,0,false⟩=lstF kn r:=rfl
 rw [e] at g6
 obtain ⟨f,hfm,he⟩:=g6 (by simp only;omega)
 refine ⟨?_,by omega⟩
 unfold Vl.way
 rw [List.findIdx_lt_length]
 exact ⟨f,hfm,by rw [beq_iff_eq,he];omega⟩
end Vl
end Go.Proofs.YtogijkhenihaaaaGreatDoor
set_option linter.unusedVariables false
namespace Go.Proofs.YtogijkhenihaaaaGreatDoor
namespace Ev
/-- What the first bytes of a number tell. -/
def acc (l:List UInt8):Nat→Nat
 | 0=>0
 | i+1=>acc l i ||| ((l.getD i 0).toNat % 128 * 2 ^ (7 * i) % 18446744073709551616)
theorem acc_lt (l:List UInt8):∀ i,acc l i<18446744073709551616
 | 0=>by simp [acc]
 | i+1=>Nat.or_lt_two_pow (n:=64) (acc_lt l i) (Nat.mod_lt _ (by decide))
theorem or_join {a b:Nat} (i:Nat) (ha:a<2 ^ i) (hb:b % 2 ^ i=0):a ||| b=a+b:=by
 have h2:2 ^ i * (b / 2 ^ i)=b:=by have:=Nat.div_add_mod b (2 ^ i);omega
 have h:=Nat.two_pow_add_eq_or_of_lt ha (b / 2 ^ i)
 rw [Nat.or_comm,←h2,←h,Nat.add_comm]
theorem pow128 (i:Nat):(2:Nat) ^ (7 * i)=128 ^ i:=Nat.pow_mul 2 7 i
/-- A number of the first bytes, the lowest one first. -/
def lit (l:List UInt8):Nat→Nat
 | 0=>0
 | i+1=>lit l i+(l.getD i 0).toNat * 2 ^ (8 * i)
end Ev
end Go.Proofs.YtogijkhenihaaaaGreatDoor
set_option linter.unusedVariables false
set_option linter.unusedSimpArgs false
namespace Go.Proofs.YtogijkhenihaaaaGreatDoor
namespace Cd
open Go.Proofs.YtogijkhenihaaaaGreatDoor.Ev
/-- A number at the beginning of bytes; false: they are too few, true: it is none. -/
def nmF (l:List UInt8):Nat→Nat→Except Bool (Nat × Nat)
 | 0,_=>.error true
 | g+1,i=>if i<l.length then (if i=9∧1<(l.getD i 0).toNat then .error true else if (l.getD i 0).toNat<128 then (if (l.getD i 0).toNat=0∧0<i then .error true else .ok (acc l (i+1),i+1)) else nmF l g (i+1)) else .error false
def num (b:List UInt8) (p:Nat):Except (Nat × Nat) (Nat × Nat):=match nmF (b.drop p) 10 0 with
 | .ok q=>.ok (q.1,p+q.2)
 | .error true=>.error (p,162)
 | .error false=>.error (b.length,160)
def bit (b:List UInt8) (p:Nat):Except (Nat × Nat) (Nat × Nat):=if p<b.length then (if 1<(b.getD p 0).toNat then .error (p,162) else .ok ((b.getD p 0).toNat,p+1)) else .error (b.length,160)
theorem acc_next {l:List UInt8} {i:Nat} (h9:i≤9) (ha:acc l i<128 ^ i) (hc:(l.getD i 0).toNat % 128<128) (h1:i=9→(l.getD i 0).toNat % 128<2):acc l (i+1)=acc l i+(l.getD i 0).toNat % 128 * 128 ^ i:=by
 have hle:128 ^ i≤128 ^ 9:=Nat.pow_le_pow_right (by decide) h9
 have hp9:(128:Nat) ^ 9=9223372036854775808:=by decide
 have hlt:(l.getD i 0).toNat % 128 * 128 ^ i<18446744073709551616:=by
  by_cases h:i=9
  ·have:=h1 h
   have h2:(l.getD i 0).toNat % 128 * 128 ^ i≤1 * 128 ^ i:=Nat.mul_le_mul_right _ (by omega)
   omega
  ·have hps:128 ^ (i+1)=128 ^ i * 128:=Nat.pow_succ ..
   have hle2:128 ^ (i+1)≤128 ^ 9:=Nat.pow_le_pow_right (by decide) (by omega)
   have h2:(l.getD i 0).toNat % 128 * 128 ^ i≤127 * 128 ^ i:=Nat.mul_le_mul_right _ (by omega)
   omega
 simp only [acc]
 rw [pow128,Nat.mod_eq_of_lt hlt,or_join (7 * i) (by rw [pow128];exact ha) (by rw [pow128];exact Nat.mul_mod_left _ _)]
theorem nmF_ok (l:List UInt8):∀ (g i u j:Nat),g+i=10→acc l i<128 ^ i→nmF l g i=.ok (u,j) →
  ∃ y,(0<i→y≠0)∧u=acc l i+128 ^ i * y∧y<2 * 128 ^ (9 - i)∧l.drop i=varF (9 - i) y++l.drop j∧i<j∧j≤l.length
 | 0,i,u,j,hg,ha,h=>by unfold nmF at h;cases h
 | g+1,i,u,j,hg,ha,h=>by
  unfold nmF at h
  split at h
  ·rename_i hi
   split at h
   ·cases h
   ·rename_i h9
    have hd:l.drop i=(l.getD i 0)::l.drop (i+1):=by
     rw [List.drop_eq_getElem_cons hi,List.getD_eq_getElem?_getD,List.getElem?_eq_getElem hi,Option.getD_some]
    have hcb:(l.getD i 0).toNat<256:=UInt8.toNat_lt _
    split at h
    ·rename_i hc
     split at h
     ·cases h
     ·rename_i h0
      injection h with h
      injection h with h1 h2
      subst h1 h2
      have hm:(l.getD i 0).toNat % 128=(l.getD i 0).toNat:=Nat.mod_eq_of_lt hc
      refine ⟨(l.getD i 0).toNat,fun hi0 h=>h0 ⟨h,hi0⟩,?_,?_,?_,Nat.lt_succ_self _,hi⟩
      ·rw [acc_next (by omega) ha (by omega) (fun h=>by omega),hm,Nat.mul_comm]
      ·by_cases hi9:i=9
       ·have h2:¬1<(l.getD i 0).toNat:=fun h=>h9 ⟨hi9,h⟩
        rw [hi9] at h2 ⊢
        show _<2 * 128 ^ 0
        omega
       ·have:128 ^ 1≤128 ^ (9 - i):=Nat.pow_le_pow_right (by decide) (by omega)
        omega
      ·rw [hd]
       have hv:varF (9 - i) (l.getD i 0).toNat=[UInt8.ofNat (l.getD i 0).toNat]:=by
        cases h9i:9 - i with
        | zero=>rfl
        | succ m=>unfold varF;rw [if_pos hc]
       rw [hv,UInt8.ofNat_toNat,List.singleton_append]
    ·rename_i hc
     have hi8:i≤8:=by
      rcases Nat.lt_or_ge i 9 with h' | h'
      ·omega
      ·exact absurd ⟨by omega,by omega⟩ h9
     have ha':=acc_next (by omega) ha (Nat.mod_lt _ (by decide)) (fun h=>by omega)
     have hps:128 ^ (i+1)=128 ^ i * 128:=Nat.pow_succ ..
     have hb:(l.getD i 0).toNat % 128 * 128 ^ i≤127 * 128 ^ i:=Nat.mul_le_mul_right _ (by omega)
     obtain ⟨y,y0,hu,hy,hl,hj,hjl⟩:=nmF_ok l g (i+1) u j (by omega) (by omega) h
     have y0:=y0 (by omega)
     obtain ⟨c,hcn⟩:∃ c,(l.getD i 0).toNat=c+128:=⟨(l.getD i 0).toNat - 128,by omega⟩
     have hcm:(l.getD i 0).toNat % 128=c:=by omega
     refine ⟨c+128 * y,fun _=>by omega,?_,?_,?_,by omega,hjl⟩
     ·rw [hu,ha',hcm,hps,Nat.mul_add,Nat.mul_comm c,Nat.mul_assoc,Nat.add_assoc]
     ·have:128 ^ (9 - i)=128 ^ (9 - (i+1)) * 128:=by rw [←Nat.pow_succ];congr 1;omega
      omega
     ·rw [hd,show 9 - i=(9 - (i+1))+1 by omega]
      unfold varF
      rw [if_neg (by omega),show (c+128 * y) % 128+128=(l.getD i 0).toNat by omega,show (c+128 * y) / 128=y by omega,UInt8.ofNat_toNat,List.cons_append,←hl]
  ·cases h
theorem num_ok {b:List UInt8} {p u q:Nat} (h:num b p=.ok (u,q)):u<18446744073709551616∧b.drop p=var u++b.drop q∧p<q∧q≤b.length:=by
 unfold num at h
 split at h
 ·rename_i x hx
  injection h with h
  injection h with h1 h2
  obtain ⟨y,-,hu,hy,hl,hj,hjl⟩:=nmF_ok (b.drop p) 10 0 x.1 x.2 rfl (by simp [acc]) hx
  have hacc:acc (b.drop p) 0=0:=rfl
  rw [hacc] at hu
  simp only [Nat.pow_zero,Nat.one_mul,Nat.zero_add,Nat.sub_zero,List.drop_zero,List.drop_drop] at hu hl hy
  rw [List.length_drop] at hjl
  subst h2
  rw [←h1,hu]
  exact ⟨by simpa using hy,hl,by omega,by omega⟩
 ·cases h
 ·cases h
theorem bit_ok {b:List UInt8} {p u q:Nat} (h:bit b p=.ok (u,q)):u≤1∧b.drop p=UInt8.ofNat u::b.drop q∧q=p+1∧q≤b.length:=by
 unfold bit at h
 split at h
 ·rename_i hp
  split at h
  ·cases h
  ·rename_i h1
   injection h with h
   injection h with e1 e2
   subst e1 e2
   refine ⟨by omega,?_,rfl,hp⟩
   rw [UInt8.ofNat_toNat,List.drop_eq_getElem_cons hp,List.getD_eq_getElem?_getD,List.getElem?_eq_getElem hp,Option.getD_some]
 ·cases h
end Cd
end Go.Proofs.YtogijkhenihaaaaGreatDoor
set_option linter.unusedVariables false
set_option linter.unusedSimpArgs false
namespace Go.Proofs.YtogijkhenihaaaaGreatDoor
open Go.RowKit Go.BigFrame
namespace Cd
open Go.Proofs.YtogijkhenihaaaaGreatDoor.Id Go.Proofs.YtogijkhenihaaaaGreatDoor.Chk Go.Proofs.YtogijkhenihaaaaGreatDoor.Vl Go.Proofs.YtogijkhenihaaaaGreatDoor.Ev
def E0:ByteArray:=⟨#[]⟩
/-- A signed number as one without a sign, and back. -/
def zz (n:Int):Nat:=if 0≤n then 2 * n.toNat else 2 * (-(n+1)).toNat+1
def un (u:Nat):Int:=if u % 2=0 then ((u / 2:Nat):Int) else -((u / 2:Nat):Int) - 1
/-- A part's numbers are Go's. -/
structure OkN (n:Vl.Node):Prop where
 lo:-9223372036854775808≤n.int
 hi:n.int≤9223372036854775807
 tx:n.text.size≤9223372036854775807
def encN (n:Vl.Node):List UInt8 :=
 if n.kind=2 then [UInt8.ofNat n.int.toNat] else if n.kind=3 then var (zz n.int) else if n.kind=4 then var n.text.size++n.text.data.toList
 else if n.kind=5 then var n.kids.toNat else if n.kind=6 then [UInt8.ofNat n.kids.toNat] else if n.kind=8 then var n.int.toNat else []
def encs (v:List Vl.Node):List UInt8:=v.flatMap encN
theorem encs_app (a b:List Vl.Node):encs (a++b)=encs a++encs b:=List.flatMap_append
structure S where
 at_:Nat
 v:List Vl.Node
 sz:Nat
def S.put (x:S) (p:Nat) (n:Vl.Node) (z:Nat):S:=⟨p,x.v++[n],x.sz+z⟩
def S.inc (x:S):S:=⟨x.at_,x.v,x.sz+1⟩
abbrev Rs (α:Type):=Except (Nat × Nat) α
def cutT (b:List UInt8) (p n:Nat):ByteArray:=⟨((b.drop p).take n).toArray⟩
/-- A part without others; its own place is counted already. -/
def decT (b:List UInt8) (x:S) (q:Nat × Nat):Rs S:=if 4096<x.sz+q.1 then .error (x.at_,3) else if b.length<q.2+q.1 then .error (b.length,160) else .ok (x.put (q.2+q.1) ⟨4,0,cutT b q.2 q.1,0⟩ q.1)
def decL (b:List UInt8) (k:Nat) (x:S):Rs S :=
 if k=1 then .ok (x.put x.at_ ⟨1,0,E0,0⟩ 0)
 else if k=2 then (match bit b x.at_ with
  | .error e=>.error e
  | .ok q=>.ok (x.put q.2 ⟨2,q.1,E0,0⟩ 0))
 else if k=3 then (match num b x.at_ with
  | .error e=>.error e
  | .ok q=>.ok (x.put q.2 ⟨3,un q.1,E0,0⟩ 0))
 else (match num b x.at_ with
  | .error e=>.error e
  | .ok q=>decT b x q)
/-- A part with others: their types. -/
def decC (r:Rec) (b:List UInt8) (x:S):Rs (List (List Srt) × S):=match num b x.at_ with
 | .error e=>.error e
 | .ok q=>if r.fields.length≤q.1 then .error (x.at_,162) else .ok ([(r.fields.map (·.type)).getD q.1 []],x.put q.2 ⟨8,q.1,E0,1⟩ 0)
def decH (s:Sch) (b:List UInt8) (c:Srt) (t:List Srt) (x:S):Rs (List (List Srt) × S) :=
 if c.kind=5 then (match num b x.at_ with
  | .error e=>.error e
  | .ok q=>if 4096<q.1 then .error (x.at_,3) else .ok (List.replicate q.1 t,x.put q.2 ⟨5,0,E0,q.1⟩ 0))
 else if c.kind=6 then (match bit b x.at_ with
  | .error e=>.error e
  | .ok q=>.ok (List.replicate q.1 t,x.put q.2 ⟨6,0,E0,q.1⟩ 0))
 else if ((find s c.name).getD recZ).choice=true then decC ((find s c.name).getD recZ) b x
 else .ok (((find s c.name).getD recZ).fields.map (·.type),x.put x.at_ ⟨7,0,E0,((find s c.name).getD recZ).fields.length⟩ 0)
def manyD (f:List Srt→S→Rs S):List (List Srt)→S→Rs S
 | [],x=>.ok x
 | t::ts,x=>match f t x with
  | .error e=>.error e
  | .ok y=>manyD f ts y
def goD (f:List Srt→S→Rs S) (o:Rs (List (List Srt) × S)):Rs S:=match o with
 | .error e=>.error e
 | .ok p=>manyD f p.1 p.2
def isLeaf (k:Nat):Prop:=k=1∨k=2∨k=3∨k=4
instance (k:Nat):Decidable (isLeaf k):=by unfold isLeaf;infer_instance
def full (x:S):Prop:=4096≤x.v.length∨4096≤x.sz
instance (x:S):Decidable (full x):=by unfold full;infer_instance
/-- The value of a type, read; so many parts more may lie one within the other. -/
def decF (s:Sch) (b:List UInt8):Nat→List Srt→S→Rs S
 | 0,_,x=>.error (x.at_,151)
 | _+1,[],x=>.error (x.at_,162)
 | k+1,c::t,x=>if full x then .error (x.at_,3) else if isLeaf c.kind then decL b c.kind x.inc else goD (decF s b k) (decH s b c t x.inc)
theorem size_app (a b:List Vl.Node):size (a++b)=size a+size b:=by
 unfold size
 rw [List.length_append,List.map_append,List.sum_append]
 omega
/-- What a reading has come to. -/
structure Got (b:List UInt8) (x y:S) (m:List Vl.Node):Prop where
 v:y.v=x.v++m
 bs:b.drop x.at_=encs m++b.drop y.at_
 le:x.at_≤y.at_
 lim:y.at_≤b.length
 sz:y.sz=x.sz+size m
 ok:∀ n∈m,OkN n
theorem Got.trans {b:List UInt8} {x y z:S} {m m':List Vl.Node} (h:Got b x y m) (k:Got b y z m'):Got b x z (m++m') :=
 ⟨by rw [k.v,h.v,List.append_assoc],by rw [h.bs,k.bs,encs_app,List.append_assoc],Nat.le_trans h.le k.le,k.lim,by rw [k.sz,h.sz,size_app];omega,fun n hn=>by rcases List.mem_append.1 hn with h1 | h1;exact h.ok n h1;exact k.ok n h1⟩
end Cd
end Go.Proofs.YtogijkhenihaaaaGreatDoor
set_option linter.unusedVariables false
set_option linter.unusedSimpArgs false
namespace Go.Proofs.YtogijkhenihaaaaGreatDoor
open Go.RowKit Go.BigFrame
namespace Vl
def Node.val (n:Node):Value:=.agg #[.int .u8 n.kind,.int .i64 n.int,.string n.text,.int .i64 n.kids]
def Cur (w:World) (b:Nat) (vs:Value) (a:Nat) (f:Value):Prop:=Bk w b 127 #[vs,.int .i64 a,f]
end Vl
end Go.Proofs.YtogijkhenihaaaaGreatDoor
set_option linter.unusedVariables false
set_option linter.unusedSimpArgs false
namespace Go.Proofs.YtogijkhenihaaaaGreatDoor
open Go.RowKit Go.BigFrame Go.Maps Go.WideMaps
/-- An element that is any value at all. -/
def heldR (v:Value):Option (DataW Value × List MemPlace):=some (.held v,[])
namespace Vl
open Go.Proofs.YtogijkhenihaaaaGreatDoor.Id Go.Proofs.YtogijkhenihaaaaGreatDoor.Chk
def recZV:Value:=.agg #[.string ⟨#[]⟩,.bool false,.slice none 0 0]
def FM (w0 w:World) (b:Nat) (rs:List Rec):Prop :=
 ∃ (D:DataW Value) (vl:ByteArray→Value),w.ownsMap Tryz.prog 9 heldR b rs.length D∧∀ s:ByteArray,D.atKey (.string s.data.toList) (.held recZV)=.held (vl s)∧RecV w0 none (vl s) (lastR rs s)
theorem recZ_ok (w0:World):RecV w0 none recZV recZ:=⟨_,rfl,ERow.nil_none _ _ _ _⟩
theorem FM.made (w0 w:World):FM w0 (w.alloc (.map #[] 0)) w.heap.size []:=⟨_,fun _=>recZV,World.ownsMap_made _ _ _ _,fun s=>⟨rfl,recZ_ok w0⟩⟩
theorem FM.kept {w0 w w':World} {row:Option Nat} {b:Nat} {rs:List Rec} (h:FM w0 w b rs) (hg:w.grownBy w' row) (hne:some b≠row):FM w0 w' b rs:=let ⟨D,vl,h1,h2⟩:=h;⟨D,vl,h1.kept hg hne,h2⟩
theorem FM.below {w0 w w':World} {b:Nat} {rs:List Rec} (h:FM w0 w b rs) (hg:Below w.heap.size w w'):FM w0 w' b rs:=h.kept (gb_below hg none) (by simp)
theorem FM.lt {w0 w:World} {b:Nat} {rs:List Rec} (h:FM w0 w b rs):b<w.heap.size:=let ⟨_,_,h1,_⟩:=h;h1.lt
/-- The map, and the box that the finder has of it. -/
structure Fnd (w0 w:World) (g m:Nat) (rs:List Rec):Prop where
 bx:Bk w g 209 #[.map (some m)]
 lo:w0.heap.size≤g
 lom:w0.heap.size≤m
 fm:FM w0 w m rs
theorem Fnd.kept {w0 w w':World} {b g m:Nat} {rs:List Rec} (h:Fnd w0 w g m rs) (hg:w.grownBy w' (some b)) (hb:b≠g) (hm:b≠m):Fnd w0 w' g m rs :=
 ⟨h.bx.grown hg (by intro e;injection e with e;exact hb e.symm),h.lo,h.lom,h.fm.kept hg (by intro e;injection e with e;exact hm e.symm)⟩
theorem Fnd.below {w0 w w':World} {g m:Nat} {rs:List Rec} (h:Fnd w0 w g m rs) (hb:Below w.heap.size w w'):Fnd w0 w' g m rs :=
 ⟨h.bx.below hb h.bx.lt,h.lo,h.lom,h.fm.below hb⟩
/-- While the map is filled. -/
structure FinW (w wr:World) (z:Value) (S:Array Value) (rs:List Rec):Prop where
 bel:Below w.heap.size w wr
 sch:Bk wr w.heap.size 28 S
 bx:Bk wr (w.heap.size+1+1) 209 #[.map (some (w.heap.size+1))]
 fm:FM w wr (w.heap.size+1) rs
theorem FinW.below {w wr w':World} {z:Value} {S:Array Value} {rs:List Rec} (h:FinW w wr z S rs) (hb:Below wr.heap.size wr w'):FinW w w' z S rs :=
 ⟨h.bel.trans (hb.mono h.bel.size),h.sch.below hb h.sch.lt,h.bx.below hb h.bx.lt,h.fm.below hb⟩
end Vl
end Go.Proofs.YtogijkhenihaaaaGreatDoor
set_option linter.unusedVariables false
set_option linter.unusedSimpArgs false
namespace Go.Proofs.YtogijkhenihaaaaGreatDoor
open Go.RowKit Go.BigFrame
namespace Vl
open Go.Proofs.YtogijkhenihaaaaGreatDoor.Id Go.Proofs.YtogijkhenihaaaaGreatDoor.Chk
/-- What the calls share: the schema, the parts, the cursor. -/
structure Env (s:Sch) (w0 w:World) (b g m:Nat):Prop where
 bel:Below w0.heap.size w0 w
 fnd:Fnd w0 w g m s.records
 lo:w0.heap.size≤b
 ng:b≠g
 nm:b≠m
 lt:b<w.heap.size
theorem Env.grown {s:Sch} {w0 w w':World} {b g m:Nat} (h:Env s w0 w b g m) (hg:w.grownBy w' (some b)):Env s w0 w' b g m :=
 ⟨below_gb h.bel hg h.lo (Nat.le_trans h.lo (Nat.le_of_lt h.lt)),h.fnd.kept hg h.ng h.nm,h.lo,h.ng,h.nm,Nat.lt_of_lt_of_le h.lt hg.size⟩
theorem Env.below {s:Sch} {w0 w w':World} {b g m:Nat} (h:Env s w0 w b g m) (hb:Below w.heap.size w w'):Env s w0 w' b g m:=h.grown (gb_below hb _)
theorem Cur.below {w w':World} {b a:Nat} {vs f:Value} (h:Cur w b vs a f) (hb:Below w.heap.size w w'):Cur w' b vs a f:=Bk.below h hb (Bk.lt h)
def OfP (w:World) (b:Nat) (vs f:Value) (v:List Node) (R:Option (Nat × List Node)) (e:Ending) (w':World):Prop :=
 ∃ a',e=.returned (.int .i64 (deep R))∧w.grownBy w' (some b)∧Cur w' b vs a' f∧a'≤v.length∧∀ p,R=some p→p.2=v.drop a'
theorem gb_trans {a b c:World} {r:Option Nat} (h:a.grownBy b r) (k:b.grownBy c r):a.grownBy c r :=
 ⟨k.os.trans h.os,k.tape.trans h.tape,k.output.trans h.output,Nat.le_trans h.size k.size,fun i hi hn=>(k.block i (Nat.lt_of_lt_of_le hi h.size) hn).trans (h.block i hi hn)⟩
theorem OfP.after {w w1 w':World} {b:Nat} {vs f:Value} {v:List Node} {R:Option (Nat × List Node)} {e:Ending} (h:OfP w1 b vs f v R e w') (hg:w.grownBy w1 (some b)):OfP w b vs f v R e w':=by
 obtain ⟨a',h1,h2,h3⟩:=h
 exact ⟨a',h1,gb_trans hg h2,h3⟩
end Vl
end Go.Proofs.YtogijkhenihaaaaGreatDoor
set_option linter.unusedVariables false
set_option linter.unusedSimpArgs false
namespace Go.Proofs.YtogijkhenihaaaaGreatDoor
open Go.RowKit Go.BigFrame
namespace Vl
open Go.Proofs.YtogijkhenihaaaaGreatDoor.Id Go.Proofs.YtogijkhenihaaaaGreatDoor.Chk
/-- A row without its first element. -/
theorem _root_.Go.Proofs.YtogijkhenihaaaaGreatDoor.ERow.tail {α:Type} {w:World} {t:TypeId} {size n c g off:Nat} {E:World→List Value→α→Prop} {x:α} {l:List α} (h:ERow w none t size E (.slice (some ⟨g,off,none⟩) n c) (x::l)):ERow w none t size E (.slice (some ⟨g,off+size,none⟩) (n - 1) (c - 1)) l:=by
 obtain ⟨css,h1,h2,h3,h4⟩:=h
 cases css with
 | nil=>simp at h1
 | cons c0 css =>
  obtain ⟨hl,A,c',e,h5,h6,h7,h8⟩:=h3
  injection e with e1 e2 e3
  subst e1 e2 e3
  simp only [List.length_cons] at h1 h5 h6 hl
  have hc0:c0.length=size:=h2 c0 (by simp)
  refine ⟨css,by omega,fun cs hcs=>h2 cs (by simp [hcs]),⟨by rw [flatten_len (fun cs hcs=>h2 cs (by simp [hcs]))];congr 1;omega,_,_,by rw [List.length_cons,Nat.add_sub_cancel],by omega,by omega,(fun e=>by cases e),?_⟩,fun i a b=>?_⟩
  ·intro h0
   obtain ⟨g',off',e,hc⟩:=h8 (by simp only [List.flatten_cons,List.length_append];omega)
   injection e with e
   injection e with e1 e2
   subst e1 e2
   refine ⟨_,_,rfl,fun j u hu=>?_⟩
   have:=hc (size+j) u (by rw [List.flatten_cons,List.getElem?_append_right (by omega),hc0,Nat.add_sub_cancel_left];exact hu)
   rw [←Nat.add_assoc] at this
   exact this
  ·exact h4 (i+1) (by simpa using a) (by simpa using b)
end Vl
end Go.Proofs.YtogijkhenihaaaaGreatDoor
set_option linter.unusedVariables false
set_option linter.unusedSimpArgs false
namespace Go.Proofs.YtogijkhenihaaaaGreatDoor
open Go.RowKit Go.BigFrame
end Go.Proofs.YtogijkhenihaaaaGreatDoor
set_option linter.unusedVariables false
set_option linter.unusedSimpArgs false
namespace Go.Proofs.YtogijkhenihaaaaGreatDoor
open Go.RowKit Go.BigFrame
namespace Vl
open Go.Proofs.YtogijkhenihaaaaGreatDoor.Id Go.Proofs.YtogijkhenihaaaaGreatDoor.Chk
/-- What is not right in a schema and a type. -/
noncomputable def typE (s:Sch) (t:List Srt):Nat:=if (check s).2≠0 then (check s).2 else if right s t=true then 0 else 131
theorem typeP_len {t:List Srt} (h:(Prn.typeP t).toList.isEmpty=false):t.length≠0∧t.length≤12:=by
 rw [typeP_empty] at h
 have h3:(decide (t.length≤12)&&Prn.okP t)=true:=by simpa using h
 rw [Bool.and_eq_true,decide_eq_true_eq] at h3
 refine ⟨fun e=>?_,h3.1⟩
 have h4:t=[]:=List.length_eq_zero_iff.1 e
 subst h4
 cases h3.2
theorem typ_ok {s:Sch} {t:List Srt} (h:typE s t=0):Right s∧right s t=true:=by
 unfold typE at h
 split at h
 ·rename_i h1;exact absurd h h1
 ·rename_i h1
  split at h
  ·rename_i h2;exact ⟨check_ok (by omega),h2⟩
  ·cases h
theorem fine_small {x:Sch} (h:Fine x):∀ r∈x.records,r.fields.length≤10000∧∀ f∈r.fields,f.type.length≤10000:=h.small
end Vl
end Go.Proofs.YtogijkhenihaaaaGreatDoor
