/- Chapter 12, plain laws: IdlAhead, IdlMore. No condition but the ones the theorems state. -/
import Derived.Test.YtogijkhenihaaaaGreatDoorGP09
import Derived.Test.YtogijkhenihaaaaGreatDoorGP11
import Derived.Test.YtogijkhenihaaaaGreatDoorGP08
set_option linter.unusedVariables false
set_option linter.unusedSimpArgs false
namespace Go.Proofs.YtogijkhenihaaaaGreatDoor
namespace Id
theorem parse_ok {s:ByteArray} (h:(parse s).2.2=0):∃ l a x,Tk.all s=(l,a,0)∧schema (l,false)=(x,([],false))∧parse s=(x,0,0):=by
 unfold parse at h ⊢
 obtain ⟨⟨l,a,e⟩,ht⟩:∃ q,Tk.all s=q:=⟨_,rfl⟩
 by_cases he:e=0
 ·subst he
  obtain ⟨⟨x,q,b⟩,hr⟩:∃ w,schema (l,false)=w:=⟨_,rfl⟩
  by_cases hb:b=true∨q≠[]
  ·rw [whole_bad ht hr hb] at h
   cases h
  ·simp only [not_or,Bool.not_eq_true,ne_eq,Classical.not_not] at hb
   obtain ⟨rfl,rfl⟩:=hb
   exact ⟨l,a,x,ht,hr,whole_good ht hr⟩
 ·unfold whole at h
  rw [ht] at h
  simp [he] at h
theorem parse_of {s:ByteArray} {l:List Tk.Tok} {a:Nat} {x:Sch} (ht:Tk.all s=(l,a,0)) (hr:schema (l,false)=(x,([],false))):parse s=(x,0,0):=whole_good ht hr
/-- What stands behind the token of a fault makes no difference to it. -/
theorem ahead {a b c:ByteArray} (hc:c.data.toList=a.data.toList++10::b.data.toList) (hs:c.size≤65536) (ha:(Tk.all a).2.2=0) (hb:(Tk.all b).2.2=0) (hf:(parse a).2.2=120) (hne:(parse a).2.1≠a.size):parse c=parse a:=by
 have hj:=Tk.all_join hc hs
 rw [if_neg (by simpa using ha),if_neg (by simpa using hb)] at hj
 generalize (Tk.all b).1.map (Tk.Tok.move (a.size+1))=m at hj
 obtain ⟨⟨l,p,e⟩,ht⟩:∃ w,Tk.all a=w:=⟨_,rfl⟩
 rw [ht] at ha hj
 simp only at ha hj
 subst ha
 obtain ⟨⟨x,q,bd⟩,hr⟩:∃ w,schema (l,false)=w:=⟨_,rfl⟩
 have hend:=schema_end (l,false)
 rw [hr] at hend
 simp only at hend
 cases bd
 ·have:=hend rfl
  subst this
  unfold parse at hf
  rw [whole_good ht hr] at hf
  cases hf
 ·unfold parse at hne ⊢
  rw [whole_bad ht hr (.inl rfl)] at hne ⊢
  cases q with
  | nil=>exact absurd rfl hne
  | cons t q =>
   have hr2:schema (l++m,false)=(x,(t::q++m,true)):=by
    unfold schema at hr ⊢
    dsimp only at hr ⊢
    have k:Rd (bnd (wnt wModule) fun _=>bnd name fun n=>bnd (wnt sSemi) fun _=>ret n):=(rd_want _).bind fun _=>(rd_name.bind fun n=>((rd_want _).bind fun _=>RdW.ret n).toRdW).toRdW
    have k2:=k.loc l m
    have e1:∀ s,(bnd (wnt wModule) fun _=>bnd name fun n=>bnd (wnt sSemi) fun _=>ret n) s=((name (want s wModule)).1,want (name (want s wModule)).2 sSemi):=fun s=>rfl
    rw [e1,e1] at k2
    rcases k2 with k2 | k2
    ·simp only at k2
     rw [k2,schemaF_true] at hr
     cases hr
    ·have e2:=congrArg Prod.fst k2
     have e3:=congrArg Prod.snd k2
     simp only at e2 e3
     rw [e2,e3]
     generalize want (name (want (l,false) wModule)).2 sSemi=s3 at *
     obtain ⟨r3,b3⟩:=s3
     cases b3
     ·exact schemaF_ahead _ _ r3 m _ x t q (Nat.le_refl _) (by simp) hr
     ·simp only at hr ⊢
      rw [schemaF_true] at hr ⊢
      injection hr with e4 e5
      injection e5 with e6 _
      rw [e4,e6]
   rw [whole_bad hj hr2 (.inl rfl)]
   rfl
def modM:ByteArray:=⟨#[109,111,100,117,108,101,32,109,59]⟩
theorem modM_all:Tk.all modM=([⟨1,⟨#[109,111,100,117,108,101]⟩,0,0⟩,⟨1,⟨#[109]⟩,0,7⟩,⟨3,⟨#[59]⟩,0,8⟩],0,0):=by kernel_rfl
/-- The declarations of another text, put behind, are read as they are there. -/
theorem more {a b c d:ByteArray} (hc:c.data.toList=a.data.toList++10::b.data.toList) (hs:c.size≤65536) (hd:d.data.toList=modM.data.toList++10::b.data.toList) (hsd:d.size≤65536)
  (ha:(parse a).2.2=0) (hb:(parse d).2.2=0):parse c=(cat (parse a).1 (parse d).1,0,0):=by
 obtain ⟨la,pa,xa,hta,hra,hpa⟩:=parse_ok ha
 obtain ⟨ld,pd,xd,htd,hrd,hpd⟩:=parse_ok hb
 rw [hpa,hpd]
 have hjd:=Tk.all_join hd hsd
 rw [modM_all] at hjd
 simp only [ne_eq,not_true_eq_false,if_false] at hjd
 have hbe:(Tk.all b).2.2=0:=by
  by_cases h:(Tk.all b).2.2=0
  ·exact h
  ·rw [if_pos h,htd] at hjd
   injection hjd with _ e
   injection e with _ e
   exact absurd e.symm h
 rw [if_neg (by simpa using hbe),htd] at hjd
 have hjc:=Tk.all_join hc hs
 rw [hta] at hjc
 simp only [ne_eq,not_true_eq_false,if_false] at hjc
 rw [if_neg (by simpa using hbe)] at hjc
 generalize (Tk.all b).1=lb at hjd hjc
 injection hjd with hld _
 subst hld
 refine parse_of hjc ?_
 -- the end of the first part
 have k:∀ (l m:List Tk.Tok) (x:Sch),schema (l,false)=(x,([],false))→schema (l++m,false)=schemaF (m.length+2) (m,false) x:=fun l m x hr=>by
  unfold schema at hr ⊢
  dsimp only at hr ⊢
  have k:Rd (bnd (wnt wModule) fun _=>bnd name fun n=>bnd (wnt sSemi) fun _=>ret n):=(rd_want _).bind fun _=>(rd_name.bind fun n=>((rd_want _).bind fun _=>RdW.ret n).toRdW).toRdW
  have k2:=k.loc l m
  have e1:∀ s,(bnd (wnt wModule) fun _=>bnd name fun n=>bnd (wnt sSemi) fun _=>ret n) s=((name (want s wModule)).1,want (name (want s wModule)).2 sSemi):=fun s=>rfl
  rw [e1,e1] at k2
  rcases k2 with k2 | k2
  ·simp only at k2
   rw [k2,schemaF_true] at hr
   cases hr
  ·have e2:=congrArg Prod.fst k2
   have e3:=congrArg Prod.snd k2
   simp only at e2 e3
   rw [e2,e3]
   generalize want (name (want (l,false) wModule)).2 sSemi=s3 at *
   obtain ⟨r3,b3⟩:=s3
   cases b3
   ·exact schemaF_more _ _ _ r3 m _ x (Nat.le_refl _) (by simp) (Nat.le_refl _) hr
   ·simp only at hr
    rw [schemaF_true] at hr
    cases hr
 rw [k la _ xa hra]
 have hd2:schema (([⟨1,⟨#[109,111,100,117,108,101]⟩,0,0⟩,⟨1,⟨#[109]⟩,0,7⟩,⟨3,⟨#[59]⟩,0,8⟩]:List Tk.Tok)++lb.map (Tk.Tok.move (modM.size+1)),false)=schemaF ((lb.map (Tk.Tok.move (modM.size+1))).length+2) (lb.map (Tk.Tok.move (modM.size+1)),false) ⟨⟨#[109]⟩,[],[],[]⟩ :=
  k _ _ _ (by kernel_rfl)
 rw [hrd] at hd2
 have hz:∀ n,(zs (lb.map (Tk.Tok.move n),false))=zs (lb,false):=fun n=>by
  unfold zs
  simp only [List.map_map]
  rfl
 have hx:cat xa ⟨⟨#[109]⟩,[],[],[]⟩=xa:=by simp [cat]
 have h1:=schemaF_z (lb.length+2) (lb.map (Tk.Tok.move (modM.size+1)),false) ⟨⟨#[109]⟩,[],[],[]⟩
 have h2:=schemaF_z (lb.length+2) (lb.map (Tk.Tok.move (a.size+1)),false) ⟨⟨#[109]⟩,[],[],[]⟩
 rw [hz] at h1 h2
 rw [h1] at h2
 rw [List.length_map] at hd2 ⊢
 rw [←hd2] at h2
 have hfin:=schemaF_cat (lb.length+2) (lb.map (Tk.Tok.move (a.size+1)),false) xa ⟨⟨#[109]⟩,[],[],[]⟩
 rw [hx] at hfin
 rw [hfin]
 clear hfin
 generalize schemaF (lb.length+2) (lb.map (Tk.Tok.move (a.size+1)),false) ⟨⟨#[109]⟩,[],[],[]⟩=w at *
 obtain ⟨y,q,bd⟩:=w
 injection h2 with h3 h4
 simp only at h3
 subst h3
 have h5:q=[]:=by
  have:=congrArg Prod.fst h4
  simp only [zs,List.map_nil] at this
  exact List.map_eq_nil_iff.1 this.symm
 have h6:bd=false:=by
  have:=congrArg Prod.snd h4
  exact this.symm
 subst h5 h6
 rfl
end Id
end Go.Proofs.YtogijkhenihaaaaGreatDoor
