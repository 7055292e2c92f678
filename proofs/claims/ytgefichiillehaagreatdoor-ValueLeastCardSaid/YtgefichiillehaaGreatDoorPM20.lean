/- values, plain: the least value of a type fits it, and no value is less deep. No condition. -/
import Derived.Test.YtgefichiillehaaGreatDoorPM19
import Derived.Test.YtgefichiillehaaGreatDoorPM15
import Derived.Test.YtgefichiillehaaGreatDoorPM03
set_option linter.unusedVariables false
set_option linter.unusedSimpArgs false
namespace Go.Proofs.YtgefichiillehaaGreatDoor
open Go.RowKit Go.BigFrame
namespace Vl
open Go.Proofs.YtgefichiillehaaGreatDoor.Id Go.Proofs.YtgefichiillehaaGreatDoor.Chk Go.Proofs.YtgefichiillehaaGreatDoor.Prn
theorem nil_empty:(⟨#[]⟩:ByteArray).toList.isEmpty=true:=by decide +kernel
/-- What the least depths are made of. -/
theorem Min.lst {s:Sch} {kn:Kn} (h:Min s kn) {n:ByteArray} {r:Rec} (hf:find s n=some r) (h0:kn n≠0):(lstD kn r).2=true∧(lstD kn r).1=kn n:=by
 have hs:Sd s kn:=fun m hm=>(h m).1 hm
 have hl:=(h n).1 h0
 obtain ⟨d,hd⟩:∃ d,kn n=d+1:=⟨kn n - 1,by omega⟩
 have key:(lstD kn r).2=true∧(lstD kn r).1≤kn n:=by
  rw [hd] at hl ⊢
  unfold lvT at hl
  simp only [if_true,hf] at hl
  obtain ⟨h1,h2,h3,h4,h5,h6⟩:=lst_fold kn r.fields ⟨0,0,false⟩
  have e:r.fields.foldl (lstStep kn) ⟨0,0,false⟩=lstF kn r:=rfl
  rw [e] at h1 h2 h3 h4 h5 h6
  unfold lvQ at hl
  unfold lstD
  cases hc:r.choice
  ·rw [hc] at hl
   simp only [Bool.false_eq_true,if_false] at hl ⊢
   have ha:=List.all_eq_true.1 hl
   have hmiss:(lstF kn r).miss=false:=by
    rw [Bool.eq_false_iff]
    intro hmi
    rcases h2.1 hmi with e | ⟨f,hf,e⟩
    ·cases e
    ·exact (h.dpt (ha f hf)).1 e
   have:=(h1 d).2 ⟨Nat.zero_le _,fun f hf=>(h.dpt (ha f hf)).2⟩
   exact ⟨by rw [hmiss];rfl,by omega⟩
  ·rw [hc] at hl
   simp only [if_true] at hl ⊢
   obtain ⟨f,hfm,hp⟩:=List.any_eq_true.1 hl
   obtain ⟨b1,b2⟩:=h.dpt hp
   have hb:(lstF kn r).best≠0:=fun e=>b1 ((h3.1 e).2 f hfm)
   have hb2:=h4 f hfm b1
   exact ⟨by rw [decide_eq_true_eq];omega,by omega⟩
 exact ⟨key.1,Nat.le_antisymm key.2 ((h n).2 _ (hs.rec hf key.1)).2⟩
/-- A choice's least way. -/
def way (kn:Kn) (r:Rec) (d:Nat):Nat:=r.fields.findIdx (fun f=>dpt kn f.type==d)
theorem Min.way {s:Sch} {kn:Kn} (h:Min s kn) {n:ByteArray} {r:Rec} (hf:find s n=some r) (h0:kn n≠0) (hc:r.choice=true):way kn r (kn n - 1)<r.fields.length∧1<kn n:=by
 obtain ⟨h1,h2⟩:=h.lst hf h0
 unfold lstD at h1 h2
 rw [hc] at h1 h2
 simp only [if_true,decide_eq_true_eq] at h1 h2
 obtain ⟨g1,g2,g3,g4,g5,g6⟩:=lst_fold kn r.fields ⟨0,0,false⟩
 have e:r.fields.foldl (lstStep kn) ⟨0,0,false⟩=lstF kn r:=rfl
 rw [e] at g6
 obtain ⟨f,hfm,he⟩:=g6 (by simp only;omega)
 refine ⟨?_,by omega⟩
 unfold Vl.way
 rw [List.findIdx_lt_length]
 exact ⟨f,hfm,by rw [beq_iff_eq,he];omega⟩
theorem way_at {kn:Kn} {r:Rec} {d:Nat} (h:way kn r d<r.fields.length):dpt kn (r.fields[way kn r d]'h).type=d:=by
 have:=List.findIdx_getElem (xs:=r.fields) (p:=fun f:Fld=>dpt kn f.type==d) (w:=h)
 exact beq_iff_eq.1 this
theorem Min.rec_le {s:Sch} {kn:Kn} (h:Min s kn) {n:ByteArray} {r:Rec} (hf:find s n=some r) (h0:kn n≠0) (hc:r.choice=false):∀ f∈r.fields,Vl.dpt kn f.type≠0∧Vl.dpt kn f.type+1≤kn n:=by
 obtain ⟨h1,h2⟩:=h.lst hf h0
 unfold lstD at h1 h2
 rw [hc] at h1 h2
 simp only [Bool.false_eq_true,if_false] at h1 h2
 obtain ⟨g1,g2,g3,g4,g5,g6⟩:=lst_fold kn r.fields ⟨0,0,false⟩
 have e:r.fields.foldl (lstStep kn) ⟨0,0,false⟩=lstF kn r:=rfl
 rw [e] at g1 g2
 have hm:¬(lstF kn r).miss=true:=by simpa using h1
 rw [g2] at hm
 intro f hfm
 have:=((g1 _).1 (Nat.le_refl _)).2 f hfm
 exact ⟨fun e=>hm (.inr ⟨f,hfm,e⟩),by omega⟩
/-- The parts of the least value. -/
def bldF (s:Sch) (kn:Kn):Nat→List Srt→List Node
 | 0,_=>[]
 | _+1,[]=>[]
 | k+1,x::_=>if x.kind=7 then (match find s x.name with
  | none=>[]
  | some r=>if r.choice=true then ⟨8,way kn r (kn x.name - 1),⟨#[]⟩,1⟩::bldF s kn k ((r.fields.map (·.type)).getD (way kn r (kn x.name - 1)) []) else ⟨7,0,⟨#[]⟩,r.fields.length⟩::(r.fields.flatMap fun f=>bldF s kn k f.type)) else [⟨x.kind,0,⟨#[]⟩,0⟩]
theorem bld_text {s:Sch} {kn:Kn}:∀ (k:Nat) (t:List Srt),∀ n∈bldF s kn k t,n.text=⟨#[]⟩
 | 0,t,n,h=>by unfold bldF at h;cases h
 | k+1,[],n,h=>by unfold bldF at h;cases h
 | k+1,x::t,n,h=>by
  unfold bldF at h
  split at h
  ·split at h
   ·cases h
   ·split at h
    ·rcases List.mem_cons.1 h with rfl | h
     ·rfl
     ·exact bld_text k _ n h
    ·rcases List.mem_cons.1 h with rfl | h
     ·rfl
     ·obtain ⟨f,-,hf⟩:=List.mem_flatMap.1 h
      exact bld_text k _ n hf
  ·rw [List.mem_singleton] at h
   subst h
   rfl
theorem bld_size {s:Sch} {kn:Kn} (k:Nat) (t:List Srt):size (bldF s kn k t)=(bldF s kn k t).length:=by
 have h:∀ l:List Node,(∀ n∈l,n.text=⟨#[]⟩)→(l.map (·.text.size)).sum=0:=fun l=>by
  induction l with
  | nil=>intro _;rfl
  | cons n l ih =>
   intro h
   rw [List.map_cons,List.sum_cons,ih (fun m hm=>h m (by simp [hm])),h n (by simp)]
   rfl
 unfold size
 rw [h _ (bld_text k t)]
 omega
theorem many_flat {s:Sch} {f:List Srt→List Node→Option (Nat × List Node)} {g:List Srt→List Node} {h:List Srt→Nat} :
  ∀ (ts:List (List Srt)) (_:∀ t∈ts,∀ r,f t (g t++r)=some (h t,r)) (d:Nat) (r:List Node),manyF f ts d (ts.flatMap g++r)=some (ts.foldl (fun a t=>max a (h t)) d,r)
 | [],_,d,r=>rfl
 | t::ts,ht,d,r=>by
  unfold manyF
  rw [List.flatMap_cons,List.append_assoc,ht t (by simp)]
  simp only
  rw [many_flat (s:=s) ts (fun u hu=>ht u (by simp [hu]))]
  rfl
theorem fold_max (h:List Srt→Nat):∀ (ts:List (List Srt)) (d:Nat),ts.foldl (fun a t=>max a (h t)) d ≥ d∧(∀ t∈ts,h t≤ts.foldl (fun a t=>max a (h t)) d)∧∀ m,d≤m→(∀ t∈ts,h t≤m)→ts.foldl (fun a t=>max a (h t)) d≤m
 | [],d=>⟨Nat.le_refl _,by simp,fun m hm _=>hm⟩
 | t::ts,d=>by
  rw [List.foldl_cons]
  obtain ⟨h1,h2,h3⟩:=fold_max h ts (max d (h t))
  refine ⟨by omega,?_,fun m hm ht=>h3 m (by have:=ht t (by simp);omega) (fun u hu=>ht u (by simp [hu]))⟩
  intro u hu
  rcases List.mem_cons.1 hu with rfl | hu
  ·omega
  ·exact h2 u hu
/-- The least value is one of its type, and as deep as the type's least depth. -/
theorem bld_of {s:Sch} (hR:Right s) {kn:Kn} (h:Min s kn):∀ (k:Nat) (t:List Srt) (r:List Node),okT s t=true→dpt kn t≠0→dpt kn t≤k→∀ F,k≤F→ofF s none F t (bldF s kn k t++r)=some (dpt kn t,r)
 | 0,t,r,ht,h0,hk,F,hF=>by omega
 | k+1,[],r,ht,h0,hk,F,hF=>by cases ht
 | k+1,x::t,r,ht,h0,hk,F,hF=>by
  obtain ⟨F,rfl⟩:∃ G,F=G+1:=⟨F - 1,by omega⟩
  have hkd:=okT_kind ht
  unfold bldF
  by_cases h7:x.kind=7
  ·rw [if_pos h7]
   have hsm:(find s x.name).isSome=true:=by rcases hkd with h | h | h | h <;> first | (exfalso;omega) | exact h.2.2
   obtain ⟨q,hq⟩:=Option.isSome_iff_exists.1 hsm
   have hm:=(find_name hq).1
   have hd:dpt kn (x::t)=kn x.name:=by unfold dpt;simp only;rw [if_pos h7]
   rw [hd] at h0 hk ⊢
   simp only [hq]
   cases hc:q.choice
   ·simp only [Bool.false_eq_true,if_false,List.cons_append]
    unfold ofF
    rw [if_neg (by omega)]
    unfold kidsOf
    rw [if_neg (by omega),hq,Option.getD_some]
    unfold kidsRec
    rw [if_neg (by rw [hc];decide),if_pos ⟨rfl,rfl,nil_empty,rfl⟩]
    show up (manyF (ofF s none F) (q.fields.map (·.type)) 0 (q.fields.flatMap (fun f=>bldF s kn k f.type)++r))=_
    have hr:=h.rec_le hq h0 hc
    have e:q.fields.flatMap (fun f=>bldF s kn k f.type)=(q.fields.map (·.type)).flatMap (bldF s kn k):=by rw [List.flatMap_map]
    rw [e,many_flat (s:=s) (h:=dpt kn) _ (fun u hu r=>by
     obtain ⟨f,hf,rfl⟩:=List.mem_map.1 hu
     have h1:=hr f hf
     exact bld_of hR h k f.type r (right_okT (field_right hR hm hf)).1 h1.1 (by omega) F (by omega))]
    obtain ⟨g1,g2,g3⟩:=fold_max (dpt kn) (q.fields.map (·.type)) 0
    obtain ⟨l1,l2⟩:=h.lst hq h0
    obtain ⟨f1,f2,f3,f4,f5,f6⟩:=lst_fold kn q.fields ⟨0,0,false⟩
    have e2:q.fields.foldl (lstStep kn) ⟨0,0,false⟩=lstF kn q:=rfl
    rw [e2] at f1
    unfold lstD at l2
    rw [hc] at l2
    simp only [Bool.false_eq_true,if_false] at l2
    have a1:(lstF kn q).worst≤(q.fields.map (·.type)).foldl (fun a t=>max a (dpt kn t)) 0:=(f1 _).2 ⟨Nat.zero_le _,fun f hf=>g2 _ (List.mem_map.2 ⟨f,hf,rfl⟩)⟩
    have a2:(q.fields.map (·.type)).foldl (fun a t=>max a (dpt kn t)) 0≤(lstF kn q).worst:=g3 _ (Nat.zero_le _) (fun u hu=>by obtain ⟨f,hf,rfl⟩:=List.mem_map.1 hu;exact ((f1 _).1 (Nat.le_refl _)).2 f hf)
    show some (_,r)=_
    rw [show (q.fields.map (·.type)).foldl (fun a t=>max a (dpt kn t)) 0+1=kn x.name by omega]
   ·simp only [if_true,List.cons_append]
    obtain ⟨w1,w2⟩:=h.way hq h0 hc
    have hat:=way_at w1
    unfold ofF
    rw [if_neg (by omega)]
    unfold kidsOf
    rw [if_neg (by omega),hq,Option.getD_some]
    unfold kidsRec
    rw [if_pos hc,if_pos ⟨rfl,nil_empty,rfl,by simp only;omega,by simp only;omega⟩]
    have hg:(q.fields.map (·.type)).getD (way kn q (kn x.name - 1)) []=(q.fields[way kn q (kn x.name - 1)]'w1).type:=by
     rw [List.getD_eq_getElem?_getD,List.getElem?_eq_getElem (by rw [List.length_map];exact w1),Option.getD_some,List.getElem_map]
    simp only [Int.toNat_natCast]
    rw [hg]
    show up (manyF (ofF s none F) [_] 0 (bldF s kn k _++r))=_
    unfold manyF
    rw [bld_of hR h k _ r (right_okT (field_right hR hm (List.getElem_mem w1))).1 (by rw [hat];omega) (by rw [hat];omega) F (by omega)]
    simp only
    unfold manyF up
    rw [hat]
    show some (_,r)=_
    rw [show max 0 (kn x.name - 1)+1=kn x.name by omega]
  ·rw [if_neg h7]
   have hd:dpt kn (x::t)=1:=by unfold dpt;simp only;rw [if_neg h7]
   rw [hd,List.singleton_append]
   unfold ofF
   by_cases hl:x.kind=1∨x.kind=2∨x.kind=3∨x.kind=4
   ·have hE:(⟨#[]⟩:ByteArray).toList.isEmpty=true:=by decide +kernel
    rw [if_pos hl,if_pos]
    unfold leaf
    simp only [hE,beq_self_eq_true,Bool.true_and,Bool.true_or]
   ·rw [if_neg hl]
    have h56:x.kind=5∨x.kind=6:=by rcases hkd with h | h | h | h <;> first | exact absurd h hl | exact .inl h | exact .inr h | exact absurd h.1 h7
    unfold kidsOf
    rw [if_pos h56]
    unfold kidsWrap
    rw [if_pos ⟨rfl,rfl,nil_empty,by simp,by simp⟩]
    rfl
/-- No value is less deep. -/
theorem of_lv {s:Sch}:∀ (k:Nat) (t:List Srt) (r:List Node) (d:Nat) (r':List Node),okT s t=true→Right s→ofF s none k t r=some (d,r')→lvT s d t=true
 | 0,t,r,d,r',ht,hR,h=>by unfold ofF at h;cases h
 | k+1,[],r,d,r',ht,hR,h=>by unfold ofF at h;cases h
 | k+1,x::t,[],d,r',ht,hR,h=>by unfold ofF at h;cases h
 | k+1,x::t,n::r,d,r',ht,hR,h=>by
  unfold ofF at h
  split at h
  ·rename_i hl
   split at h
   ·injection h with h
    injection h with h1 h2
    subst h1
    unfold lvT
    rw [if_neg (by omega)]
   ·cases h
  ·rename_i hl
   obtain ⟨ks,e,hks,rfl,h2⟩:=stepK_some h
   unfold lvT
   by_cases h7:x.kind=7
   ·rw [if_pos h7]
    have hsm:(find s x.name).isSome=true:=by rcases okT_kind ht with h | h | h | h <;> first | (exfalso;omega) | exact h.2.2
    obtain ⟨q,hq⟩:=Option.isSome_iff_exists.1 hsm
    have hm:=(find_name hq).1
    simp only [hq]
    have hall:∀ (ts:List (List Srt)) (d0:Nat) (r0:List Node) (e0:Nat) (r1:List Node),(∀ u∈ts,okT s u=true)→manyF (ofF s none k) ts d0 r0=some (e0,r1)→d0≤e0∧∀ u∈ts,lvT s e0 u=true:=fun ts=>by
     induction ts with
     | nil =>
      intro d0 r0 e0 r1 _ h
      injection h with h
      injection h with h1 h2
      subst h1
      exact ⟨Nat.le_refl _,by simp⟩
     | cons u ts ih =>
      intro d0 r0 e0 r1 hu h
      unfold manyF at h
      split at h
      ·cases h
      ·rename_i p hp
       obtain ⟨a,q'⟩:=p
       obtain ⟨i1,i2⟩:=ih _ _ _ _ (fun v hv=>hu v (by simp [hv])) h
       refine ⟨by simp only at i1;omega,fun v hv=>?_⟩
       rcases List.mem_cons.1 hv with rfl | hv
       ·exact lvT_mono (by simp only at i1;omega) (of_lv k _ r0 a q' (hu _ (by simp)) hR hp)
       ·exact i2 v hv
    have hk7:=kids_right hR ht hks hl
    obtain ⟨-,a2⟩:=hall ks 0 r e r' hk7 h2
    unfold kidsOf at hks
    rw [if_neg (by omega),hq,Option.getD_some] at hks
    unfold kidsRec at hks
    unfold lvQ
    split at hks
    ·rename_i hc
     rw [if_pos hc]
     split at hks
     ·rename_i hn
      injection hks with hks
      subst hks
      have hlt:n.int.toNat<q.fields.length:=by omega
      refine List.any_eq_true.2 ⟨q.fields[n.int.toNat],List.getElem_mem _,a2 _ ?_⟩
      rw [List.getD_eq_getElem?_getD,List.getElem?_eq_getElem (by rw [List.length_map];exact hlt),Option.getD_some,List.getElem_map,List.mem_singleton]
     ·cases hks
    ·rename_i hc
     rw [if_neg hc]
     split at hks
     ·injection hks with hks
      subst hks
      exact List.all_eq_true.2 fun f hf=>a2 _ (List.mem_map.2 ⟨f,hf,rfl⟩)
     ·cases hks
   ·rw [if_neg h7]
/-- How deep a whole is, by its parts alone. -/
def dep (N:Nat) (D:List Node→Option (Nat × List Node)):Nat→Nat→List Node→Option (Nat × List Node)
 | 0,d,r=>some (d,r)
 | m+1,d,r=>match D r with
  | none=>none
  | some p=>dep N D m (max d p.1) p.2
def depF (N:Nat):Nat→List Node→Option (Nat × List Node)
 | 0,_=>none
 | _+1,[]=>none
 | k+1,n::r=>if 0≤n.kids∧n.kids≤N then up (dep N (depF N k) n.kids.toNat 0 r) else none
theorem dep_many {N:Nat} {f:List Srt→List Node→Option (Nat × List Node)} {D:List Node→Option (Nat × List Node)} (hf:∀ t r d r',r.length≤N→f t r=some (d,r')→D r=some (d,r')∧r'.length≤N) :
  ∀ (ts:List (List Srt)) (d:Nat) (r:List Node) (e:Nat) (r':List Node),r.length≤N→manyF f ts d r=some (e,r')→dep N D ts.length d r=some (e,r')
 | [],d,r,e,r',hN,h=>h
 | t::ts,d,r,e,r',hN,h=>by
  unfold manyF at h
  split at h
  ·cases h
  ·rename_i p hp
   obtain ⟨a,q⟩:=p
   obtain ⟨h1,h2⟩:=hf t r a q hN hp
   rw [List.length_cons]
   unfold dep
   rw [h1]
   exact dep_many hf ts _ q e r' h2 h
theorem of_dep {s:Sch} {N:Nat}:∀ (k:Nat) (t:List Srt) (r:List Node) (d:Nat) (r':List Node),r.length≤N→ofF s none k t r=some (d,r')→depF N k r=some (d,r')
 | 0,t,r,d,r',hN,h=>by unfold ofF at h;cases h
 | k+1,[],r,d,r',hN,h=>by unfold ofF at h;cases h
 | k+1,x::t,[],d,r',hN,h=>by unfold ofF at h;cases h
 | k+1,x::t,n::r,d,r',hN,h=>by
  simp only [List.length_cons] at hN
  unfold ofF at h
  unfold depF
  split at h
  ·split at h
   ·rename_i hl
    injection h with h
    injection h with h1 h2
    subst h1 h2
    rw [leaf_kids hl,if_pos ⟨by omega,by omega⟩]
    rfl
   ·cases h
  ·obtain ⟨ks,e,hks,rfl,h2⟩:=stepK_some h
   have hn:=kids_num hks
   have hl:=(many_len (N:=N) (of_len k) ks 0 r e r' (by omega) h2).2.1
   rw [hn,if_pos ⟨by omega,by omega⟩,Int.toNat_natCast,dep_many (fun t r d r' hr ht=>⟨of_dep k t r d r' hr ht,by have:=(of_len (N:=N) k t r d r' hr ht).2.1;omega⟩) ks 0 r e r' (by omega) h2]
   rfl
/-- What Least hands out: the parts, or why there are none. -/
noncomputable def leastE (s:Sch) (t:List Srt) (kn:Kn) (e:Nat):Option (List Node) × Nat :=
 if e≠0 then (none,e) else if 12<dpt kn t then (none,151) else if 4096<(bldF s kn 12 t).length then (none,3) else (some (bldF s kn 12 t),0)
theorem Min.of_right {s:Sch} (hR:Right s) {kn:Kn} (h:Min s kn) {t:List Srt} (ht:okT s t=true):Vl.dpt kn t≠0:=by
 cases t with
 | nil=>cases ht
 | cons x t =>
  unfold Vl.dpt
  simp only
  by_cases h7:x.kind=7
  ·rw [if_pos h7]
   have hsm:(find s x.name).isSome=true:=by rcases okT_kind ht with h | h | h | h <;> first | (exfalso;omega) | exact h.2.2
   obtain ⟨q,hq⟩:=Option.isSome_iff_exists.1 hsm
   obtain ⟨hm,hn⟩:=find_name hq
   obtain ⟨d,hd⟩:=right_lv hR hm
   rw [hn] at hd
   exact ((h _).2 d hd).1
  ·rw [if_neg h7]
   omega
end Vl
end Go.Proofs.YtgefichiillehaaGreatDoor
set_option linter.unusedVariables false
set_option linter.unusedSimpArgs false
namespace Go.Proofs.YtgefichiillehaaGreatDoor
open Go.RowKit Go.BigFrame
namespace Vl
open Go.Proofs.YtgefichiillehaaGreatDoor.Id Go.Proofs.YtgefichiillehaaGreatDoor.Chk Go.Proofs.YtgefichiillehaaGreatDoor.Prn
/-- What a record's value is made of. -/
theorem fits_rec {s:Sch} {rn:ByteArray} {r:Rec} {v:List Node} (hf:find s rn=some r) (hc:r.choice=false) (h:fits s (nmd rn) v=0):∃ n q e,v=n::q∧manyF (ofF s none v.length) (r.fields.map (·.type)) 0 q=some (e,[]):=by
 obtain ⟨h1,h2,d,h3,-,-⟩:=fits_ok h
 cases v with
 | nil=>unfold nmd ofF at h3;cases h3
 | cons n q =>
  unfold nmd at h3
  simp only [List.length_cons] at h3 ⊢
  unfold ofF at h3
  rw [if_neg (by simp)] at h3
  obtain ⟨ks,e,hks,-,hm⟩:=stepK_some h3
  unfold kidsOf at hks
  rw [if_neg (by simp),hf,Option.getD_some] at hks
  unfold kidsRec at hks
  rw [if_neg (by rw [hc];decide)] at hks
  split at hks
  ·injection hks with hks
   subst hks
   exact ⟨n,q,e,rfl,hm⟩
  ·cases hks
def wAcc:ByteArray:=⟨#[97,99,99,111,117,110,116]⟩
def wAmt:ByteArray:=⟨#[97,109,111,117,110,116]⟩
def ordV (a b:Option (List Node)):Option (ByteArray × Int):=match a,b with
 | some (x::_),some (y::_)=>some (x.text,y.int)
 | _,_=>none
def ordT (a b:Option (List Node)):Option (ByteArray × Int):=match a,b with
 | some (x::_),some (y::_)=>if x.kind=4∧y.kind=3 then some (x.text,y.int) else none
 | _,_=>none
/-- An order's account and amount: as the program has them, and as the document. -/
noncomputable def ordP (s:Sch) (rn:ByteArray) (v:List Node):Option (ByteArray × Int):=ordT (field s rn v wAcc) (field s rn v wAmt)
theorem field_some {s:Sch} {rn fn:ByteArray} {v l:List Node} (h:field s rn v fn=some l):∃ r,find s rn=some r∧r.choice=false∧fits s (nmd rn) v=0∧fieldL v.length fn r.fields (v.drop 1)=some l:=by
 unfold field at h
 split at h
 ·cases h
 ·rename_i r hr
  split at h
  ·cases h
  ·rename_i hc
   split at h
   ·cases h
   ·rename_i hf
    exact ⟨r,hr,by simpa using hc,by simpa using hf,h⟩
theorem ordT_none_l (b:Option (List Node)):ordT none b=none:=by cases b <;> rfl
theorem ordT_none_r (a:Option (List Node)):ordT a none=none:=by
 cases a with
 | none=>rfl
 | some l=>cases l <;> rfl
end Vl
end Go.Proofs.YtgefichiillehaaGreatDoor
set_option linter.unusedVariables false
set_option linter.unusedSimpArgs false
namespace Go.Proofs.YtgefichiillehaaGreatDoor
open Go.RowKit Go.BigFrame
namespace Chk
open Go.Proofs.YtgefichiillehaaGreatDoor.Id
end Chk
end Go.Proofs.YtgefichiillehaaGreatDoor
set_option linter.unusedVariables false
set_option linter.unusedSimpArgs false
namespace Go.Proofs.YtgefichiillehaaGreatDoor
open Go.RowKit Go.BigFrame
end Go.Proofs.YtgefichiillehaaGreatDoor
set_option linter.unusedVariables false
set_option linter.unusedSimpArgs false
namespace Go.Proofs.YtgefichiillehaaGreatDoor
open Go.RowKit Go.BigFrame
namespace Chk
open Go.Proofs.YtgefichiillehaaGreatDoor.Id
def decls (x:Sch):List ByteArray:=(declsP x).map (·.1)
end Chk
end Go.Proofs.YtgefichiillehaaGreatDoor
set_option linter.unusedVariables false
set_option linter.unusedSimpArgs false
namespace Go.Proofs.YtgefichiillehaaGreatDoor
open Go.RowKit Go.BigFrame
end Go.Proofs.YtgefichiillehaaGreatDoor
set_option linter.unusedVariables false
set_option linter.unusedSimpArgs false
namespace Go.Proofs.YtgefichiillehaaGreatDoor
open Go.RowKit Go.BigFrame
end Go.Proofs.YtgefichiillehaaGreatDoor
set_option linter.unusedVariables false
set_option linter.unusedSimpArgs false
namespace Go.Proofs.YtgefichiillehaaGreatDoor
open Go.RowKit Go.BigFrame
end Go.Proofs.YtgefichiillehaaGreatDoor
set_option linter.unusedVariables false
set_option linter.unusedSimpArgs false
namespace Go.Proofs.YtgefichiillehaaGreatDoor
open Go.RowKit Go.BigFrame
namespace Chk
open Go.Proofs.YtgefichiillehaaGreatDoor.Id
end Chk
end Go.Proofs.YtgefichiillehaaGreatDoor
set_option linter.unusedVariables false
set_option linter.unusedSimpArgs false
namespace Go.Proofs.YtgefichiillehaaGreatDoor
open Go.RowKit Go.BigFrame
end Go.Proofs.YtgefichiillehaaGreatDoor
set_option linter.unusedVariables false
set_option linter.unusedSimpArgs false
namespace Go.Proofs.YtgefichiillehaaGreatDoor
open Go.RowKit Go.BigFrame
namespace Vl
open Go.Proofs.YtgefichiillehaaGreatDoor.Id Go.Proofs.YtgefichiillehaaGreatDoor.Chk
theorem info_node:(Tryz.prog.info? 43).map (fun i=>(i.zero,i.size,i.bytes))=some (some (.agg #[.int .u8 0,.int .i64 0,.string ByteArray.empty,.int .i64 0]),4,40):=by kernel_rfl
theorem NodE.one (w:World) (cs:List Value) (x:Node) (h:NodE w cs x):∀ u∈cs,u.oneCell'=true:=by
 unfold NodE Node.cells at h
 subst h
 simp [Value.oneCell']
theorem ValR.below {w w':World} {B:Option Nat} {v:Value} {l:List Node} (h:ValR w B v l) (hb:Below w.heap.size w w'):ValR w' B v l:=ERow.below h hb (fun _ _ h=>h)
theorem ValR.none {w:World} {b:Nat} {v:Value} {l:List Node} (h:ValR w (some b) v l):ValR w none v l:=ERow.mono h (fun _ _ hr=>hr.weak (fun b' e'=>by cases e')) (fun _ _ h=>h)
/-- A part of a row. -/
theorem _root_.Go.Proofs.YtgefichiillehaaGreatDoor.ERow.part {α:Type} {w:World} {t:TypeId} {size n c g off:Nat} {E:World→List Value→α→Prop} {l:List α} (h:ERow w none t size E (.slice (some ⟨g,off,none⟩) n c) l) {a b:Nat} (hab:a≤b) (hb:b≤n):ERow w none t size E (.slice (some ⟨g,off+a * size,none⟩) (b - a) (c - a)) ((l.take b).drop a):=by
 obtain ⟨css,h1,h2,h3,h4⟩:=h
 obtain ⟨hl,A,c',e,h5,h6,h7,h8⟩:=h3
 injection e with e1 e2 e3
 subst e1 e2 e3
 have hk:∀ cs∈(css.take b).drop a,cs.length=size:=fun cs hc=>h2 cs (List.mem_of_mem_take (List.mem_of_mem_drop hc))
 have hlen:((css.take b).drop a).length=b - a:=by rw [List.length_drop,List.length_take,h1];omega
 have hll:((l.take b).drop a).length=b - a:=by rw [List.length_drop,List.length_take];omega
 refine ⟨(css.take b).drop a,by rw [hlen,hll],hk,⟨by rw [flatten_len hk,hlen,hll],_,_,by rw [hll],by rw [hll];omega,by omega,(fun e=>by cases e),?_⟩,fun i p q=>?_⟩
 ·intro h0
  rw [flatten_len hk,hlen] at h0
  have hpos:0<l.length * size:=by
   rcases Nat.eq_zero_or_pos size with hz | hz
   ·rw [hz] at h0;omega
   ·refine Nat.mul_pos ?_ hz
    rcases Nat.eq_zero_or_pos (b - a) with hy | hy
    ·rw [hy] at h0;omega
    ·omega
  obtain ⟨g',off',e,hc⟩:=h8 (by rw [hl];exact hpos)
  injection e with e
  injection e with e1 e2
  subst e1 e2
  refine ⟨_,_,rfl,fun j u hu=>?_⟩
  have hj:j<((css.take b).drop a).flatten.length:=(List.getElem?_eq_some_iff.1 hu).1
  rw [flatten_len hk,hlen] at hj
  have hs:0<size:=by rcases Nat.eq_zero_or_pos size with hz | hz;rw [hz] at hj;omega;exact hz
  have hd:j / size<b - a:=(Nat.div_lt_iff_lt_mul hs).2 hj
  have hm:j % size<size:=Nat.mod_lt _ hs
  have hjd:j=j / size * size+j % size:=by have:=Nat.div_add_mod j size;rw [Nat.mul_comm] at this;omega
  have e3:=flatten_get hk (j:=j / size) (by rw [hlen];exact hd) (j % size) hm
  rw [←hjd,hu] at e3
  have e4:=flatten_get h2 (j:=a+j / size) (by rw [h1];omega) (j % size) hm
  have e5:((css.take b).drop a)[j / size]'(by rw [hlen];exact hd)=css[a+j / size]'(by rw [h1];omega):=by simp
  rw [e5,←e4] at e3
  have:=hc ((a+j / size) * size+j % size) u e3.symm
  rw [Nat.add_mul,Nat.add_assoc,←hjd,←Nat.add_assoc] at this
  exact this
 ·have e1:((css.take b).drop a)[i]=css[a+i]'(by rw [hlen] at p;omega):=by simp
  have e2:((l.take b).drop a)[i]=l[a+i]'(by rw [hll] at q;omega):=by simp
  rw [e1,e2]
  exact h4 _ _ _
theorem nmd_row (W:World) (rn:ByteArray):SortsR (W.alloc (.cells #[.int .u8 7,.string rn] 46)) none (.slice (some ⟨W.heap.size,0,none⟩) 1 1) (nmd rn):=by
 refine ⟨[[.int .u8 7,.string rn]],rfl,by simp,⟨rfl,_,_,rfl,Nat.le_refl _,by decide,(fun e=>by cases e),fun _=>⟨_,_,rfl,fun j u hu=>?_⟩⟩,fun i h h'=>?_⟩
 ·rw [Nat.zero_add,World.cell?_alloc_mark]
  simpa using hu
 ·obtain rfl:i=0:=by simpa using h
  rfl
theorem endL_part {N:Nat} {v r:List Node} {a b:Nat} (ha:a≤v.length) (h:endL N 1 (v.drop a)=some r) (hr:r=v.drop b) (hb:b≤v.length):a≤b∧(v.drop a).take ((v.drop a).length - r.length)=(v.take b).drop a:=by
 obtain ⟨h1,h2⟩:=endL_len h
 subst hr
 rw [List.length_drop,List.length_drop] at h1 ⊢
 refine ⟨by omega,?_⟩
 rw [List.drop_take]
 congr 1
 omega
end Vl
theorem clonev_eq1 (W:World):Sem.run Tryz.prog (binOp .eql 29 (.slice none 0 0) (.slice none 0 0)) W=.ok (.bool true) W:=by kernel_rfl
theorem clonev_eq2 (ad:Addr) (n c:Nat) (W:World):Sem.run Tryz.prog (binOp .eql 29 (.slice (some ad) n c) (.slice none 0 0)) W=.ok (.bool false) W:=by kernel_rfl
set_option maxRecDepth 100000 in
set_option maxHeartbeats 4000000 in
theorem clonev_any {α:Type} (E:World→List Value→α→Prop) (hone:∀ w cs x,E w cs x→∀ u∈cs,u.oneCell'=true) (A:Option Addr) (n c:Nat) (l:List α) (hl:l.length≤100000) (w:World) (hE:∀ w',Below w.heap.size w w'→∀ cs x,E w cs x→E w' cs x) (hr:ERow w none 43 4 E (.slice A n c) l) :
  Calls Tryz.prog 42 #[.slice A n c] w fun e w'=>∃ v',e=.returned v'∧Below w.heap.size w w'∧ERow w' (some w.heap.size) 43 4 E v' l:=by
 obtain ⟨A',c',e,h1,h2,h3⟩:=ERow.slice hr
 injection e with e1 e2 e3
 subst e1 e2 e3
 cases A with
 | none =>
  obtain ⟨h4,rfl⟩:=h3 rfl
  obtain rfl:l=[]:=List.length_eq_zero_iff.1 h4
  have heq:=clonev_eq1
  go_enter Tryz.func42,Tryz.ntmps42
  go_wp2_with fail
  go_ret
  exact ⟨_,rfl,Below.refl _ _,ERow.nil _ _ _ _ _⟩
 | some ad =>
  obtain ⟨css,k1,k2,k3,k4⟩:=hr
  obtain ⟨A',c',e',g1,g2,g3,g4⟩:=k3.slice
  injection e' with e1 e2 e3
  subst e1 e3
  have HL:Hid (css.flatten.length=l.length * 4):=Lib.hid (by rw [flatten_len k2,k1])
  have HS:Hid (∀ j u,css.flatten[j]?=some u→(w.alloc (.cells #[] 43)).cell? (ad.add j)=some u):=Lib.hid (fun j u hu=>by
   have hj:j<css.flatten.length:=(List.getElem?_eq_some_iff.1 hu).1
   obtain ⟨g,off,e4,hc⟩:=g4 (by omega)
   injection e4 with e4
   subst e4
   have ha:(⟨g,off,none⟩:Addr).add j=⟨g,off+j,none⟩:=by simp [Addr.add]
   rw [ha]
   have hh:=hc j u hu
   exact (((Below.refl w.heap.size w).alloc (Nat.le_refl _) (.cells #[] 43)).cell (World.block_lt_of_cell? w _ hh)).trans hh)
  have HO:Hid (∀ u∈css.flatten,u.oneCell'=true):=Lib.hid (fun u hu=>by
   obtain ⟨cs,hcs,hu'⟩:=List.mem_flatten.1 hu
   obtain ⟨i,hi',rfl⟩:=List.getElem_of_mem hcs
   exact hone _ _ _ (k4 i hi' (by omega)) u hu')
  have HK:=Lib.hid k4
  have HK1:=Lib.hid k1
  have HK2:=Lib.hid k2
  clear k3 k4 g4 g3 h3 k1 k2
  have heq:=clonev_eq2
  go_enter Tryz.func42,Tryz.ntmps42
  go_wp2_with (at_builtin;go_must (refine wpList_append_src rfl (.tmp 5) (.tmp 6) _ rfl w.heap.size 43 _ 4 40 Tryz.underlying29 Vl.info_node rfl (by decide) _ 0 [] rfl (own_nil_block _ _ _) _ l.length c css.flatten rfl (fun e=>by cases e) HL.out (fun ad' had=>by injection had with had;subst had;exact HS.out) HO.out (by simp only [maxLen];omega) (by omega) (by simp) ?_);intro v' w' hown hg hb)
  go_ret
  rw [Nat.zero_add,List.nil_append] at hown
  have hb':=((Below.refl w.heap.size w).alloc (Nat.le_refl _) (.cells #[] 43)).trans hb
  exact ⟨_,rfl,hb',css,HK1.out,HK2.out,hown,fun i h h'=>hE _ hb' _ _ (HK.out i h h')⟩
set_option maxRecDepth 100000 in
set_option maxHeartbeats 16000000 in
theorem vfield_any (sv:Value) (x:Id.Sch) (hF:Chk.Fine x) (rn:ByteArray) (vs:Value) (v:List Vl.Node) (hl:v.length≤100000) (hz:∀ n∈v,n.text.size≤100000) (fn:ByteArray) (w:World) (hk:Tk.KW w) (hv:Id.SchV w none sv x) (hvv:Vl.ValR w none vs v) :
  Calls Tryz.prog 21 #[sv,.string rn,vs,.string fn] w fun e w'=>∃ u,e=.returned (.tuple #[u,.bool (Vl.field x rn v fn).isSome])∧Below w.heap.size w w'∧Vl.ValR w' (some w.heap.size) u ((Vl.field x rn v fn).getD []):=by
 obtain ⟨R,HR⟩:∃ R,Hid (Vl.field x rn v fn=R):=⟨_,Lib.hid rfl⟩
 rw [HR.out]
 unfold Vl.field at HR
 have HF:=Lib.hid hF
 have HKW:=Lib.hid hk
 have HV:=Lib.hid hv
 have HVV:=Lib.hid hvv
 have HZ:=Lib.hid hz
 obtain ⟨A,n,c,rfl⟩:=ERow.is hvv
 have HN:Hid (n=v.length):=Lib.hid (by obtain ⟨_,_,e,_⟩:=ERow.slice hvv;injection e)
 have hn:n≤100000:=by rw [HN.out];exact hl
 have hcn:n≤c∧c≤9223372036854775807:=by obtain ⟨_,_,e,h1,h2,_⟩:=ERow.slice hvv;injection e with _ e2 e3;rw [e3,e2];exact ⟨h1,h2⟩
 obtain ⟨A1,n1,c1,A2,n2,c2,A3,n3,c3,rfl,-,-,-⟩:=hv
 clear hF hvv hz hk
 go_enter Tryz.func21,Tryz.ntmps21
 go_upto_region 1 with (fail)
 refine wp_named (fun V hV=>?_)
 have HL:=Lib.hid (Chk.Lx.start hV)
 clear hV
 obtain ⟨⟨q0,q1,q2,q3⟩,-⟩:=HL.out.box.k4
 go_wp2_with fail
 clear q0 q1 q2 q3
 refine (cfind_any _ x rn (Vl.fine_small HF.out) _ (HV.out.below HL.out.bel)).mono ?_
 rintro e W1 ⟨u,rfl,hb,uu,rfl,hu⟩
 obtain ⟨A5,n5,c5,rfl⟩:=ERow.is hu
 have HL1:=Lib.hid (HL.out.below hb)
 have HFD:=Lib.hid hu
 have HN5:Hid (n5=((Chk.find x rn).getD Chk.recZ).fields.length):=Lib.hid (by obtain ⟨_,_,e,_⟩:=ERow.slice hu;injection e)
 clear hb hu HL
 go_upto_region 2 with (fail)
 refine wp_named (fun W2 hW=>?_)
 obtain ⟨hb2,hq2,-⟩:=fresh_box hW
 clear hW
 have HL2:=Lib.hid (HL1.out.below hb2)
 have HQ2:=Lib.hid hq2
 have hw2:W1.heap.size<W2.heap.size:=hq2.lt
 have hw0:w.heap.size<W1.heap.size:=HL1.out.box.lt
 have HFD2:=Lib.hid (show Id.FldsR W2 none (.slice A5 n5 c5) ((Chk.find x rn).getD Chk.recZ).fields from ERow.mono (ERow.below HFD.out hb2 (fun cs x he=>Id.FldE.below hb2 cs x he)) (fun _ _ hr=>hr.weak (fun b' e'=>by cases e')) (fun cs x he=>by obtain ⟨u,e,h⟩:=he;exact ⟨u,e,ERow.mono h (fun _ _ hr=>hr.weak (fun b' e'=>by cases e')) (fun _ _ h=>h)⟩))
 obtain ⟨⟨r0,r1,r2⟩,-⟩:=hq2.k3
 clear hb2 hq2 HL1 HFD
 cases hfd:Chk.find x rn with
 | none =>
  rw [hfd] at HR HN5 HFD2 HQ2 r0 r1
  have HX:Hid (R=none):=Lib.hid HR.out.symm
  simp only [Option.isSome_none,Option.getD_none] at *
  go_wp2_with fail
  go_ret2
  exact ⟨_,by rw [HX.out];rfl,HL2.out.bel,by rw [HX.out];exact ERow.nil _ _ _ _ _⟩
 | some r =>
  rw [hfd] at HR HN5 HFD2 HQ2 r0 r1
  have HFND:=Lib.hid hfd
  obtain ⟨rnn,rc,rf⟩:=r
  simp only [Option.isSome_some,Option.getD_some] at HR HN5 HFD2 HQ2 r0 r1 ⊢
  clear hfd
  cases rc
  case true =>
   have HX:Hid (R=none):=Lib.hid (by rw [←HR.out];rfl)
   go_wp2_with fail
   go_ret2
   exact ⟨_,by rw [HX.out];rfl,HL2.out.bel,by rw [HX.out];exact ERow.nil _ _ _ _ _⟩
  have HR2:Hid ((if Vl.fits x (Vl.nmd rn) v≠0 then none else Vl.fieldL v.length fn rf (v.drop 1))=R):=Lib.hid (by rw [←HR.out];rfl)
  clear HR
  obtain ⟨⟨q0,q1,q2,q3⟩,-⟩:=HL2.out.box.k4
  go_wp2_with fail
  skip
  refine (vfits_any _ x HF.out _ (Vl.nmd rn) _ v hl HZ.out _ (HKW.out.below ?_) (Id.SchV.below ?_ HV.out) ?_ (Vl.ValR.below HVV.out ?_)).mono ?_
  all_goals first | exact HL2.out.bel.trans (((Below.refl _ _).alloc (Nat.le_refl _) _).mono HL2.out.bel.size) | skip
  ·exact Vl.nmd_row W2 rn
  rintro e W3 ⟨rfl,hb3⟩
  have hb23:=bl_join ((Below.refl W2.heap.size W2).alloc (Nat.le_refl _) _) hb3
  have HL3:=Lib.hid (HL2.out.below hb23)
  have HQ3:=Lib.hid (HQ2.out.below hb23 HQ2.out.lt)
  have HFD3:=Lib.hid (show Id.FldsR W3 none (.slice A5 n5 c5) rf from ERow.below HFD2.out hb23 (fun cs x he=>Id.FldE.below hb23 cs x he))
  clear hb3 hb23 r0 r1 r2 q0 q1 q2 q3 HL2 HFD2
  obtain ⟨⟨r0,r1,r2⟩,-⟩:=HQ3.out.k3
  obtain ⟨ce,HC⟩:∃ c,Hid (Vl.fits x (Vl.nmd rn) v=c):=⟨_,Lib.hid rfl⟩
  rw [HC.out] at HR2 ⊢
  by_cases h0:ce=0
  case neg =>
   have HX:Hid (R=none):=Lib.hid (by rw [←HR2.out,if_pos h0])
   have t0:((ce:Int) != 0)=true:=by rw [bne_iff_ne];omega
   have t1:¬(ce:Int)=0:=by omega
   have t2:((ce:Int)==0)=false:=by rw [beq_eq_false_iff_ne];omega
   go_wp2_with fail
   go_ret2
   exact ⟨_,by rw [HX.out];rfl,HL3.out.bel,by rw [HX.out];exact ERow.nil _ _ _ _ _⟩
  subst h0
  have HR3:Hid (Vl.fieldL n fn rf (v.drop 1)=R):=Lib.hid (by rw [←HR2.out,HN.out];rfl)
  have hne:1≤n:=by have h:=(Vl.fits_end HC.out).1;rw [HN.out];exact List.length_pos_iff.2 h
  have HM0:Hid (∃ D e,Vl.manyF (Vl.ofF x none n) ((rf.drop 0).map (·.type)) D (v.drop 1)=some (e,[])):=Lib.hid (by obtain ⟨n0,q,e,hv0,hm⟩:=Vl.fits_rec HFND.out rfl HC.out;rw [hv0,List.drop_succ_cons,List.drop_zero,List.drop_zero];rw [hv0] at hm;rw [HN.out,hv0];exact ⟨0,e,hm⟩)
  clear HR2 HC
  simp only [Int.cast_ofNat_Int]
  obtain ⟨g9,off9,_,hA9,-⟩:=ERow.get HVV.out (i:=0) (by rw [←HN.out];exact hne) (by omega)
  subst hA9
  have hfs:n5≤100:=by rw [HN5.out];have:=(HF.out.re _ (Vl.find_name HFND.out).1).2.1;simp only at this;omega
  go_wp2_with fail
  clear r0 r1 r2
  go_loopw [12,15,40] (fun pv _ iv wr=>∃ (j p:Nat),j≤n5∧p≤n∧iv=.int .i64 j∧pv=.int .i64 p∧Hid (Vl.fieldL n fn (rf.drop j) (v.drop p)=R)∧Hid (∃ D e,Vl.manyF (Vl.ofF x none n) ((rf.drop j).map (·.type)) D (v.drop p)=some (e,[]))∧Hid (Below W3.heap.size W3 wr)) (fun pv _ iv _=>n5 - (intOf iv).toNat)
  case atStart=>exact ⟨0,1,by omega,hne,rfl,rfl,HR3,HM0,Lib.hid (Below.refl _ _)⟩
  case round =>
   obtain ⟨j,p,hj,hp,rfl,rfl,HQ,HM,HB⟩:=hrel
   obtain ⟨U,rfl⟩:∃ w',w'=wr:=⟨_,rfl⟩
   have HLU:=Lib.hid (HL3.out.below HB.out)
   have ij0:(0:Int)≤(j:Int):=by omega
   by_cases hlt:j<n5
   case neg =>
    have HX:Hid (R=none):=Lib.hid (by rw [←HQ.out,List.drop_of_length_le (by rw [←HN5.out];omega)];rfl)
    go_wp2_with fail
    go_ret2
    exact ⟨_,by rw [HX.out];rfl,HLU.out.bel,by rw [HX.out];exact ERow.nil _ _ _ _ _⟩
   have hjk:j<rf.length:=by rw [←HN5.out];exact hlt
   have hij:(j:Int)<(n5:Int):=by omega
   have hd:=HQ.out
   rw [List.drop_eq_getElem_cons hjk] at hd
   obtain ⟨g6,off6,cs6,hA6,-,⟨u6,he6,hu6⟩,hc6⟩:=ERow.get HFD3.out hjk (by omega)
   obtain ⟨A7,n7,c7,hu7⟩:=ERow.is hu6
   subst hu7
   obtain ⟨⟨yn,yt⟩,Hy⟩:∃ y,Hid (rf[j]=y):=⟨_,Lib.hid rfl⟩
   rw [Hy.out] at he6 hd
   simp only at he6
   subst he6
   have f0:=hc6 0 _ rfl
   have f1:=hc6 1 _ rfl
   simp only [Nat.add_zero] at f0
   have f0:=(HB.out.cell (World.block_lt_of_cell? W3 _ f0)).trans f0
   have f1:=(HB.out.cell (World.block_lt_of_cell? W3 _ f1)).trans f1
   unfold Vl.fieldL at hd
   have HD:=Lib.hid hd
   subst hA6
   clear hc6 hu6 hd Hy
   go_upto_region 8 with (fail)
   refine wp_named (fun U1 hU=>?_)
   obtain ⟨hb4,hq4,-⟩:=fresh_box hU
   clear hU
   have HLU1:=Lib.hid (HLU.out.below hb4)
   have HB1:=Lib.hid (HB.out.trans (hb4.mono HB.out.size))
   obtain ⟨⟨y0,y1⟩,-⟩:=hq4.k2
   clear hb4 hq4 f0 f1 HLU HB
   go_wp2_with fail
   refine (vend_any _ v (p:Int) U1 (Vl.ValR.below HVV.out HLU1.out.bel) hl).mono ?_
   rw [Vl.endAt_nat,←HN.out]
   rintro e U2 ⟨rfl,rfl⟩
   obtain ⟨D,e0,hm⟩:=HM.out
   rw [List.drop_eq_getElem_cons hjk,List.map_cons] at hm
   unfold Vl.manyF at hm
   split at hm
   ·cases hm
   rename_i pr hpr
   obtain ⟨a5,r⟩:=pr
   have hq:=(Vl.of_len (N:=n) _ _ _ _ _ (by rw [List.length_drop,←HN.out];omega) hpr).2.2
   simp only at hm
   rw [hq]
   obtain ⟨h1,h2⟩:=Vl.endL_len hq
   rw [List.length_drop,←HN.out] at h1 h2
   obtain ⟨z,hz⟩:∃ z,z=n - r.length:=⟨_,rfl⟩
   have hr:r=v.drop z:=by rw [h2,List.drop_drop];congr 1;omega
   have e1:Vl.endV v (some r)=(z:Int):=by show (v.length:Int) - (r.length:Int)=(z:Int);rw [←HN.out];omega
   rw [e1]
   have hzn:z≤n:=by omega
   have hpz0:p<z:=by omega
   obtain ⟨hpz,hpt⟩:=Vl.endL_part (a:=p) (b:=z) (by rw [←HN.out];exact hp) (by exact hq) hr (by rw [←HN.out];exact hzn)
   have HD2:Hid ((if (yn.toList==fn.toList)=true then some ((v.take z).drop p) else Vl.fieldL n fn (rf.drop (j+1)) (v.drop z))=R):=Lib.hid (by rw [←HD.out,hq];simp only;rw [hpt,hr])
   have HM2:Hid (∃ D e,Vl.manyF (Vl.ofF x none n) ((rf.drop (j+1)).map (·.type)) D (v.drop z)=some (e,[])):=Lib.hid ⟨_,_,by rw [←hr];exact hm⟩
   clear hq h1 h2 hz hr e1 hpt HD hm hpr HM
   cases hyn:(yn.toList==fn.toList)
   case false =>
    have HQ2:Hid (Vl.fieldL n fn (rf.drop (j+1)) (v.drop z)=R):=Lib.hid (by rw [←HD2.out,hyn];rfl)
    go_wp2_with fail
    go_roundw
    case rel=>exact ⟨j+1,z,by omega,hzn,by go_num,rfl,HQ2,HM2,HB1⟩
    case measure=>simp [intOf];omega
   have HX:Hid (R=some ((v.take z).drop p)):=Lib.hid (by rw [←HD2.out,hyn];rfl)
   have hk0:(0:Int)≤(p:Int):=by omega
   have hk1:(p:Int)≤(z:Int):=by omega
   have hk2:(z:Int)≤(c:Int):=by omega
   have hk3:((z:Int) - (p:Int)).toNat=z - p:=by omega
   have hk4:((c:Int) - (p:Int)).toNat=c - p:=by omega
   have hk5:¬(c:Int) - (p:Int)=0:=by omega
   have hk6:¬c - p=0:=by omega
   have hk7:¬c=p:=by omega
   have HPT:=Lib.hid (ERow.part (Vl.ValR.below HVV.out HLU1.out.bel) (a:=p) (b:=z) (by omega) (by omega))
   have hlen:((v.take z).drop p).length≤100000:=by rw [List.length_drop,List.length_take];omega
   go_wp2_with fail
   refine (clonev_any Vl.NodE Vl.NodE.one _ _ _ ((v.take z).drop p) hlen _ (fun _ _ _ _ h=>h) HPT.out).mono ?_
   rintro e U3 ⟨u3,rfl,hb5,hr5⟩
   have HB5:=Lib.hid hb5
   have HR5:=Lib.hid hr5
   clear hb5 hr5
   go_wp2_with fail
   go_ret2
   exact ⟨_,by rw [HX.out];rfl,HLU1.out.bel.trans (HB5.out.mono HLU1.out.bel.size),by rw [HX.out];exact ERow.mono HR5.out (fun _ _ h=>h.weak (fun b e=>⟨_,rfl,by injection e with e;have:=HLU1.out.bel.size;omega⟩)) (fun _ _ h=>h)⟩
end Go.Proofs.YtgefichiillehaaGreatDoor
