/- values, plain: the least value of a type fits it, and no value is less deep. No condition. -/
import Derived.Test.YtjfdohhdkdjifaaGreatDoorPL20
import Derived.Test.YtjfdohhdkdjifaaGreatDoorPL16
set_option linter.unusedVariables false
set_option linter.unusedSimpArgs false
namespace Go.Proofs.YtjfdohhdkdjifaaGreatDoor
open Go.RowKit Go.BigFrame
namespace Vl
open Go.Proofs.YtjfdohhdkdjifaaGreatDoor.Id Go.Proofs.YtjfdohhdkdjifaaGreatDoor.Chk Go.Proofs.YtjfdohhdkdjifaaGreatDoor.Prn
/-- What the least depths are made of. -/
theorem Min.lst {s:Sch} {kn:Kn} (h:Min s kn) {n:ByteArray} {r:Rec} (hf:find s n=some r) (h0:kn n≠0):(lstD kn r).2=true∧(lstD kn r).1=kn n:=by
 have hs:Sd s kn:=fun m hm=>(h m).1 hm
 have hl:=(h n).1 h0
 obtain ⟨d,hd⟩:∃ d,kn n=d+1:=⟨kn n - 1,by omega⟩
 have key:(lstD kn r).2=true∧(lstD kn r).1≤kn n:=by
  rw [hd] at hl ⊢
  unfold lvT at hl
  simp only [if_true,hf] at hl
  obtain ⟨h1,h2,h3,h4,h5,h6⟩:=lst_fold kn r.fields ⟨0,0,false⟩
  have e:r.fields.foldl (lstStep kn) ⟨0,0,false⟩=lstF kn r:=rfl
  rw [e] at h1 h2 h3 h4 h5 h6
  unfold lvQ at hl
  unfold lstD
  cases hc:r.choice
  ·rw [hc] at hl
   simp only [Bool.false_eq_true,if_false] at hl ⊢
   have ha:=List.all_eq_true.1 hl
   have hmiss:(lstF kn r).miss=false:=by
    rw [Bool.eq_false_iff]
    intro hmi
    rcases h2.1 hmi with e | ⟨f,hf,e⟩
    ·cases e
    ·exact (h.dpt (ha f hf)).1 e
   have:=(h1 d).2 ⟨Nat.zero_le _,fun f hf=>(h.dpt (ha f hf)).2⟩
   exact ⟨by rw [hmiss];rfl,by omega⟩
  ·rw [hc] at hl
   simp only [if_true] at hl ⊢
   obtain ⟨f,hfm,hp⟩:=List.any_eq_true.1 hl
   obtain ⟨b1,b2⟩:=h.dpt hp
   have hb:(lstF kn r).best≠0:=fun e=>b1 ((h3.1 e).2 f hfm)
   have hb2:=h4 f hfm b1
   exact ⟨by rw [decide_eq_true_eq];omega,by omega⟩
 exact ⟨key.1,Nat.le_antisymm key.2 ((h n).2 _ (hs.rec hf key.1)).2⟩
/-- A choice's least way. -/
def way (kn:Kn) (r:Rec) (d:Nat):Nat:=r.fields.findIdx (fun f=>dpt kn f.type==d)
theorem Min.way {s:Sch} {kn:Kn} (h:Min s kn) {n:ByteArray} {r:Rec} (hf:find s n=some r) (h0:kn n≠0) (hc:r.choice=true):way kn r (kn n - 1)<r.fields.length∧1<kn n:=by
 obtain ⟨h1,h2⟩:=h.lst hf h0
 unfold lstD at h1 h2
 rw [hc] at h1 h2
 simp only [if_true,decide_eq_true_eq] at h1 h2
 obtain ⟨g1,g2,g3,g4,g5,g6⟩:=lst_fold kn r.fields ⟨0,0,false⟩
 have e:r.fields.foldl (lstStep kn) ⟨0,0,false⟩=lstF kn r:=rfl
 rw [e] at g6
 obtain ⟨f,hfm,he⟩:=g6 (by simp only;omega)
 refine ⟨?_,by omega⟩
 unfold Vl.way
 rw [List.findIdx_lt_length]
 exact ⟨f,hfm,by rw [beq_iff_eq,he];omega⟩
theorem way_at {kn:Kn} {r:Rec} {d:Nat} (h:way kn r d<r.fields.length):dpt kn (r.fields[way kn r d]'h).type=d:=by
 have:=List.findIdx_getElem (xs:=r.fields) (p:=fun f:Fld=>dpt kn f.type==d) (w:=h)
 exact beq_iff_eq.1 this
theorem Min.rec_le {s:Sch} {kn:Kn} (h:Min s kn) {n:ByteArray} {r:Rec} (hf:find s n=some r) (h0:kn n≠0) (hc:r.choice=false):∀ f∈r.fields,Vl.dpt kn f.type≠0∧Vl.dpt kn f.type+1≤kn n:=by
 obtain ⟨h1,h2⟩:=h.lst hf h0
 unfold lstD at h1 h2
 rw [hc] at h1 h2
 simp only [Bool.false_eq_true,if_false] at h1 h2
 obtain ⟨g1,g2,g3,g4,g5,g6⟩:=lst_fold kn r.fields ⟨0,0,false⟩
 have e:r.fields.foldl (lstStep kn) ⟨0,0,false⟩=lstF kn r:=rfl
 rw [e] at g1 g2
 have hm:¬(lstF kn r).miss=true:=by simpa using h1
 rw [g2] at hm
 intro f hfm
 have:=((g1 _).1 (Nat.le_refl _)).2 f hfm
 exact ⟨fun e=>hm (.inr ⟨f,hfm,e⟩),by omega⟩
/-- The parts of the least value. -/
def bldF (s:Sch) (kn:Kn):Nat→List Srt→List Node
 | 0,_=>[]
 | _+1,[]=>[]
 | k+1,x::_=>if x.kind=7 then (match find s x.name with
  | none=>[]
  | some r=>if r.choice=true then ⟨8,way kn r (kn x.name - 1),⟨#[]⟩,1⟩::bldF s kn k ((r.fields.map (·.type)).getD (way kn r (kn x.name - 1)) []) else ⟨7,0,⟨#[]⟩,r.fields.length⟩::(r.fields.flatMap fun f=>bldF s kn k f.type)) else [⟨x.kind,0,⟨#[]⟩,0⟩]
/-- No value is less deep. -/
theorem of_lv {s:Sch}:∀ (k:Nat) (t:List Srt) (r:List Node) (d:Nat) (r':List Node),okT s t=true→Right s→ofF s none k t r=some (d,r')→lvT s d t=true
 | 0,t,r,d,r',ht,hR,h=>by unfold ofF at h;cases h
 | k+1,[],r,d,r',ht,hR,h=>by unfold ofF at h;cases h
 | k+1,x::t,[],d,r',ht,hR,h=>by unfold ofF at h;cases h
 | k+1,x::t,n::r,d,r',ht,hR,h=>by
  unfold ofF at h
  split at h
  ·rename_i hl
   split at h
   ·injection h with h
    injection h with h1 h2
    subst h1
    unfold lvT
    rw [if_neg (by omega)]
   ·cases h
  ·rename_i hl
   obtain ⟨ks,e,hks,rfl,h2⟩:=stepK_some h
   unfold lvT
   by_cases h7:x.kind=7
   ·rw [if_pos h7]
    have hsm:(find s x.name).isSome=true:=by rcases okT_kind ht with h | h | h | h <;> first | (exfalso;omega) | exact h.2.2
    obtain ⟨q,hq⟩:=Option.isSome_iff_exists.1 hsm
    have hm:=(find_name hq).1
    simp only [hq]
    have hall:∀ (ts:List (List Srt)) (d0:Nat) (r0:List Node) (e0:Nat) (r1:List Node),(∀ u∈ts,okT s u=true)→manyF (ofF s none k) ts d0 r0=some (e0,r1)→d0≤e0∧∀ u∈ts,lvT s e0 u=true:=fun ts=>by
     induction ts with
     | nil =>
      intro d0 r0 e0 r1 _ h
      injection h with h
      injection h with h1 h2
      subst h1
      exact ⟨Nat.le_refl _,by simp⟩
     | cons u ts ih =>
      intro d0 r0 e0 r1 hu h
      unfold manyF at h
      split at h
      ·cases h
      ·rename_i p hp
       obtain ⟨a,q'⟩:=p
       obtain ⟨i1,i2⟩:=ih _ _ _ _ (fun v hv=>hu v (by simp [hv])) h
       refine ⟨by simp only at i1;omega,fun v hv=>?_⟩
       rcases List.mem_cons.1 hv with rfl | hv
       ·exact lvT_mono (by simp only at i1;omega) (of_lv k _ r0 a q' (hu _ (by simp)) hR hp)
       ·exact i2 v hv
    have hk7:=kids_right hR ht hks hl
    obtain ⟨-,a2⟩:=hall ks 0 r e r' hk7 h2
    unfold kidsOf at hks
    rw [if_neg (by omega),hq,Option.getD_some] at hks
    unfold kidsRec at hks
    unfold lvQ
    split at hks
    ·rename_i hc
     rw [if_pos hc]
     split at hks
     ·rename_i hn
      injection hks with hks
      subst hks
      have hlt:n.int.toNat<q.fields.length:=by omega
      refine List.any_eq_true.2 ⟨q.fields[n.int.toNat],List.getElem_mem _,a2 _ ?_⟩
      rw [List.getD_eq_getElem?_getD,List.getElem?_eq_getElem (by rw [List.length_map];exact hlt),Option.getD_some,List.getElem_map,List.mem_singleton]
     ·cases hks
    ·rename_i hc
     rw [if_neg hc]
     split at hks
     ·injection hks with hks
      subst hks
      exact List.all_eq_true.2 fun f hf=>a2 _ (List.mem_map.2 ⟨f,hf,rfl⟩)
     ·cases hks
   ·rw [if_neg h7]
/-- What Least hands out: the parts, or why there are none. -/
noncomputable def leastE (s:Sch) (t:List Srt) (kn:Kn) (e:Nat):Option (List Node) × Nat :=
 if e≠0 then (none,e) else if 12<dpt kn t then (none,151) else if 4096<(bldF s kn 12 t).length then (none,3) else (some (bldF s kn 12 t),0)
theorem Min.of_right {s:Sch} (hR:Right s) {kn:Kn} (h:Min s kn) {t:List Srt} (ht:okT s t=true):Vl.dpt kn t≠0:=by
 cases t with
 | nil=>cases ht
 | cons x t =>
  unfold Vl.dpt
  simp only
  by_cases h7:x.kind=7
  ·rw [if_pos h7]
   have hsm:(find s x.name).isSome=true:=by rcases okT_kind ht with h | h | h | h <;> first | (exfalso;omega) | exact h.2.2
   obtain ⟨q,hq⟩:=Option.isSome_iff_exists.1 hsm
   obtain ⟨hm,hn⟩:=find_name hq
   obtain ⟨d,hd⟩:=right_lv hR hm
   rw [hn] at hd
   exact ((h _).2 d hd).1
  ·rw [if_neg h7]
   omega
end Vl
end Go.Proofs.YtjfdohhdkdjifaaGreatDoor
set_option linter.unusedVariables false
set_option linter.unusedSimpArgs false
namespace Go.Proofs.YtjfdohhdkdjifaaGreatDoor
open Go.RowKit Go.BigFrame
namespace Vl
open Go.Proofs.YtjfdohhdkdjifaaGreatDoor.Id Go.Proofs.YtjfdohhdkdjifaaGreatDoor.Chk Go.Proofs.YtjfdohhdkdjifaaGreatDoor.Prn
/-- What a record's value is made of. -/
theorem fits_rec {s:Sch} {rn:ByteArray} {r:Rec} {v:List Node} (hf:find s rn=some r) (hc:r.choice=false) (h:fits s (nmd rn) v=0):∃ n q e,v=n::q∧manyF (ofF s none v.length) (r.fields.map (·.type)) 0 q=some (e,[]):=by
 obtain ⟨h1,h2,d,h3,-,-⟩:=fits_ok h
 cases v with
 | nil=>unfold nmd ofF at h3;cases h3
 | cons n q =>
  unfold nmd at h3
  simp only [List.length_cons] at h3 ⊢
  unfold ofF at h3
  rw [if_neg (by simp)] at h3
  obtain ⟨ks,e,hks,-,hm⟩:=stepK_some h3
  unfold kidsOf at hks
  rw [if_neg (by simp),hf,Option.getD_some] at hks
  unfold kidsRec at hks
  rw [if_neg (by rw [hc];decide)] at hks
  split at hks
  ·injection hks with hks
   subst hks
   exact ⟨n,q,e,rfl,hm⟩
  ·cases hks
def wAcc:ByteArray:=⟨#[97,99,99,111,117,110,116]⟩
def wAmt:ByteArray:=⟨#[97,109,111,117,110,116]⟩
def ordV (a b:Option (List Node)):Option (ByteArray × Int):=match a,b with
 | some (x::_),some (y::_)=>some (x.text,y.int)
 | _,_=>none
def ordT (a b:Option (List Node)):Option (ByteArray × Int):=match a,b with
 | some (x::_),some (y::_)=>if x.kind=4∧y.kind=3 then some (x.text,y.int) else none
 | _,_=>none
/-- An order's account and amount: as the program has them, and as the document. -/
noncomputable def ordP (s:Sch) (rn:ByteArray) (v:List Node):Option (ByteArray × Int):=ordT (field s rn v wAcc) (field s rn v wAmt)
theorem field_some {s:Sch} {rn fn:ByteArray} {v l:List Node} (h:field s rn v fn=some l):∃ r,find s rn=some r∧r.choice=false∧fits s (nmd rn) v=0∧fieldL v.length fn r.fields (v.drop 1)=some l:=by
 unfold field at h
 split at h
 ·cases h
 ·rename_i r hr
  split at h
  ·cases h
  ·rename_i hc
   split at h
   ·cases h
   ·rename_i hf
    exact ⟨r,hr,by simpa using hc,by simpa using hf,h⟩
theorem ordT_none_l (b:Option (List Node)):ordT none b=none:=by cases b <;> rfl
theorem ordT_none_r (a:Option (List Node)):ordT a none=none:=by
 cases a with
 | none=>rfl
 | some l=>cases l <;> rfl
end Vl
end Go.Proofs.YtjfdohhdkdjifaaGreatDoor
set_option linter.unusedVariables false
set_option linter.unusedSimpArgs false
namespace Go.Proofs.YtjfdohhdkdjifaaGreatDoor
open Go.RowKit Go.BigFrame
namespace Chk
open Go.Proofs.YtjfdohhdkdjifaaGreatDoor.Id
def ansV (o:Option ByteArray):Value:=.tuple #[.string (o.getD ⟨#[]⟩),.bool o.isNone]
end Chk
theorem rname_s (s:ByteArray) (w:World):Calls Tryz.prog 193 #[.string s] w fun e w'=>e=.returned (.bool (Tk.isName s))∧w=w':=(rname_any s w).mono fun _ _ ⟨h1,h2⟩=>⟨h1,h2.symm⟩
set_option maxRecDepth 100000 in
set_option maxHeartbeats 16000000 in
theorem rnames_any (v:Value) (x:Id.Sch) (w:World) (hv:Id.SchV w none v x) :
  Calls Tryz.prog 167 #[v] w fun e w'=>e=.returned (Chk.ansV (Chk.firstF (Chk.namesT x)))∧Below w.heap.size w w':=by
 have HV:=Lib.hid hv
 obtain ⟨A1,n1,c1,A2,n2,c2,A3,n3,c3,rfl,r1,r2,r3⟩:=hv
 have HN1:Hid (n1=x.records.length):=Lib.hid (by obtain ⟨_,_,e,_⟩:=ERow.slice r1;injection e)
 have hm1:n1≤9223372036854775807:=by obtain ⟨_,_,e,_,_⟩:=ERow.slice r1;injection e;omega
 have H1:=Lib.hid r1
 have HN2:Hid (n2=x.services.length):=Lib.hid (by obtain ⟨_,_,e,_⟩:=ERow.slice r2;injection e)
 have hm2:n2≤9223372036854775807:=by obtain ⟨_,_,e,_,_⟩:=ERow.slice r2;injection e;omega
 have H2:=Lib.hid r2
 have HN3:Hid (n3=x.sagas.length):=Lib.hid (by obtain ⟨_,_,e,_⟩:=ERow.slice r3;injection e)
 have hm3:n3≤9223372036854775807:=by obtain ⟨_,_,e,_,_⟩:=ERow.slice r3;injection e;omega
 have H3:=Lib.hid r3
 clear r1 r2 r3
 obtain ⟨R,HR⟩:∃ R,Hid (Chk.firstF (Chk.namesT x)=R):=⟨_,Lib.hid rfl⟩
 rw [HR.out]
 unfold Chk.namesT at HR
 go_enter Tryz.func167,Tryz.ntmps167
 go_upto_region 1 with (fail)
 refine wp_named (fun V hV=>?_)
 have HL:=Lib.hid (Chk.Lx.start hV)
 clear hV
 obtain ⟨⟨q0,q1,q2,q3⟩,-⟩:=HL.out.box.k4
 go_wp2_with fail
 refine (rname_s x.name _).mono ?_
 rintro e W2 ⟨rfl,rfl⟩
 cases hn:Tk.isName x.name
 case false =>
  have HE:Hid (R=some ⟨#[]⟩):=Lib.hid (by rw [←HR.out];exact Chk.firstF_f hn)
  go_wp2_with fail
  go_ret2
  exact ⟨by rw [HE.out];rfl,HL.out.bel⟩
 have HT:Hid (_=R):=Lib.hid ((Chk.firstF_t hn).symm.trans HR.out)
 clear HR
 go_wp2_with fail
 go_loopw [4] (fun i wr=>∃ (z:Nat),z≤n1∧i=.int .i64 z∧V=wr∧Hid (Chk.firstF ((x.records.drop z).flatMap Chk.namesR++(x.services.flatMap Chk.namesV++x.sagas.flatMap Chk.namesG))=R)) (fun i _=>n1 - (intOf i).toNat)
 case atStart=>exact ⟨0,by omega,rfl,rfl,Lib.hid (HT.out)⟩
 case round =>
  obtain ⟨k,hkk,rfl,rfl,HI⟩:=hrel
  have ik0:(0:Int)≤(k:Int):=by omega
  by_cases hlt:k<n1
  case neg =>
   have HI1:Hid (Chk.firstF ((x.services.flatMap Chk.namesV++x.sagas.flatMap Chk.namesG))=R):=Lib.hid (by have h:=HI.out;rw [List.drop_of_length_le (by have:=HN1.out;omega)] at h;exact h)
   clear HI
   go_wp2_with fail
   go_loopw [6] (fun i wr=>∃ (z:Nat),z≤n2∧i=.int .i64 z∧V=wr∧Hid (Chk.firstF ((x.services.drop z).flatMap Chk.namesV++x.sagas.flatMap Chk.namesG)=R)) (fun i _=>n2 - (intOf i).toNat)
   case atStart=>exact ⟨0,by omega,rfl,rfl,Lib.hid (HI1.out)⟩
   case round =>
    obtain ⟨k,hkk,rfl,rfl,HI⟩:=hrel
    have ik0:(0:Int)≤(k:Int):=by omega
    by_cases hlt:k<n2
    case neg =>
     have HI1:Hid (Chk.firstF (x.sagas.flatMap Chk.namesG)=R):=Lib.hid (by have h:=HI.out;rw [List.drop_of_length_le (by have:=HN2.out;omega)] at h;exact h)
     clear HI
     go_wp2_with fail
     have HI0:=HI1
     clear HI1
     go_loopw [8] (fun i wr=>∃ (z:Nat),z≤n3∧i=.int .i64 z∧V=wr∧Hid (Chk.firstF ((x.sagas.drop z).flatMap Chk.namesG++[])=R)) (fun i _=>n3 - (intOf i).toNat)
     case atStart=>exact ⟨0,by omega,rfl,rfl,Lib.hid (by have h:=HI0.out;rw [←List.append_nil (List.flatMap _ _)] at h;exact h)⟩
     case round =>
      obtain ⟨k,hkk,rfl,rfl,HI⟩:=hrel
      have ik0:(0:Int)≤(k:Int):=by omega
      by_cases hlt:k<n3
      case neg =>
       have HI1:Hid (Chk.firstF ([])=R):=Lib.hid (by have h:=HI.out;rw [List.drop_of_length_le (by have:=HN3.out;omega)] at h;exact h)
       clear HI
       have HE:Hid (R=none):=Lib.hid HI1.out.symm
       go_wp2_with fail
       go_ret2
       exact ⟨by rw [HE.out];rfl,HL.out.bel⟩
      have hkak:k<x.sagas.length:=by rw [←HN3.out];exact hlt
      obtain ⟨g1,off1,cs,rfl,-,⟨u,he,HU⟩,hc⟩:=ERow.get H3.out hkak (by omega)
      obtain ⟨r,Hr⟩:∃ r,Hid (x.sagas[k]=r):=⟨_,Lib.hid rfl⟩
      rw [Hr.out] at he HU
      obtain ⟨rn,ra,rf⟩:=r
      subst he
      simp only at HU hc
      obtain ⟨A5,n5,c5,rfl⟩:=ERow.is HU
      have HN5:Hid (n5=rf.length):=Lib.hid (by obtain ⟨_,_,e,_⟩:=ERow.slice HU;injection e)
      have hm5:n5≤9223372036854775807:=by obtain ⟨_,_,e,_,_⟩:=ERow.slice HU;injection e;omega
      have H5:=Lib.hid HU
      have HDk:Hid (x.sagas.drop k=⟨rn,ra,rf⟩::x.sagas.drop (k+1)):=Lib.hid (by rw [List.drop_eq_getElem_cons hkak,Hr.out])
      have b0:=hc 0 _ rfl
      have b1:=hc 1 _ rfl
      have b2:=hc 2 _ rfl
      simp only [Nat.add_zero] at b0
      have hgl1:g1<w.heap.size:=World.block_lt_of_cell? w _ b0
      have b0:=(HL.out.bel.cell hgl1).trans b0
      have b1:=(HL.out.bel.cell hgl1).trans b1
      have b2:=(HL.out.bel.cell hgl1).trans b2
      have i11:(k:Int)<(n3:Int):=by omega
      clear hc HU Hr
      have HT0:Hid (Chk.firstF ((Tk.isName rn,rn)::(((x.sagas.drop (k+1)).flatMap Chk.namesG++[])))=R):=Lib.hid (by have h:=HI.out;rw [HDk.out,List.flatMap_cons] at h;exact h)
      clear HI
      go_wp2_with fail
      refine (rname_s rn _).mono ?_
      rintro e W2 ⟨rfl,rfl⟩
      cases hn:Tk.isName rn
      case false =>
       have HE:Hid (R=some rn):=Lib.hid (by rw [←HT0.out];exact Chk.firstF_f hn)
       go_wp2_with fail
       go_ret2
       exact ⟨by rw [HE.out];rfl,HL.out.bel⟩
      have HT:Hid (_=R):=Lib.hid ((Chk.firstF_t hn).symm.trans HT0.out)
      clear HT0
      go_wp2_with fail
      go_roundw
      case rel=>exact ⟨k+1,by omega,by go_num,by first | rfl | trivial,Lib.hid (HT.out)⟩
      case measure=>simp [intOf];omega
    have hkak:k<x.services.length:=by rw [←HN2.out];exact hlt
    obtain ⟨g1,off1,cs,rfl,-,⟨u,he,HU⟩,hc⟩:=ERow.get H2.out hkak (by omega)
    obtain ⟨r,Hr⟩:∃ r,Hid (x.services[k]=r):=⟨_,Lib.hid rfl⟩
    rw [Hr.out] at he HU
    obtain ⟨rn,rf⟩:=r
    subst he
    simp only at HU hc
    obtain ⟨A5,n5,c5,rfl⟩:=ERow.is HU
    have HN5:Hid (n5=rf.length):=Lib.hid (by obtain ⟨_,_,e,_⟩:=ERow.slice HU;injection e)
    have hm5:n5≤9223372036854775807:=by obtain ⟨_,_,e,_,_⟩:=ERow.slice HU;injection e;omega
    have H5:=Lib.hid HU
    have HDk:Hid (x.services.drop k=⟨rn,rf⟩::x.services.drop (k+1)):=Lib.hid (by rw [List.drop_eq_getElem_cons hkak,Hr.out])
    have b0:=hc 0 _ rfl
    have b1:=hc 1 _ rfl
    simp only [Nat.add_zero] at b0
    have hgl1:g1<w.heap.size:=World.block_lt_of_cell? w _ b0
    have b0:=(HL.out.bel.cell hgl1).trans b0
    have b1:=(HL.out.bel.cell hgl1).trans b1
    have i11:(k:Int)<(n2:Int):=by omega
    clear hc HU Hr
    have HT0:Hid (Chk.firstF ((Tk.isName rn,rn)::(rf.flatMap Chk.namesM++((x.services.drop (k+1)).flatMap Chk.namesV++x.sagas.flatMap Chk.namesG)))=R):=Lib.hid (by have h:=HI.out;rw [HDk.out,List.flatMap_cons,List.append_assoc] at h;exact h)
    clear HI
    go_wp2_with fail
    refine (rname_s rn _).mono ?_
    rintro e W2 ⟨rfl,rfl⟩
    cases hn:Tk.isName rn
    case false =>
     have HE:Hid (R=some rn):=Lib.hid (by rw [←HT0.out];exact Chk.firstF_f hn)
     go_wp2_with fail
     go_ret2
     exact ⟨by rw [HE.out];rfl,HL.out.bel⟩
    have HT:Hid (_=R):=Lib.hid ((Chk.firstF_t hn).symm.trans HT0.out)
    clear HT0
    go_wp2_with fail
    go_loopw [7] (fun i wr=>∃ (z:Nat),z≤n5∧i=.int .i64 z∧V=wr∧Hid (Chk.firstF ((rf.drop z).flatMap Chk.namesM++((x.services.drop (k+1)).flatMap Chk.namesV++x.sagas.flatMap Chk.namesG))=R)) (fun i _=>n5 - (intOf i).toNat)
    case atStart=>exact ⟨0,by omega,rfl,rfl,Lib.hid (HT.out)⟩
    case round =>
     obtain ⟨j,hkj,rfl,rfl,HJ⟩:=hrel
     have ij0:(0:Int)≤(j:Int):=by omega
     by_cases hlj:j<n5
     case neg =>
      go_wp2_with fail
      go_roundw
      case rel=>exact ⟨k+1,by omega,by go_num,by first | rfl | trivial,Lib.hid (by have h:=HJ.out;rw [List.drop_of_length_le (by have:=HN5.out;omega)] at h;exact h)⟩
      case measure=>simp [intOf];omega
     have hkbj:j<rf.length:=by rw [←HN5.out];exact hlj
     obtain ⟨g2,off2,cs,rfl,-,he,hc⟩:=ERow.get H5.out hkbj (by omega)
     obtain ⟨r,Hr⟩:∃ r,Hid (rf[j]=r):=⟨_,Lib.hid rfl⟩
     rw [Hr.out] at he
     obtain ⟨m0,m1,m2,m3,m4⟩:=r
     unfold Id.MthE Id.Mth.cells at he
     subst he
     have HDj:Hid (rf.drop j=⟨m0,m1,m2,m3,m4⟩::rf.drop (j+1)):=Lib.hid (by rw [List.drop_eq_getElem_cons hkbj,Hr.out])
     have a0:=hc 0 _ rfl
     have a1:=hc 1 _ rfl
     have a2:=hc 2 _ rfl
     have a3:=hc 3 _ rfl
     have a4:=hc 4 _ rfl
     simp only [Nat.add_zero] at a0
     have hgl2:g2<w.heap.size:=World.block_lt_of_cell? w _ a0
     have a0:=(HL.out.bel.cell hgl2).trans a0
     have a1:=(HL.out.bel.cell hgl2).trans a1
     have a2:=(HL.out.bel.cell hgl2).trans a2
     have a3:=(HL.out.bel.cell hgl2).trans a3
     have a4:=(HL.out.bel.cell hgl2).trans a4
     have i21:(j:Int)<(n5:Int):=by omega
     clear hc Hr
     have HT1:Hid (Chk.firstF ((Tk.isName m0,m0)::((rf.drop (j+1)).flatMap Chk.namesM++((x.services.drop (k+1)).flatMap Chk.namesV++x.sagas.flatMap Chk.namesG)))=R):=Lib.hid (by have h:=HJ.out;rw [HDj.out,List.flatMap_cons,List.append_assoc] at h;exact h)
     clear HJ HT
     go_wp2_with fail
     refine (rname_s m0 _).mono ?_
     rintro e W2 ⟨rfl,rfl⟩
     cases hn:Tk.isName m0
     case false =>
      have HE:Hid (R=some m0):=Lib.hid (by rw [←HT1.out];exact Chk.firstF_f hn)
      go_wp2_with fail
      go_ret2
      exact ⟨by rw [HE.out];rfl,HL.out.bel⟩
     have HT:Hid (_=R):=Lib.hid ((Chk.firstF_t hn).symm.trans HT1.out)
     clear HT1
     go_wp2_with fail
     go_roundw
     case rel=>exact ⟨j+1,by omega,by go_num,by first | rfl | trivial,Lib.hid (HT.out)⟩
     case measure=>simp [intOf];omega
  have hkak:k<x.records.length:=by rw [←HN1.out];exact hlt
  obtain ⟨g1,off1,cs,rfl,-,⟨u,he,HU⟩,hc⟩:=ERow.get H1.out hkak (by omega)
  obtain ⟨r,Hr⟩:∃ r,Hid (x.records[k]=r):=⟨_,Lib.hid rfl⟩
  rw [Hr.out] at he HU
  obtain ⟨rn,rc,rf⟩:=r
  subst he
  simp only at HU hc
  obtain ⟨A5,n5,c5,rfl⟩:=ERow.is HU
  have HN5:Hid (n5=rf.length):=Lib.hid (by obtain ⟨_,_,e,_⟩:=ERow.slice HU;injection e)
  have hm5:n5≤9223372036854775807:=by obtain ⟨_,_,e,_,_⟩:=ERow.slice HU;injection e;omega
  have H5:=Lib.hid HU
  have HDk:Hid (x.records.drop k=⟨rn,rc,rf⟩::x.records.drop (k+1)):=Lib.hid (by rw [List.drop_eq_getElem_cons hkak,Hr.out])
  have b0:=hc 0 _ rfl
  have b1:=hc 1 _ rfl
  have b2:=hc 2 _ rfl
  simp only [Nat.add_zero] at b0
  have hgl1:g1<w.heap.size:=World.block_lt_of_cell? w _ b0
  have b0:=(HL.out.bel.cell hgl1).trans b0
  have b1:=(HL.out.bel.cell hgl1).trans b1
  have b2:=(HL.out.bel.cell hgl1).trans b2
  have i11:(k:Int)<(n1:Int):=by omega
  clear hc HU Hr
  have HT0:Hid (Chk.firstF ((Tk.isName rn,rn)::(rf.flatMap Chk.namesF++((x.records.drop (k+1)).flatMap Chk.namesR++(x.services.flatMap Chk.namesV++x.sagas.flatMap Chk.namesG))))=R):=Lib.hid (by have h:=HI.out;rw [HDk.out,List.flatMap_cons,List.append_assoc] at h;exact h)
  clear HI
  go_wp2_with fail
  refine (rname_s rn _).mono ?_
  rintro e W2 ⟨rfl,rfl⟩
  cases hn:Tk.isName rn
  case false =>
   have HE:Hid (R=some rn):=Lib.hid (by rw [←HT0.out];exact Chk.firstF_f hn)
   go_wp2_with fail
   go_ret2
   exact ⟨by rw [HE.out];rfl,HL.out.bel⟩
  have HT:Hid (_=R):=Lib.hid ((Chk.firstF_t hn).symm.trans HT0.out)
  clear HT0
  go_wp2_with fail
  go_loopw [5] (fun i wr=>∃ (z:Nat),z≤n5∧i=.int .i64 z∧V=wr∧Hid (Chk.firstF ((rf.drop z).flatMap Chk.namesF++((x.records.drop (k+1)).flatMap Chk.namesR++(x.services.flatMap Chk.namesV++x.sagas.flatMap Chk.namesG)))=R)) (fun i _=>n5 - (intOf i).toNat)
  case atStart=>exact ⟨0,by omega,rfl,rfl,Lib.hid (HT.out)⟩
  case round =>
   obtain ⟨j,hkj,rfl,rfl,HJ⟩:=hrel
   have ij0:(0:Int)≤(j:Int):=by omega
   by_cases hlj:j<n5
   case neg =>
    go_wp2_with fail
    go_roundw
    case rel=>exact ⟨k+1,by omega,by go_num,by first | rfl | trivial,Lib.hid (by have h:=HJ.out;rw [List.drop_of_length_le (by have:=HN5.out;omega)] at h;exact h)⟩
    case measure=>simp [intOf];omega
   have hkbj:j<rf.length:=by rw [←HN5.out];exact hlj
   obtain ⟨g2,off2,cs,rfl,-,⟨u,he,HU⟩,hc⟩:=ERow.get H5.out hkbj (by omega)
   obtain ⟨r,Hr⟩:∃ r,Hid (rf[j]=r):=⟨_,Lib.hid rfl⟩
   rw [Hr.out] at he HU
   obtain ⟨yn,yt⟩:=r
   subst he
   simp only at HU hc
   obtain ⟨A7,n7,c7,rfl⟩:=ERow.is HU
   have HN7:Hid (n7=yt.length):=Lib.hid (by obtain ⟨_,_,e,_⟩:=ERow.slice HU;injection e)
   have hm7:n7≤9223372036854775807:=by obtain ⟨_,_,e,_,_⟩:=ERow.slice HU;injection e;omega
   have H7:=Lib.hid HU
   clear HU
   have HDj:Hid (rf.drop j=⟨yn,yt⟩::rf.drop (j+1)):=Lib.hid (by rw [List.drop_eq_getElem_cons hkbj,Hr.out])
   have a0:=hc 0 _ rfl
   have a1:=hc 1 _ rfl
   simp only [Nat.add_zero] at a0
   have hgl2:g2<w.heap.size:=World.block_lt_of_cell? w _ a0
   have a0:=(HL.out.bel.cell hgl2).trans a0
   have a1:=(HL.out.bel.cell hgl2).trans a1
   have i21:(j:Int)<(n5:Int):=by omega
   clear hc Hr
   have HT1:Hid (Chk.firstF ((Tk.isName yn,yn)::((rf.drop (j+1)).flatMap Chk.namesF++((x.records.drop (k+1)).flatMap Chk.namesR++(x.services.flatMap Chk.namesV++x.sagas.flatMap Chk.namesG))))=R):=Lib.hid (by have h:=HJ.out;rw [HDj.out,List.flatMap_cons,List.append_assoc] at h;exact h)
   clear HJ HT
   go_wp2_with fail
   refine (rname_s yn _).mono ?_
   rintro e W2 ⟨rfl,rfl⟩
   cases hn:Tk.isName yn
   case false =>
    have HE:Hid (R=some yn):=Lib.hid (by rw [←HT1.out];exact Chk.firstF_f hn)
    go_wp2_with fail
    go_ret2
    exact ⟨by rw [HE.out];rfl,HL.out.bel⟩
   have HT:Hid (_=R):=Lib.hid ((Chk.firstF_t hn).symm.trans HT1.out)
   clear HT1
   go_wp2_with fail
   go_roundw
   case rel=>exact ⟨j+1,by omega,by go_num,by first | rfl | trivial,Lib.hid (HT.out)⟩
   case measure=>simp [intOf];omega
end Go.Proofs.YtjfdohhdkdjifaaGreatDoor
