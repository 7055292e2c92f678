/- redressref13: Decls, Parts, doubles (printed by gen_rchk3.py). No condition. -/
import Derived.Test.YtlbihaikppkecaaGreatDoorPS21
set_option linter.unusedVariables false
set_option linter.unusedSimpArgs false
namespace Go.Proofs.YtlbihaikppkecaaGreatDoor
open Go.RowKit Go.BigFrame
theorem take_of_drop {α:Type} {l m:List α} {k:Nat} {a:α} (h:l.drop k=a::m):l.take (k+1)=l.take k++[a]:=by
 rw [List.take_add,h]
 rfl
theorem getElem_of_drop {α:Type} {l m:List α} {k:Nat} {a:α} (hk:k<l.length) (h:l.drop k=a::m):l[k]=a:=by
 rw [List.drop_eq_getElem_cons hk] at h
 injection h
theorem ne_schema_string:33≠9:=by decide
namespace Chk
open Go.Proofs.YtlbihaikppkecaaGreatDoor.Id
def decls (x:Sch):List ByteArray:=(declsP x).map (·.1)
theorem decls_eq (x:Sch):decls x=x.records.map (·.name)++(x.services.map (·.name)++x.sagas.map (·.name)):=by
 unfold decls declsP
 simp [List.map_append,List.map_map,Function.comp_def]
def partsAt (x:Sch) (i:Nat):List ByteArray:=if h:i<x.records.length then x.records[i].fields.map (·.name) else if h:i - x.records.length<x.services.length then x.services[i - x.records.length].methods.map (·.name) else []
theorem parts_eq {x:Sch} {i:Nat} (h:i<(declsP x).length):(declsP x)[i].2=partsAt x i:=by
 unfold declsP at h ⊢
 unfold partsAt
 split
 next h1=>rw [List.getElem_append_left (by simpa using h1)];simp
 next h1 =>
  rw [List.getElem_append_right (by simpa using h1)]
  split
  next h2=>rw [List.getElem_append_left (by simpa using h2)];simp
  next h2=>rw [List.getElem_append_right (by simpa using h2)];simp
theorem declsP_ok {x:Sch} (h:Fine x):∀ p∈declsP x,p.1.size≤1000∧p.2.length≤99∧∀ q∈p.2,q.size≤1000:=by
 intro p hp
 unfold declsP at hp
 simp only [List.mem_append,List.mem_map] at hp
 rcases hp with ⟨r,hr,rfl⟩ | ⟨r,hr,rfl⟩ | ⟨r,hr,rfl⟩
 ·obtain ⟨a,b,c⟩:=h.re r hr
  refine ⟨a,by simpa using b,fun q hq=>?_⟩
  obtain ⟨f,hf,rfl⟩:=List.mem_map.1 hq
  exact (c f hf).1
 ·obtain ⟨a,b,c⟩:=h.sv r hr
  refine ⟨a,by simpa using b,fun q hq=>?_⟩
  obtain ⟨f,hf,rfl⟩:=List.mem_map.1 hq
  exact (c f hf).1
 ·exact ⟨(h.sa r hr).1,by simp,fun q hq=>by cases hq⟩
theorem declsP_len {x:Sch} (h:Fine x):(declsP x).length≤3000:=by
 have:=h.recs
 have:=h.svcs
 have:=h.sags
 unfold declsP
 simp
 omega
end Chk
set_option maxRecDepth 100000 in
set_option maxHeartbeats 16000000 in
theorem rdecls_any (v:Value) (x:Id.Sch) (hF:Chk.Fine x) (w:World) (hv:Id.SchV w none v x) :
  Calls Tryz.prog 111 #[v] w fun e w'=>∃ u,e=.returned u∧StrsR w' (some w.heap.size) u (Chk.decls x)∧Below w.heap.size w w':=by
 have HV:=Lib.hid hv
 obtain ⟨A1,n1,c1,A2,n2,c2,A3,n3,c3,rfl,r1,r2,r3⟩:=hv
 have HN1:Hid (n1=x.records.length):=Lib.hid (by obtain ⟨_,_,e,_⟩:=ERow.slice r1;injection e)
 have hm1:n1≤9223372036854775807:=by obtain ⟨_,_,e,_,_⟩:=ERow.slice r1;injection e;omega
 have H1:=Lib.hid r1
 have HN2:Hid (n2=x.services.length):=Lib.hid (by obtain ⟨_,_,e,_⟩:=ERow.slice r2;injection e)
 have hm2:n2≤9223372036854775807:=by obtain ⟨_,_,e,_,_⟩:=ERow.slice r2;injection e;omega
 have H2:=Lib.hid r2
 have HN3:Hid (n3=x.sagas.length):=Lib.hid (by obtain ⟨_,_,e,_⟩:=ERow.slice r3;injection e)
 have hm3:n3≤9223372036854775807:=by obtain ⟨_,_,e,_,_⟩:=ERow.slice r3;injection e;omega
 have H3:=Lib.hid r3
 clear r1 r2 r3
 rw [Chk.decls_eq]
 go_enter Tryz.func111,Tryz.ntmps111
 have hl1:n1≤1000:=by rw [HN1.out];exact hF.recs
 have hl2:n2≤1000:=by rw [HN2.out];exact hF.svcs
 have hl3:n3≤1000:=by rw [HN3.out];exact hF.sags
 go_upto_region 1 with (fail)
 refine wp_named (fun V hV=>?_)
 have HL:=Lib.hid (Chk.Lx.start hV)
 clear hV
 obtain ⟨⟨q0,q1,q2,q3⟩,-⟩:=HL.out.box.k4
 go_wp2_with fail
 go_loopw [4,3] (fun i sl wr=>∃ (k:Nat) (lv:Value),k≤n1∧i=.int .i64 k∧lv=sl∧Hid (StrsR wr (some w.heap.size) lv ((x.records.take k).map (·.name)))∧Hid (Chk.Lx w wr #[.string x.name,.slice A1 n1 c1,.slice A2 n2 c2,.slice A3 n3 c3])) (fun i _ _=>n1 - (intOf i).toNat)
 case atStart=>exact ⟨0,_,by omega,rfl,rfl,Lib.hid (ERow.nil _ _ _ _ _),HL⟩
 case round =>
  clear HL q0 q1 q2 q3
  obtain ⟨k,lv,hk,rfl,rfl,HR,HL⟩:=hrel
  obtain ⟨V1,rfl⟩:∃ w',w'=wr:=⟨_,rfl⟩
  have ik0:(0:Int)≤(k:Int):=by omega
  obtain ⟨⟨q0,q1,q2,q3⟩,-⟩:=HL.out.box.k4
  by_cases hlt:k<n1
  case neg =>
   have HRx:Hid (StrsR V1 (some w.heap.size) lv (x.records.map (·.name))):=Lib.hid (by have h:=HR.out;rw [List.take_of_length_le (by have:=HN1.out;omega)] at h;exact h)
   clear HR
   go_wp2_with fail
   go_loopw [5,3] (fun i sl wr=>∃ (k:Nat) (lv:Value),k≤n2∧i=.int .i64 k∧lv=sl∧Hid (StrsR wr (some w.heap.size) lv (x.records.map (·.name)++(x.services.take k).map (·.name)))∧Hid (Chk.Lx w wr #[.string x.name,.slice A1 n1 c1,.slice A2 n2 c2,.slice A3 n3 c3])) (fun i _ _=>n2 - (intOf i).toNat)
   case atStart=>exact ⟨0,_,by omega,rfl,rfl,Lib.hid (by have h:=HRx.out;simpa using h),HL⟩
   case round =>
    clear HL q0 q1 q2 q3
    obtain ⟨k,lv,hk,rfl,rfl,HR,HL⟩:=hrel
    obtain ⟨V1,rfl⟩:∃ w',w'=wr:=⟨_,rfl⟩
    have ik0:(0:Int)≤(k:Int):=by omega
    obtain ⟨⟨q0,q1,q2,q3⟩,-⟩:=HL.out.box.k4
    by_cases hlt:k<n2
    case neg =>
     have HRx:Hid (StrsR V1 (some w.heap.size) lv (x.records.map (·.name)++x.services.map (·.name))):=Lib.hid (by have h:=HR.out;rw [List.take_of_length_le (by have:=HN2.out;omega)] at h;exact h)
     clear HR
     go_wp2_with fail
     go_loopw [6,3] (fun i sl wr=>∃ (k:Nat) (lv:Value),k≤n3∧i=.int .i64 k∧lv=sl∧Hid (StrsR wr (some w.heap.size) lv (x.records.map (·.name)++(x.services.map (·.name)++(x.sagas.take k).map (·.name))))∧Hid (Chk.Lx w wr #[.string x.name,.slice A1 n1 c1,.slice A2 n2 c2,.slice A3 n3 c3])) (fun i _ _=>n3 - (intOf i).toNat)
     case atStart=>exact ⟨0,_,by omega,rfl,rfl,Lib.hid (by have h:=HRx.out;simpa using h),HL⟩
     case round =>
      clear HL q0 q1 q2 q3
      obtain ⟨k,lv,hk,rfl,rfl,HR,HL⟩:=hrel
      obtain ⟨V1,rfl⟩:∃ w',w'=wr:=⟨_,rfl⟩
      have ik0:(0:Int)≤(k:Int):=by omega
      obtain ⟨⟨q0,q1,q2,q3⟩,-⟩:=HL.out.box.k4
      by_cases hlt:k<n3
      case neg =>
       have HRx:Hid (StrsR V1 (some w.heap.size) lv (x.records.map (·.name)++(x.services.map (·.name)++x.sagas.map (·.name)))):=Lib.hid (by have h:=HR.out;rw [List.take_of_length_le (by have:=HN3.out;omega)] at h;exact h)
       clear HR
       go_wp2_with fail
       go_ret
       exact ⟨lv,rfl,HRx.out,HL.out.bel⟩
      have hkak:k<x.sagas.length:=by rw [←HN3.out];exact hlt
      obtain ⟨g1,off1,cs,rfl,-,⟨u,he,HU⟩,hc⟩:=ERow.get H3.out hkak (by omega)
      obtain ⟨r,Hr⟩:∃ r,Hid (x.sagas[k]=r):=⟨_,Lib.hid rfl⟩
      rw [Hr.out] at he HU
      obtain ⟨rn,ra,rf⟩:=r
      subst he
      simp only at HU hc
      obtain ⟨A5,n5,c5,rfl⟩:=ERow.is HU
      have HN5:Hid (n5=rf.length):=Lib.hid (by obtain ⟨_,_,e,_⟩:=ERow.slice HU;injection e)
      have hm5:n5≤9223372036854775807:=by obtain ⟨_,_,e,_,_⟩:=ERow.slice HU;injection e;omega
      have H5:=Lib.hid HU
      have HDk:Hid (x.sagas.drop k=⟨rn,ra,rf⟩::x.sagas.drop (k+1)):=Lib.hid (by rw [List.drop_eq_getElem_cons hkak,Hr.out])
      have b0:=hc 0 _ rfl
      have b1:=hc 1 _ rfl
      have b2:=hc 2 _ rfl
      simp only [Nat.add_zero] at b0
      have hgl1:g1<w.heap.size:=World.block_lt_of_cell? w _ b0
      have b0:=(HL.out.bel.cell hgl1).trans b0
      have b1:=(HL.out.bel.cell hgl1).trans b1
      have b2:=(HL.out.bel.cell hgl1).trans b2
      have i11:(k:Int)<(n3:Int):=by omega
      clear hc HU Hr
      have hle:(x.records.map (·.name)++(x.services.map (·.name)++(x.sagas.take k).map (·.name))).length≤3000:=by have:=HN1.out;have:=HN2.out;have:=HN3.out;simp only [List.length_append,List.length_map,List.length_take];omega
      have hbw:=HL.out.bel.size
      go_wp2_with (at_builtin;go_must (refine wpList_append_el rfl _ _ _ rfl w.heap.size 9 _ 1 16 Tryz.underlying127 info_strs rfl (by decide) StrE lv _ rfl HR.out [.string rn] rfl _ rfl (by simp) (by simp [Value.oneCell']) (by simp only [maxLen];omega) (by omega) (by omega) ?_);intro v2 w2 hrow2 hb2 ho2;have HR2:=Lib.hid (hrow2 rn (fun _ _ h=>h) rfl);have HL2:=Lib.hid (HL.out.only hb2 ho2 ne_schema_string);clear hrow2 hb2 ho2)
      go_roundw
      case rel=>exact ⟨k+1,_,by omega,by go_num,rfl,Lib.hid (by have h:=HR2.out;rw [take_of_drop HDk.out,List.map_append];unfold StrsR;simpa using h),HL2⟩
      case measure=>simp [intOf];omega
    have hkak:k<x.services.length:=by rw [←HN2.out];exact hlt
    obtain ⟨g1,off1,cs,rfl,-,⟨u,he,HU⟩,hc⟩:=ERow.get H2.out hkak (by omega)
    obtain ⟨r,Hr⟩:∃ r,Hid (x.services[k]=r):=⟨_,Lib.hid rfl⟩
    rw [Hr.out] at he HU
    obtain ⟨rn,rf⟩:=r
    subst he
    simp only at HU hc
    obtain ⟨A5,n5,c5,rfl⟩:=ERow.is HU
    have HN5:Hid (n5=rf.length):=Lib.hid (by obtain ⟨_,_,e,_⟩:=ERow.slice HU;injection e)
    have hm5:n5≤9223372036854775807:=by obtain ⟨_,_,e,_,_⟩:=ERow.slice HU;injection e;omega
    have H5:=Lib.hid HU
    have HDk:Hid (x.services.drop k=⟨rn,rf⟩::x.services.drop (k+1)):=Lib.hid (by rw [List.drop_eq_getElem_cons hkak,Hr.out])
    have b0:=hc 0 _ rfl
    have b1:=hc 1 _ rfl
    simp only [Nat.add_zero] at b0
    have hgl1:g1<w.heap.size:=World.block_lt_of_cell? w _ b0
    have b0:=(HL.out.bel.cell hgl1).trans b0
    have b1:=(HL.out.bel.cell hgl1).trans b1
    have i11:(k:Int)<(n2:Int):=by omega
    clear hc HU Hr
    have hle:(x.records.map (·.name)++(x.services.take k).map (·.name)).length≤3000:=by have:=HN1.out;have:=HN2.out;have:=HN3.out;simp only [List.length_append,List.length_map,List.length_take];omega
    have hbw:=HL.out.bel.size
    go_wp2_with (at_builtin;go_must (refine wpList_append_el rfl _ _ _ rfl w.heap.size 9 _ 1 16 Tryz.underlying127 info_strs rfl (by decide) StrE lv _ rfl HR.out [.string rn] rfl _ rfl (by simp) (by simp [Value.oneCell']) (by simp only [maxLen];omega) (by omega) (by omega) ?_);intro v2 w2 hrow2 hb2 ho2;have HR2:=Lib.hid (hrow2 rn (fun _ _ h=>h) rfl);have HL2:=Lib.hid (HL.out.only hb2 ho2 ne_schema_string);clear hrow2 hb2 ho2)
    go_roundw
    case rel=>exact ⟨k+1,_,by omega,by go_num,rfl,Lib.hid (by have h:=HR2.out;rw [take_of_drop HDk.out,List.map_append];unfold StrsR;simpa using h),HL2⟩
    case measure=>simp [intOf];omega
  have hkak:k<x.records.length:=by rw [←HN1.out];exact hlt
  obtain ⟨g1,off1,cs,rfl,-,⟨u,he,HU⟩,hc⟩:=ERow.get H1.out hkak (by omega)
  obtain ⟨r,Hr⟩:∃ r,Hid (x.records[k]=r):=⟨_,Lib.hid rfl⟩
  rw [Hr.out] at he HU
  obtain ⟨rn,rc,rf⟩:=r
  subst he
  simp only at HU hc
  obtain ⟨A5,n5,c5,rfl⟩:=ERow.is HU
  have HN5:Hid (n5=rf.length):=Lib.hid (by obtain ⟨_,_,e,_⟩:=ERow.slice HU;injection e)
  have hm5:n5≤9223372036854775807:=by obtain ⟨_,_,e,_,_⟩:=ERow.slice HU;injection e;omega
  have H5:=Lib.hid HU
  have HDk:Hid (x.records.drop k=⟨rn,rc,rf⟩::x.records.drop (k+1)):=Lib.hid (by rw [List.drop_eq_getElem_cons hkak,Hr.out])
  have b0:=hc 0 _ rfl
  have b1:=hc 1 _ rfl
  have b2:=hc 2 _ rfl
  simp only [Nat.add_zero] at b0
  have hgl1:g1<w.heap.size:=World.block_lt_of_cell? w _ b0
  have b0:=(HL.out.bel.cell hgl1).trans b0
  have b1:=(HL.out.bel.cell hgl1).trans b1
  have b2:=(HL.out.bel.cell hgl1).trans b2
  have i11:(k:Int)<(n1:Int):=by omega
  clear hc HU Hr
  have hle:((x.records.take k).map (·.name)).length≤3000:=by have:=HN1.out;have:=HN2.out;have:=HN3.out;simp only [List.length_append,List.length_map,List.length_take];omega
  have hbw:=HL.out.bel.size
  go_wp2_with (at_builtin;go_must (refine wpList_append_el rfl _ _ _ rfl w.heap.size 9 _ 1 16 Tryz.underlying127 info_strs rfl (by decide) StrE lv _ rfl HR.out [.string rn] rfl _ rfl (by simp) (by simp [Value.oneCell']) (by simp only [maxLen];omega) (by omega) (by omega) ?_);intro v2 w2 hrow2 hb2 ho2;have HR2:=Lib.hid (hrow2 rn (fun _ _ h=>h) rfl);have HL2:=Lib.hid (HL.out.only hb2 ho2 ne_schema_string);clear hrow2 hb2 ho2)
  go_roundw
  case rel=>exact ⟨k+1,_,by omega,by go_num,rfl,Lib.hid (by have h:=HR2.out;rw [take_of_drop HDk.out,List.map_append];unfold StrsR;simpa using h),HL2⟩
  case measure=>simp [intOf];omega
set_option maxRecDepth 100000 in
set_option maxHeartbeats 16000000 in
theorem rparts_any (v:Value) (x:Id.Sch) (i:Nat) (hF:Chk.Fine x) (hi:i≤3000) (w:World) (hv:Id.SchV w none v x) :
  Calls Tryz.prog 113 #[v,.int .i64 i] w fun e w'=>∃ u,e=.returned u∧StrsR w' (some w.heap.size) u (Chk.partsAt x i)∧Below w.heap.size w w':=by
 have HV:=Lib.hid hv
 obtain ⟨A1,n1,c1,A2,n2,c2,A3,n3,c3,rfl,r1,r2,r3⟩:=hv
 have HN1:Hid (n1=x.records.length):=Lib.hid (by obtain ⟨_,_,e,_⟩:=ERow.slice r1;injection e)
 have hm1:n1≤9223372036854775807:=by obtain ⟨_,_,e,_,_⟩:=ERow.slice r1;injection e;omega
 have H1:=Lib.hid r1
 have HN2:Hid (n2=x.services.length):=Lib.hid (by obtain ⟨_,_,e,_⟩:=ERow.slice r2;injection e)
 have hm2:n2≤9223372036854775807:=by obtain ⟨_,_,e,_,_⟩:=ERow.slice r2;injection e;omega
 have H2:=Lib.hid r2
 have HN3:Hid (n3=x.sagas.length):=Lib.hid (by obtain ⟨_,_,e,_⟩:=ERow.slice r3;injection e)
 have hm3:n3≤9223372036854775807:=by obtain ⟨_,_,e,_,_⟩:=ERow.slice r3;injection e;omega
 have H3:=Lib.hid r3
 clear r1 r2 r3
 have HF:=Lib.hid hF
 have ii0:(0:Int)≤(i:Int):=by omega
 go_enter Tryz.func113,Tryz.ntmps113
 have hl1:n1≤1000:=by rw [HN1.out];exact hF.recs
 have hl2:n2≤1000:=by rw [HN2.out];exact hF.svcs
 have hl3:n3≤1000:=by rw [HN3.out];exact hF.sags
 clear hF
 go_upto_region 1 with (fail)
 refine wp_named (fun V hV=>?_)
 have HL:=Lib.hid (Chk.Lx.start hV)
 clear hV
 obtain ⟨⟨q0,q1,q2,q3⟩,-⟩:=HL.out.box.k4
 by_cases hlt:i<n1
 case pos =>
  have hmem:(x.records[i]'(by rw [←HN1.out];exact hlt))∈x.records:=List.getElem_mem _
  have h99:=(HF.out.re _ hmem).2.1
  obtain ⟨P,HP⟩:∃ P,Hid (Chk.partsAt x i=P):=⟨_,Lib.hid rfl⟩
  have HP9:Hid (x.records[i]'(by rw [←HN1.out];exact hlt)=x.records[i]'(by rw [←HN1.out];exact hlt)):=Lib.hid rfl
  have HP0:Hid (P=(x.records[i]'(by rw [←HN1.out];exact hlt)).fields.map (·.name)):=Lib.hid (by rw [←HP.out];unfold Chk.partsAt;rw [dif_pos (by rw [←HN1.out];exact hlt)])
  clear HP hmem HP9
  have H99:=Lib.hid h99
  clear h99
  have hkai:i<x.records.length:=by rw [←HN1.out];exact hlt
  obtain ⟨g1,off1,cs,rfl,-,⟨u,he,HU⟩,hc⟩:=ERow.get H1.out hkai (by omega)
  obtain ⟨r,Hr⟩:∃ r,Hid (x.records[i]=r):=⟨_,Lib.hid rfl⟩
  rw [Hr.out] at he HU
  obtain ⟨rn,rc,rf⟩:=r
  subst he
  simp only at HU hc
  obtain ⟨A5,n5,c5,rfl⟩:=ERow.is HU
  have HN5:Hid (n5=rf.length):=Lib.hid (by obtain ⟨_,_,e,_⟩:=ERow.slice HU;injection e)
  have hm5:n5≤9223372036854775807:=by obtain ⟨_,_,e,_,_⟩:=ERow.slice HU;injection e;omega
  have H5:=Lib.hid HU
  have HDi:Hid (x.records.drop i=⟨rn,rc,rf⟩::x.records.drop (i+1)):=Lib.hid (by rw [List.drop_eq_getElem_cons hkai,Hr.out])
  have b0:=hc 0 _ rfl
  have b1:=hc 1 _ rfl
  have b2:=hc 2 _ rfl
  simp only [Nat.add_zero] at b0
  have hgl1:g1<w.heap.size:=World.block_lt_of_cell? w _ b0
  have b0:=(HL.out.bel.cell hgl1).trans b0
  have b1:=(HL.out.bel.cell hgl1).trans b1
  have b2:=(HL.out.bel.cell hgl1).trans b2
  have i11:(i:Int)<(n1:Int):=by omega
  clear hc HU Hr
  have eG:=getElem_of_drop hkai HDi.out
  rw [eG] at HP0 H99
  have h5:n5≤99:=by rw [HN5.out];exact H99.out
  clear eG H99
  have HP:=HP0
  clear HP0
  have HP1:Hid (Chk.partsAt x i=rf.map (·.name)):=Lib.hid (by unfold Chk.partsAt;rw [dif_pos hkai,getElem_of_drop hkai HDi.out])
  clear HP
  have HP:=HP1
  clear HP1
  go_wp2_with fail
  go_loopw [6,5] (fun i sl wr=>∃ (k:Nat) (lv:Value),k≤n5∧i=.int .i64 k∧lv=sl∧Hid (StrsR wr (some w.heap.size) lv ((rf.take k).map (·.name)))∧Hid (Chk.Lx w wr #[.string x.name,.slice (some ⟨g1,off1,none⟩) n1 c1,.slice A2 n2 c2,.slice A3 n3 c3])) (fun i _ _=>n5 - (intOf i).toNat)
  case atStart=>exact ⟨0,_,by omega,rfl,rfl,Lib.hid (ERow.nil _ _ _ _ _),HL⟩
  case round =>
   clear q0 q1 q2 q3
   have HLold:=HL
   clear HL
   obtain ⟨k,lv,hk,rfl,rfl,HR,HL⟩:=hrel
   obtain ⟨V1,rfl⟩:∃ w',w'=wr:=⟨_,rfl⟩
   have ik0:(0:Int)≤(k:Int):=by omega
   obtain ⟨⟨q0,q1,q2,q3⟩,-⟩:=HL.out.box.k4
   have b0:=(HL.out.bel.cell hgl1).trans ((HLold.out.bel.cell hgl1).symm.trans b0)
   have b1:=(HL.out.bel.cell hgl1).trans ((HLold.out.bel.cell hgl1).symm.trans b1)
   have b2:=(HL.out.bel.cell hgl1).trans ((HLold.out.bel.cell hgl1).symm.trans b2)
   by_cases hlj:k<n5
   case neg =>
    have HRx:Hid (StrsR V1 (some w.heap.size) lv (rf.map (·.name))):=Lib.hid (by have h:=HR.out;rw [List.take_of_length_le (by have:=HN5.out;omega)] at h;exact h)
    clear HR
    go_wp2_with fail
    go_ret
    exact ⟨lv,rfl,by rw [HP.out];exact HRx.out,HL.out.bel⟩
   have hkbk:k<rf.length:=by rw [←HN5.out];exact hlj
   obtain ⟨g2,off2,cs,rfl,-,⟨u,he,HU⟩,hc⟩:=ERow.get H5.out hkbk (by omega)
   obtain ⟨r,Hr⟩:∃ r,Hid (rf[k]=r):=⟨_,Lib.hid rfl⟩
   rw [Hr.out] at he HU
   obtain ⟨yn,yt⟩:=r
   subst he
   simp only at HU hc
   obtain ⟨A7,n7,c7,rfl⟩:=ERow.is HU
   have HN7:Hid (n7=yt.length):=Lib.hid (by obtain ⟨_,_,e,_⟩:=ERow.slice HU;injection e)
   have hm7:n7≤9223372036854775807:=by obtain ⟨_,_,e,_,_⟩:=ERow.slice HU;injection e;omega
   have H7:=Lib.hid HU
   clear HU
   have HDk:Hid (rf.drop k=⟨yn,yt⟩::rf.drop (k+1)):=Lib.hid (by rw [List.drop_eq_getElem_cons hkbk,Hr.out])
   have a0:=hc 0 _ rfl
   have a1:=hc 1 _ rfl
   simp only [Nat.add_zero] at a0
   have hgl2:g2<w.heap.size:=World.block_lt_of_cell? w _ a0
   have a0:=(HL.out.bel.cell hgl2).trans a0
   have a1:=(HL.out.bel.cell hgl2).trans a1
   have i21:(k:Int)<(n5:Int):=by omega
   clear hc Hr
   have hle:((rf.take k).map (·.name)).length≤3000:=by have:=HN5.out;simp only [List.length_map,List.length_take];omega
   have hbw:=HL.out.bel.size
   go_wp2_with (at_builtin;go_must (refine wpList_append_el rfl _ _ _ rfl w.heap.size 9 _ 1 16 Tryz.underlying127 info_strs rfl (by decide) StrE lv _ rfl HR.out [.string yn] rfl _ rfl (by simp) (by simp [Value.oneCell']) (by simp only [maxLen];omega) (by omega) (by omega) ?_);intro v2 w2 hrow2 hb2 ho2;have HR2:=Lib.hid (hrow2 yn (fun _ _ h=>h) rfl);have HL2:=Lib.hid (HL.out.only hb2 ho2 ne_schema_string);clear hrow2 hb2 ho2)
   go_roundw
   case rel=>exact ⟨k+1,_,by omega,by go_num,rfl,Lib.hid (by have h:=HR2.out;rw [take_of_drop HDk.out,List.map_append];unfold StrsR;simpa using h),HL2⟩
   case measure=>simp [intOf];omega
 by_cases hlv:i - n1<n2
 case neg =>
  have HP:Hid (Chk.partsAt x i=[]):=Lib.hid (by unfold Chk.partsAt;rw [dif_neg (by rw [←HN1.out];exact hlt),dif_neg (by rw [←HN1.out,←HN2.out];exact hlv)])
  have e1:¬(i:Int) - (n1:Int)<(n2:Int):=by omega
  have e2:¬(i:Int)<(n1:Int):=by omega
  go_wp2_with fail
  go_ret
  exact ⟨_,rfl,by rw [HP.out];exact ERow.nil _ _ _ _ _,HL.out.bel⟩
 obtain ⟨j,hj⟩:∃ j,i=n1+j:=⟨i - n1,by omega⟩
 subst hj
 have HP0:Hid (∀ h:j<x.services.length,Chk.partsAt x (n1+j)=x.services[j].methods.map (·.name)):=Lib.hid (fun h=>by unfold Chk.partsAt;rw [dif_neg (by rw [←HN1.out];exact hlt)];rw [dif_pos (by rw [show n1+j - x.records.length=j from (by rw [←HN1.out];omega)];exact h)];simp only [show n1+j - x.records.length=j from (by rw [←HN1.out];omega)])
 have hlj2:j<n2:=by omega
 have e1:((n1+j:Nat):Int) - (n1:Int)=(j:Int):=by omega
 have e2:(n1:Int)+(j:Int) - (n1:Int)=(j:Int):=by omega
 have e3:(j:Int)<(n2:Int):=by omega
 have e4:¬((n1+j:Nat):Int)<(n1:Int):=by omega
 have ij0:(0:Int)≤(j:Int):=by omega
 clear hlv hlt
 have h99:=fun h:j<x.services.length=>(HF.out.sv _ (List.getElem_mem h)).2.1
 have H99:=Lib.hid h99
 clear h99
 have hkaj:j<x.services.length:=by rw [←HN2.out];exact hlj2
 obtain ⟨g1,off1,cs,rfl,-,⟨u,he,HU⟩,hc⟩:=ERow.get H2.out hkaj (by omega)
 obtain ⟨r,Hr⟩:∃ r,Hid (x.services[j]=r):=⟨_,Lib.hid rfl⟩
 rw [Hr.out] at he HU
 obtain ⟨rn,rf⟩:=r
 subst he
 simp only at HU hc
 obtain ⟨A5,n5,c5,rfl⟩:=ERow.is HU
 have HN5:Hid (n5=rf.length):=Lib.hid (by obtain ⟨_,_,e,_⟩:=ERow.slice HU;injection e)
 have hm5:n5≤9223372036854775807:=by obtain ⟨_,_,e,_,_⟩:=ERow.slice HU;injection e;omega
 have H5:=Lib.hid HU
 have HDj:Hid (x.services.drop j=⟨rn,rf⟩::x.services.drop (j+1)):=Lib.hid (by rw [List.drop_eq_getElem_cons hkaj,Hr.out])
 have b0:=hc 0 _ rfl
 have b1:=hc 1 _ rfl
 simp only [Nat.add_zero] at b0
 have hgl1:g1<w.heap.size:=World.block_lt_of_cell? w _ b0
 have b0:=(HL.out.bel.cell hgl1).trans b0
 have b1:=(HL.out.bel.cell hgl1).trans b1
 have i11:(j:Int)<(n2:Int):=by omega
 clear hc HU Hr
 have h5:n5≤99:=by rw [HN5.out];have:=H99.out hkaj;rw [getElem_of_drop hkaj HDj.out] at this;exact this
 have HP:Hid (Chk.partsAt x (n1+j)=rf.map (·.name)):=Lib.hid (by rw [HP0.out hkaj,getElem_of_drop hkaj HDj.out])
 clear HP0 H99
 go_wp2_with fail
 go_loopw [7,5] (fun i sl wr=>∃ (k:Nat) (lv:Value),k≤n5∧i=.int .i64 k∧lv=sl∧Hid (StrsR wr (some w.heap.size) lv ((rf.take k).map (·.name)))∧Hid (Chk.Lx w wr #[.string x.name,.slice A1 n1 c1,.slice (some ⟨g1,off1,none⟩) n2 c2,.slice A3 n3 c3])) (fun i _ _=>n5 - (intOf i).toNat)
 case atStart=>exact ⟨0,_,by omega,rfl,rfl,Lib.hid (ERow.nil _ _ _ _ _),HL⟩
 case round =>
  clear q0 q1 q2 q3
  have HLold:=HL
  clear HL
  obtain ⟨k,lv,hk,rfl,rfl,HR,HL⟩:=hrel
  obtain ⟨V1,rfl⟩:∃ w',w'=wr:=⟨_,rfl⟩
  have ik0:(0:Int)≤(k:Int):=by omega
  obtain ⟨⟨q0,q1,q2,q3⟩,-⟩:=HL.out.box.k4
  have b0:=(HL.out.bel.cell hgl1).trans ((HLold.out.bel.cell hgl1).symm.trans b0)
  have b1:=(HL.out.bel.cell hgl1).trans ((HLold.out.bel.cell hgl1).symm.trans b1)
  by_cases hlj:k<n5
  case neg =>
   have HRx:Hid (StrsR V1 (some w.heap.size) lv (rf.map (·.name))):=Lib.hid (by have h:=HR.out;rw [List.take_of_length_le (by have:=HN5.out;omega)] at h;exact h)
   clear HR
   go_wp2_with fail
   go_ret
   exact ⟨lv,rfl,by rw [HP.out];exact HRx.out,HL.out.bel⟩
  have hkbk:k<rf.length:=by rw [←HN5.out];exact hlj
  obtain ⟨g2,off2,cs,rfl,-,he,hc⟩:=ERow.get H5.out hkbk (by omega)
  obtain ⟨r,Hr⟩:∃ r,Hid (rf[k]=r):=⟨_,Lib.hid rfl⟩
  rw [Hr.out] at he
  obtain ⟨m0,m1,m2,m3,m4⟩:=r
  unfold Id.MthE Id.Mth.cells at he
  subst he
  have HDk:Hid (rf.drop k=⟨m0,m1,m2,m3,m4⟩::rf.drop (k+1)):=Lib.hid (by rw [List.drop_eq_getElem_cons hkbk,Hr.out])
  have a0:=hc 0 _ rfl
  have a1:=hc 1 _ rfl
  have a2:=hc 2 _ rfl
  have a3:=hc 3 _ rfl
  have a4:=hc 4 _ rfl
  simp only [Nat.add_zero] at a0
  have hgl2:g2<w.heap.size:=World.block_lt_of_cell? w _ a0
  have a0:=(HL.out.bel.cell hgl2).trans a0
  have a1:=(HL.out.bel.cell hgl2).trans a1
  have a2:=(HL.out.bel.cell hgl2).trans a2
  have a3:=(HL.out.bel.cell hgl2).trans a3
  have a4:=(HL.out.bel.cell hgl2).trans a4
  have i21:(k:Int)<(n5:Int):=by omega
  clear hc Hr
  have hle:((rf.take k).map (·.name)).length≤3000:=by have:=HN5.out;simp only [List.length_map,List.length_take];omega
  have hbw:=HL.out.bel.size
  go_wp2_with (at_builtin;go_must (refine wpList_append_el rfl _ _ _ rfl w.heap.size 9 _ 1 16 Tryz.underlying127 info_strs rfl (by decide) StrE lv _ rfl HR.out [.string m0] rfl _ rfl (by simp) (by simp [Value.oneCell']) (by simp only [maxLen];omega) (by omega) (by omega) ?_);intro v2 w2 hrow2 hb2 ho2;have HR2:=Lib.hid (hrow2 m0 (fun _ _ h=>h) rfl);have HL2:=Lib.hid (HL.out.only hb2 ho2 ne_schema_string);clear hrow2 hb2 ho2)
  go_roundw
  case rel=>exact ⟨k+1,_,by omega,by go_num,rfl,Lib.hid (by have h:=HR2.out;rw [take_of_drop HDk.out,List.map_append];unfold StrsR;simpa using h),HL2⟩
  case measure=>simp [intOf];omega
set_option maxRecDepth 100000 in
set_option maxHeartbeats 16000000 in
theorem rdoubles_any (v:Value) (x:Id.Sch) (hF:Chk.Fine x) (w:World) (hv:Id.SchV w none v x) :
  Calls Tryz.prog 85 #[v] w fun e w'=>e=.returned (Chk.ansV (Chk.firstF (Chk.doublesT x)))∧Below w.heap.size w w':=by
 have HV:=Lib.hid hv
 obtain ⟨A1,n1,c1,A2,n2,c2,A3,n3,c3,rfl,r1,r2,r3⟩:=hv
 have HN1:Hid (n1=x.records.length):=Lib.hid (by obtain ⟨_,_,e,_⟩:=ERow.slice r1;injection e)
 have hm1:n1≤9223372036854775807:=by obtain ⟨_,_,e,_,_⟩:=ERow.slice r1;injection e;omega
 have H1:=Lib.hid r1
 have HN2:Hid (n2=x.services.length):=Lib.hid (by obtain ⟨_,_,e,_⟩:=ERow.slice r2;injection e)
 have hm2:n2≤9223372036854775807:=by obtain ⟨_,_,e,_,_⟩:=ERow.slice r2;injection e;omega
 have H2:=Lib.hid r2
 have HN3:Hid (n3=x.sagas.length):=Lib.hid (by obtain ⟨_,_,e,_⟩:=ERow.slice r3;injection e)
 have hm3:n3≤9223372036854775807:=by obtain ⟨_,_,e,_,_⟩:=ERow.slice r3;injection e;omega
 have H3:=Lib.hid r3
 clear r1 r2 r3
 have HF:=Lib.hid hF
 obtain ⟨R,HR⟩:∃ R,Hid (Chk.firstF (Chk.doublesT x)=R):=⟨_,Lib.hid rfl⟩
 rw [HR.out]
 obtain ⟨D,HD⟩:∃ D,Hid (Chk.decls x=D):=⟨_,Lib.hid rfl⟩
 have HR0:Hid (Chk.firstF (Chk.dblA ((Chk.declsP x).drop 0) (D.take 0))=R):=Lib.hid (by rw [←HR.out,←Chk.doubles_A];rfl)
 clear hF HR
 go_enter Tryz.func85,Tryz.ntmps85
 go_upto_region 1 with (fail)
 refine wp_named (fun V hV=>?_)
 have HL:=Lib.hid (Chk.Lx.start hV)
 clear hV
 obtain ⟨⟨q0,q1,q2,q3⟩,-⟩:=HL.out.box.k4
 go_wp2_with fail
 refine (rdecls_any _ x HF.out _ (Id.SchV.below HL.out.bel HV.out)).mono ?_
 rintro e W1 ⟨u,rfl,hu,hb⟩
 rw [HD.out] at hu
 obtain ⟨AD,nD,cD,rfl⟩:=ERow.is hu
 have HND:Hid (nD=D.length):=Lib.hid (by obtain ⟨_,_,e,_⟩:=ERow.slice hu;injection e)
 have hDm:nD≤3000:=by have h:=Chk.declsP_len HF.out;rw [HND.out,←HD.out];unfold Chk.decls;simpa using h
 have HS:Hid (StrsR W1 none (.slice AD nD cD) D):=Lib.hid (ERow.mono hu (fun _ _ hr=>hr.weak (fun b' e'=>by cases e')) (fun _ _ h=>h))
 have HL1:=Lib.hid (HL.out.below hb)
 clear hu hb HL q0 q1 q2 q3
 go_wp2_with fail
 go_loopw [5] (fun i wr=>∃ (k:Nat),k≤nD∧i=.int .i64 k∧Hid (Chk.firstF (Chk.dblA ((Chk.declsP x).drop k) (D.take k))=R)∧Hid (StrsR wr none (.slice AD nD cD) D)∧Hid (Chk.Lx w wr #[.string x.name,.slice A1 n1 c1,.slice A2 n2 c2,.slice A3 n3 c3])) (fun i _=>nD - (intOf i).toNat)
 case atStart=>exact ⟨0,by omega,rfl,HR0,HS,HL1⟩
 case round =>
  clear HS HL1 HR0
  obtain ⟨k,hk,rfl,HI,HS,HL⟩:=hrel
  obtain ⟨V1,rfl⟩:∃ w',w'=wr:=⟨_,rfl⟩
  have ik0:(0:Int)≤(k:Int):=by omega
  have HLD:Hid ((Chk.declsP x).length=nD):=Lib.hid (by rw [HND.out,←HD.out];unfold Chk.decls;simp)
  by_cases hlt:k<nD
  case neg =>
   have HE:Hid (R=none):=Lib.hid (by have h:=HI.out;rw [List.drop_of_length_le (by have:=HLD.out;omega)] at h;exact h.symm)
   clear HI
   go_wp2_with fail
   go_ret2
   exact ⟨by rw [HE.out];rfl,HL.out.bel⟩
  have hkD:k<D.length:=by rw [←HND.out];exact hlt
  have hkP:k<(Chk.declsP x).length:=by rw [HLD.out];exact hlt
  obtain ⟨p,Hp⟩:∃ p,Hid ((Chk.declsP x)[k]=p):=⟨_,Lib.hid rfl⟩
  have hok:=Chk.declsP_ok HF.out _ (List.getElem_mem hkP)
  rw [Hp.out] at hok
  have HPT:Hid (Chk.partsAt x k=p.2):=Lib.hid (by rw [←Chk.parts_eq hkP,Hp.out])
  have HDk:Hid (D[k]=p.1):=Lib.hid (by simp only [←HD.out,Chk.decls,List.getElem_map,Hp.out])
  have HI1:Hid (Chk.firstF (Chk.dblA (p::(Chk.declsP x).drop (k+1)) (D.take k))=R):=Lib.hid (by rw [←HI.out,List.drop_eq_getElem_cons hkP,Hp.out])
  have HTK:Hid (D.take (k+1)=D.take k++[p.1]):=Lib.hid (by rw [List.take_succ_eq_append_getElem hkD,HDk.out])
  obtain ⟨rn,P⟩:=p
  simp only at hok HPT HDk HTK
  obtain ⟨hrn,hP99,hPs⟩:=hok
  have HPs:=Lib.hid hPs
  clear HI Hp hPs
  have i11:(k:Int)<(nD:Int):=by omega
  have HK:=Lib.hid hkD
  go_wp2_with fail
  refine (rbefore_any _ D k HK.out _ HS.out).mono ?_
  rw [HDk.out]
  rintro e W2 ⟨rfl,hb⟩
  have HLx:=Lib.hid (HL.out.below hb)
  have HSx:Hid (StrsR W2 none (.slice AD nD cD) D):=Lib.hid (ERow.below HS.out hb (fun _ _ h=>h))
  clear HL HS hb
  have HL:=HLx
  have HS:=HSx
  clear HLx HSx
  obtain ⟨g,off,cs,rfl,-,e1,hc⟩:=ERow.get HS.out HK.out (by omega)
  unfold StrE at e1
  rw [HDk.out] at e1
  subst e1
  have a0:=hc 0 _ rfl
  simp only [Nat.add_zero,Nat.mul_one] at a0
  clear hc hkP
  cases hs:Chk.seenB (D.take k) rn
  case true =>
   have HE:Hid (R=some rn):=Lib.hid (by rw [←HI1.out];exact Chk.firstF_f (by rw [hs];rfl))
   go_wp2_with fail
   go_ret2
   exact ⟨by rw [HE.out];rfl,HL.out.bel⟩
  have HI2:Hid (Chk.firstF (Chk.dblP rn (P.drop 0) (P.take 0)++Chk.dblA ((Chk.declsP x).drop (k+1)) (D.take (k+1)))=R):=Lib.hid (by rw [HTK.out];exact (Chk.firstF_t (by rw [hs];rfl)).symm.trans HI1.out)
  clear HI1 hs a0
  obtain ⟨⟨q0,q1,q2,q3⟩,-⟩:=HL.out.box.k4
  go_wp2_with fail
  refine (rparts_any _ x k HF.out (by omega) _ (Id.SchV.below HL.out.bel HV.out)).mono ?_
  rintro e W3 ⟨u,rfl,hu,hb⟩
  rw [HPT.out] at hu
  obtain ⟨AP,nP,cP,rfl⟩:=ERow.is hu
  have HNP:Hid (nP=P.length):=Lib.hid (by obtain ⟨_,_,e,_⟩:=ERow.slice hu;injection e)
  have hPm:nP≤99:=by rw [HNP.out];exact hP99
  have HSP:Hid (StrsR W3 none (.slice AP nP cP) P):=Lib.hid (ERow.mono hu (fun _ _ hr=>hr.weak (fun b' e'=>by cases e')) (fun _ _ h=>h))
  have HLx:=Lib.hid (HL.out.below hb)
  have HSx:Hid (StrsR W3 none (.slice (some ⟨g,off,none⟩) nD cD) D):=Lib.hid (ERow.below HS.out hb (fun _ _ h=>h))
  clear HL HS hb hu q0 q1 q2 q3 HPT
  go_wp2_with fail
  go_loopw [7] (fun i wr=>∃ (j:Nat),j≤nP∧i=.int .i64 j∧Hid (Chk.firstF (Chk.dblP rn (P.drop j) (P.take j)++Chk.dblA ((Chk.declsP x).drop (k+1)) (D.take (k+1)))=R)∧Hid (StrsR wr none (.slice (some ⟨g,off,none⟩) nD cD) D)∧Hid (StrsR wr none (.slice AP nP cP) P)∧Hid (Chk.Lx w wr #[.string x.name,.slice A1 n1 c1,.slice A2 n2 c2,.slice A3 n3 c3])) (fun i _=>nP - (intOf i).toNat)
  case atStart=>exact ⟨0,by omega,rfl,HI2,HSx,HSP,HLx⟩
  case round =>
   clear HSx HSP HLx HI2
   obtain ⟨j,hj,rfl,HI,HS,HSP,HL⟩:=hrel
   obtain ⟨V2,rfl⟩:∃ w',w'=wr:=⟨_,rfl⟩
   have ij0:(0:Int)≤(j:Int):=by omega
   by_cases hlj:j<nP
   case neg =>
    have HI3:Hid (Chk.firstF (Chk.dblA ((Chk.declsP x).drop (k+1)) (D.take (k+1)))=R):=Lib.hid (by have h:=HI.out;rw [List.drop_of_length_le (by have:=HNP.out;omega)] at h;exact h)
    clear HI
    go_wp2_with fail
    go_roundw
    case rel=>exact ⟨k+1,by omega,by go_num,HI3,HS,HL⟩
    case measure=>simp [intOf];omega
   have hjP:j<P.length:=by rw [←HNP.out];exact hlj
   obtain ⟨y,Hy⟩:∃ y,Hid (P[j]=y):=⟨_,Lib.hid rfl⟩
   have hys:y.size≤1000:=by rw [←Hy.out];exact HPs.out _ (List.getElem_mem _)
   have HI1:Hid (Chk.firstF (Chk.dblP rn (y::P.drop (j+1)) (P.take j)++Chk.dblA ((Chk.declsP x).drop (k+1)) (D.take (k+1)))=R):=Lib.hid (by rw [←HI.out,List.drop_eq_getElem_cons hjP,Hy.out])
   have HTJ:Hid (P.take (j+1)=P.take j++[y]):=Lib.hid (by rw [List.take_succ_eq_append_getElem hjP,Hy.out])
   have HJ:=Lib.hid hjP
   have i21:(j:Int)<(nP:Int):=by omega
   clear HI
   go_wp2_with fail
   refine (rbefore_any _ P j HJ.out _ HSP.out).mono ?_
   rw [Hy.out]
   rintro e W4 ⟨rfl,hb⟩
   have HLx:=Lib.hid (HL.out.below hb)
   have HSx:Hid (StrsR W4 none (.slice (some ⟨g,off,none⟩) nD cD) D):=Lib.hid (ERow.below HS.out hb (fun _ _ h=>h))
   have HSy:Hid (StrsR W4 none (.slice AP nP cP) P):=Lib.hid (ERow.below HSP.out hb (fun _ _ h=>h))
   clear HL HS HSP hb
   cases hs:Chk.seenB (P.take j) y
   case false =>
    have HI4:Hid (Chk.firstF (Chk.dblP rn (P.drop (j+1)) (P.take (j+1))++Chk.dblA ((Chk.declsP x).drop (k+1)) (D.take (k+1)))=R):=Lib.hid (by rw [HTJ.out];exact (Chk.firstF_t (by rw [hs];rfl)).symm.trans HI1.out)
    clear HI1 hs
    go_wp2_with fail
    go_roundw
    case rel=>exact ⟨j+1,by omega,by go_num,HI4,HSx,HSy,HLx⟩
    case measure=>simp [intOf];omega
   have HE:Hid (R=some (Chk.part rn y)):=Lib.hid (by rw [←HI1.out];exact Chk.firstF_f (by rw [hs];rfl))
   obtain ⟨g9,off9,cs,e9,-,e1,hc⟩:=ERow.get HSx.out HK.out (by omega)
   injection e9 with e9
   injection e9 with e9 e8
   subst e9 e8
   unfold StrE at e1
   rw [HDk.out] at e1
   subst e1
   have a0:=hc 0 _ rfl
   simp only [Nat.add_zero,Nat.mul_one] at a0
   clear hc
   obtain ⟨g8,off8,cs,rfl,-,e1,hc⟩:=ERow.get HSy.out HJ.out (by omega)
   unfold StrE at e1
   rw [Hy.out] at e1
   subst e1
   have b0:=hc 0 _ rfl
   simp only [Nat.add_zero,Nat.mul_one] at b0
   clear hc
   have z1:(9223372036854775807<rn.size+1)=False:=by simp;omega
   have z2:(9223372036854775807<rn.size+1+y.size)=False:=by simp;omega
   go_wp2_with fail
   go_quiet (fail)
   go_wp2_with fail
   go_ret2
   exact ⟨by rw [HE.out];rfl,below_drewN HLx.out.bel _⟩
end Go.Proofs.YtlbihaikppkecaaGreatDoor
