/- redressref13: counts, Check (printed by gen_rchk8.py). No condition. -/
import Derived.Test.YtlbihaikppkecaaGreatDoorPS25
import Derived.Test.YtlbihaikppkecaaGreatDoorPS23
import Derived.Test.YtlbihaikppkecaaGreatDoorPS26
import Derived.Test.YtlbihaikppkecaaGreatDoorPS18
set_option linter.unusedVariables false
set_option linter.unusedSimpArgs false
namespace Go.Proofs.YtlbihaikppkecaaGreatDoor
open Go.RowKit Go.BigFrame
set_option maxRecDepth 100000 in
set_option maxHeartbeats 16000000 in
theorem rcounts_any (v:Value) (x:Id.Sch) (w:World) (hv:Id.SchV w none v x) :
  Calls Tryz.prog 84 #[v] w fun e w'=>e=.returned (Chk.ansV (Chk.firstF (Chk.countsT x)))∧Below w.heap.size w w':=by
 have HV:=Lib.hid hv
 obtain ⟨A1,n1,c1,A2,n2,c2,A3,n3,c3,rfl,r1,r2,r3⟩:=hv
 have HN1:Hid (n1=x.records.length):=Lib.hid (by obtain ⟨_,_,e,_⟩:=ERow.slice r1;injection e)
 have hm1:n1≤9223372036854775807:=by obtain ⟨_,_,e,_,_⟩:=ERow.slice r1;injection e;omega
 have H1:=Lib.hid r1
 have HN2:Hid (n2=x.services.length):=Lib.hid (by obtain ⟨_,_,e,_⟩:=ERow.slice r2;injection e)
 have hm2:n2≤9223372036854775807:=by obtain ⟨_,_,e,_,_⟩:=ERow.slice r2;injection e;omega
 have H2:=Lib.hid r2
 have HN3:Hid (n3=x.sagas.length):=Lib.hid (by obtain ⟨_,_,e,_⟩:=ERow.slice r3;injection e)
 have hm3:n3≤9223372036854775807:=by obtain ⟨_,_,e,_,_⟩:=ERow.slice r3;injection e;omega
 have H3:=Lib.hid r3
 clear r1 r2 r3
 obtain ⟨R,HR⟩:∃ R,Hid (Chk.firstF (Chk.countsT x)=R):=⟨_,Lib.hid rfl⟩
 rw [HR.out]
 unfold Chk.countsT at HR
 rw [←HN1.out,←HN2.out,←HN3.out] at HR
 go_enter Tryz.func84,Tryz.ntmps84
 go_upto_region 1 with (fail)
 refine wp_named (fun V hV=>?_)
 have HL:=Lib.hid (Chk.Lx.start hV)
 clear hV
 obtain ⟨⟨q0,q1,q2,q3⟩,-⟩:=HL.out.box.k4
 by_cases h64:n1+n2+n3≤64
 case neg =>
  have HE:Hid (R=some ⟨#[]⟩):=Lib.hid (by rw [←HR.out];exact Chk.firstF_f (decide_eq_false (by omega)))
  by_cases h1:64<n1
  case pos =>
   have h1i:(64:Int)<(n1:Int):=by omega
   go_wp2_with fail
   go_ret2
   exact ⟨by rw [HE.out];rfl,HL.out.bel⟩
  have h1i:¬(64:Int)<(n1:Int):=by omega
  by_cases h2:64<n2
  case pos =>
   have h2i:(64:Int)<(n2:Int):=by omega
   go_wp2_with fail
   go_ret2
   exact ⟨by rw [HE.out];rfl,HL.out.bel⟩
  have h2i:¬(64:Int)<(n2:Int):=by omega
  by_cases h3:64<n3
  case pos =>
   have h3i:(64:Int)<(n3:Int):=by omega
   go_wp2_with fail
   go_ret2
   exact ⟨by rw [HE.out];rfl,HL.out.bel⟩
  have h3i:¬(64:Int)<(n3:Int):=by omega
  have h4i:(64:Int)<(n1:Int)+(n2:Int)+(n3:Int):=by omega
  have h4:64<n1+n2+n3:=by omega
  clear h64
  go_wp2_with fail
  go_ret2
  exact ⟨by rw [HE.out];rfl,HL.out.bel⟩
 have HR0:Hid (Chk.firstF (x.records.flatMap Chk.countsR++(x.services.flatMap Chk.countsV++x.sagas.flatMap Chk.countsG))=R):=Lib.hid ((Chk.firstF_t (decide_eq_true (by omega))).symm.trans HR.out)
 have h1:¬64<n1:=by omega
 have h1i:¬(64:Int)<(n1:Int):=by omega
 have h2:¬64<n2:=by omega
 have h2i:¬(64:Int)<(n2:Int):=by omega
 have h3:¬64<n3:=by omega
 have h3i:¬(64:Int)<(n3:Int):=by omega
 have h4:¬64<n1+n2+n3:=by omega
 have h4i:¬(64:Int)<(n1:Int)+(n2:Int)+(n3:Int):=by omega
 go_wp2_with fail
 clear h64 h1 h1i h2 h2i h3 h3i h4 h4i
 go_loopw [4] (fun i wr=>∃ (z:Nat),z≤n1∧i=.int .i64 z∧V=wr∧Hid (Chk.firstF ((x.records.drop z).flatMap Chk.countsR++(x.services.flatMap Chk.countsV++x.sagas.flatMap Chk.countsG))=R)) (fun i _=>n1 - (intOf i).toNat)
 case atStart=>exact ⟨0,by omega,rfl,rfl,Lib.hid (HR0.out)⟩
 case round =>
  obtain ⟨k,hkk,rfl,rfl,HI⟩:=hrel
  have ik0:(0:Int)≤(k:Int):=by omega
  by_cases hlt:k<n1
  case neg =>
   have HI1:Hid (Chk.firstF ((x.services.flatMap Chk.countsV++x.sagas.flatMap Chk.countsG))=R):=Lib.hid (by have h:=HI.out;rw [List.drop_of_length_le (by have:=HN1.out;omega)] at h;exact h)
   clear HI
   go_wp2_with fail
   go_loopw [5] (fun i wr=>∃ (z:Nat),z≤n2∧i=.int .i64 z∧V=wr∧Hid (Chk.firstF ((x.services.drop z).flatMap Chk.countsV++x.sagas.flatMap Chk.countsG)=R)) (fun i _=>n2 - (intOf i).toNat)
   case atStart=>exact ⟨0,by omega,rfl,rfl,Lib.hid (HI1.out)⟩
   case round =>
    obtain ⟨k,hkk,rfl,rfl,HI⟩:=hrel
    have ik0:(0:Int)≤(k:Int):=by omega
    by_cases hlt:k<n2
    case neg =>
     have HI1:Hid (Chk.firstF (x.sagas.flatMap Chk.countsG)=R):=Lib.hid (by have h:=HI.out;rw [List.drop_of_length_le (by have:=HN2.out;omega)] at h;exact h)
     clear HI
     go_wp2_with fail
     have HI0:=HI1
     clear HI1
     go_loopw [6] (fun i wr=>∃ (z:Nat),z≤n3∧i=.int .i64 z∧V=wr∧Hid (Chk.firstF ((x.sagas.drop z).flatMap Chk.countsG++[])=R)) (fun i _=>n3 - (intOf i).toNat)
     case atStart=>exact ⟨0,by omega,rfl,rfl,Lib.hid (by have h:=HI0.out;rw [←List.append_nil (List.flatMap _ _)] at h;exact h)⟩
     case round =>
      obtain ⟨k,hkk,rfl,rfl,HI⟩:=hrel
      have ik0:(0:Int)≤(k:Int):=by omega
      by_cases hlt:k<n3
      case neg =>
       have HI1:Hid (Chk.firstF ([])=R):=Lib.hid (by have h:=HI.out;rw [List.drop_of_length_le (by have:=HN3.out;omega)] at h;exact h)
       clear HI
       have HE:Hid (R=none):=Lib.hid HI1.out.symm
       go_wp2_with fail
       go_ret2
       exact ⟨by rw [HE.out];rfl,HL.out.bel⟩
      have hkak:k<x.sagas.length:=by rw [←HN3.out];exact hlt
      obtain ⟨g1,off1,cs,rfl,-,⟨u,he,HU⟩,hc⟩:=ERow.get H3.out hkak (by omega)
      obtain ⟨r,Hr⟩:∃ r,Hid (x.sagas[k]=r):=⟨_,Lib.hid rfl⟩
      rw [Hr.out] at he HU
      obtain ⟨rn,ra,rf⟩:=r
      subst he
      simp only at HU hc
      obtain ⟨A5,n5,c5,rfl⟩:=ERow.is HU
      have HN5:Hid (n5=rf.length):=Lib.hid (by obtain ⟨_,_,e,_⟩:=ERow.slice HU;injection e)
      have hm5:n5≤9223372036854775807:=by obtain ⟨_,_,e,_,_⟩:=ERow.slice HU;injection e;omega
      have H5:=Lib.hid HU
      have HDk:Hid (x.sagas.drop k=⟨rn,ra,rf⟩::x.sagas.drop (k+1)):=Lib.hid (by rw [List.drop_eq_getElem_cons hkak,Hr.out])
      have b0:=hc 0 _ rfl
      have b1:=hc 1 _ rfl
      have b2:=hc 2 _ rfl
      simp only [Nat.add_zero] at b0
      have hgl1:g1<w.heap.size:=World.block_lt_of_cell? w _ b0
      have b0:=(HL.out.bel.cell hgl1).trans b0
      have b1:=(HL.out.bel.cell hgl1).trans b1
      have b2:=(HL.out.bel.cell hgl1).trans b2
      have i11:(k:Int)<(n3:Int):=by omega
      clear hc HU Hr
      have HT0:Hid (Chk.firstF (((decide (1≤(rf.length:Int))&&decide ((rf.length:Int)≤8)),rn)::((x.sagas.drop (k+1)).flatMap Chk.countsG++[]))=R):=Lib.hid (by have h:=HI.out;rw [HDk.out,List.flatMap_cons] at h;exact h)
      clear HI
      rw [←HN5.out] at HT0
      have i50:(0:Int)≤(n5:Int):=by omega
      by_cases h1:1≤n5
      case neg =>
       obtain rfl:n5=0:=by omega
       try simp only [Int.cast_ofNat_Int] at b2
       have HE:Hid (R=some rn):=Lib.hid (by rw [←HT0.out];exact Chk.firstF_f (by decide))
       go_wp2_with fail
       go_ret2
       exact ⟨by rw [HE.out];rfl,HL.out.bel⟩
      have a0:¬n5<1:=by omega
      have a0i:¬(n5:Int)<1:=by omega
      have a0j:0<n5:=by omega
      by_cases h8:n5≤8
      case pos =>
       have a1:¬8<n5:=by omega
       have a2:¬(8:Int)<(n5:Int):=by omega
       have HT:Hid (Chk.firstF ((x.sagas.drop (k+1)).flatMap Chk.countsG++[])=R):=Lib.hid ((Chk.firstF_t (by rw [decide_eq_true (show 1≤(n5:Int) by omega),decide_eq_true (show (n5:Int)≤8 by omega)];rfl)).symm.trans HT0.out)
       clear HT0
       go_wp2_with fail
       go_roundw
       case rel=>exact ⟨k+1,by omega,by go_num,by first | rfl | trivial,Lib.hid (HT.out)⟩
       case measure=>simp [intOf];omega
      have a1:8<n5:=by omega
      have a2:(8:Int)<(n5:Int):=by omega
      have HE:Hid (R=some rn):=Lib.hid (by rw [←HT0.out];exact Chk.firstF_f (by rw [decide_eq_false (show ¬(n5:Int)≤8 by omega)];simp))
      go_wp2_with fail
      go_ret2
      exact ⟨by rw [HE.out];rfl,HL.out.bel⟩
    have hkak:k<x.services.length:=by rw [←HN2.out];exact hlt
    obtain ⟨g1,off1,cs,rfl,-,⟨u,he,HU⟩,hc⟩:=ERow.get H2.out hkak (by omega)
    obtain ⟨r,Hr⟩:∃ r,Hid (x.services[k]=r):=⟨_,Lib.hid rfl⟩
    rw [Hr.out] at he HU
    obtain ⟨rn,rf⟩:=r
    subst he
    simp only at HU hc
    obtain ⟨A5,n5,c5,rfl⟩:=ERow.is HU
    have HN5:Hid (n5=rf.length):=Lib.hid (by obtain ⟨_,_,e,_⟩:=ERow.slice HU;injection e)
    have hm5:n5≤9223372036854775807:=by obtain ⟨_,_,e,_,_⟩:=ERow.slice HU;injection e;omega
    have H5:=Lib.hid HU
    have HDk:Hid (x.services.drop k=⟨rn,rf⟩::x.services.drop (k+1)):=Lib.hid (by rw [List.drop_eq_getElem_cons hkak,Hr.out])
    have b0:=hc 0 _ rfl
    have b1:=hc 1 _ rfl
    simp only [Nat.add_zero] at b0
    have hgl1:g1<w.heap.size:=World.block_lt_of_cell? w _ b0
    have b0:=(HL.out.bel.cell hgl1).trans b0
    have b1:=(HL.out.bel.cell hgl1).trans b1
    have i11:(k:Int)<(n2:Int):=by omega
    clear hc HU Hr
    have HT0:Hid (Chk.firstF ((decide ((rf.length:Int)≤16),rn)::((x.services.drop (k+1)).flatMap Chk.countsV++x.sagas.flatMap Chk.countsG))=R):=Lib.hid (by have h:=HI.out;rw [HDk.out,List.flatMap_cons] at h;exact h)
    clear HI
    rw [←HN5.out] at HT0
    have i50:(0:Int)≤(n5:Int):=by omega
    by_cases h16:n5≤16
    case pos =>
     have a1:¬16<n5:=by omega
     have a2:¬(16:Int)<(n5:Int):=by omega
     have HT:Hid (Chk.firstF ((x.services.drop (k+1)).flatMap Chk.countsV++x.sagas.flatMap Chk.countsG)=R):=Lib.hid ((Chk.firstF_t (decide_eq_true (by omega))).symm.trans HT0.out)
     clear HT0
     go_wp2_with fail
     go_roundw
     case rel=>exact ⟨k+1,by omega,by go_num,by first | rfl | trivial,Lib.hid (HT.out)⟩
     case measure=>simp [intOf];omega
    have a1:16<n5:=by omega
    have a2:(16:Int)<(n5:Int):=by omega
    have HE:Hid (R=some rn):=Lib.hid (by rw [←HT0.out];exact Chk.firstF_f (decide_eq_false (by omega)))
    go_wp2_with fail
    go_ret2
    exact ⟨by rw [HE.out];rfl,HL.out.bel⟩
  have hkak:k<x.records.length:=by rw [←HN1.out];exact hlt
  obtain ⟨g1,off1,cs,rfl,-,⟨u,he,HU⟩,hc⟩:=ERow.get H1.out hkak (by omega)
  obtain ⟨r,Hr⟩:∃ r,Hid (x.records[k]=r):=⟨_,Lib.hid rfl⟩
  rw [Hr.out] at he HU
  obtain ⟨rn,rc,rf⟩:=r
  subst he
  simp only at HU hc
  obtain ⟨A5,n5,c5,rfl⟩:=ERow.is HU
  have HN5:Hid (n5=rf.length):=Lib.hid (by obtain ⟨_,_,e,_⟩:=ERow.slice HU;injection e)
  have hm5:n5≤9223372036854775807:=by obtain ⟨_,_,e,_,_⟩:=ERow.slice HU;injection e;omega
  have H5:=Lib.hid HU
  have HDk:Hid (x.records.drop k=⟨rn,rc,rf⟩::x.records.drop (k+1)):=Lib.hid (by rw [List.drop_eq_getElem_cons hkak,Hr.out])
  have b0:=hc 0 _ rfl
  have b1:=hc 1 _ rfl
  have b2:=hc 2 _ rfl
  simp only [Nat.add_zero] at b0
  have hgl1:g1<w.heap.size:=World.block_lt_of_cell? w _ b0
  have b0:=(HL.out.bel.cell hgl1).trans b0
  have b1:=(HL.out.bel.cell hgl1).trans b1
  have b2:=(HL.out.bel.cell hgl1).trans b2
  have i11:(k:Int)<(n1:Int):=by omega
  clear hc HU Hr
  have HT0:Hid (Chk.firstF ((decide ((rf.length:Int)≤16),rn)::((x.records.drop (k+1)).flatMap Chk.countsR++(x.services.flatMap Chk.countsV++x.sagas.flatMap Chk.countsG)))=R):=Lib.hid (by have h:=HI.out;rw [HDk.out,List.flatMap_cons] at h;exact h)
  clear HI
  rw [←HN5.out] at HT0
  have i50:(0:Int)≤(n5:Int):=by omega
  by_cases h16:n5≤16
  case pos =>
   have a1:¬16<n5:=by omega
   have a2:¬(16:Int)<(n5:Int):=by omega
   have HT:Hid (Chk.firstF ((x.records.drop (k+1)).flatMap Chk.countsR++(x.services.flatMap Chk.countsV++x.sagas.flatMap Chk.countsG))=R):=Lib.hid ((Chk.firstF_t (decide_eq_true (by omega))).symm.trans HT0.out)
   clear HT0
   go_wp2_with fail
   go_roundw
   case rel=>exact ⟨k+1,by omega,by go_num,by first | rfl | trivial,Lib.hid (HT.out)⟩
   case measure=>simp [intOf];omega
  have a1:16<n5:=by omega
  have a2:(16:Int)<(n5:Int):=by omega
  have HE:Hid (R=some rn):=Lib.hid (by rw [←HT0.out];exact Chk.firstF_f (decide_eq_false (by omega)))
  go_wp2_with fail
  go_ret2
  exact ⟨by rw [HE.out];rfl,HL.out.bel⟩
set_option maxRecDepth 100000 in
set_option maxHeartbeats 16000000 in
theorem rcheck_any (v:Value) (x:Id.Sch) (hF:Chk.Fine x) (w:World) (hv:Id.SchV w none v x) :
  Calls Tryz.prog 55 #[v] w fun e w'=>e=.returned (Chk.docV (Chk.doc x))∧Below w.heap.size w w':=by
 have HV:=Lib.hid hv
 obtain ⟨A1,n1,c1,A2,n2,c2,A3,n3,c3,rfl,r1,r2,r3⟩:=hv
 have HN1:Hid (n1=x.records.length):=Lib.hid (by obtain ⟨_,_,e,_⟩:=ERow.slice r1;injection e)
 have hm1:n1≤9223372036854775807:=by obtain ⟨_,_,e,_,_⟩:=ERow.slice r1;injection e;omega
 have H1:=Lib.hid r1
 have HN2:Hid (n2=x.services.length):=Lib.hid (by obtain ⟨_,_,e,_⟩:=ERow.slice r2;injection e)
 have hm2:n2≤9223372036854775807:=by obtain ⟨_,_,e,_,_⟩:=ERow.slice r2;injection e;omega
 have H2:=Lib.hid r2
 have HN3:Hid (n3=x.sagas.length):=Lib.hid (by obtain ⟨_,_,e,_⟩:=ERow.slice r3;injection e)
 have hm3:n3≤9223372036854775807:=by obtain ⟨_,_,e,_,_⟩:=ERow.slice r3;injection e;omega
 have H3:=Lib.hid r3
 clear r1 r2 r3
 have HF:=Lib.hid hF
 clear hF
 obtain ⟨R,HR⟩:∃ R,Hid (Chk.firstR (Chk.docR x)=R):=⟨_,Lib.hid rfl⟩
 unfold Chk.doc
 rw [HR.out]
 unfold Chk.docR at HR
 go_enter Tryz.func55,Tryz.ntmps55
 go_upto_region 1 with (fail)
 refine wp_named (fun V hV=>?_)
 have HL:=Lib.hid (Chk.Lx.start hV)
 clear hV
 obtain ⟨⟨q0,q1,q2,q3⟩,-⟩:=HL.out.box.k4
 have HRR:=HR
 clear HR
 obtain ⟨o,Ho⟩:∃ o,Hid (Chk.firstF (Chk.namesT x)=o):=⟨_,Lib.hid rfl⟩
 have HRo:Hid (Chk.firstR ((o,120)::[(Chk.firstF (Chk.countsT x),135),(Chk.firstF (Chk.doublesT x),130),(Chk.firstF (x.records.flatMap (Chk.typesR x)),131),(Chk.firstF (x.services.flatMap Chk.typesV),131),(Chk.firstF (Chk.botD x.records (Chk.lvI x.records (x.records.length+2))),132),(Chk.firstF (Chk.effectsT x),134),(Chk.firstF (Chk.undosD x),133),(Chk.firstF (Chk.sagasT x),240),(Chk.firstF (Chk.stepsT x),241),(Chk.firstF (Chk.waysT x),133)])=R):=Lib.hid (by rw [←Ho.out];exact HRR.out)
 clear HRR
 go_wp2_with fail
 refine (rnames_any _ x _ (Id.SchV.below HL.out.bel HV.out)).mono ?_
 rw [Ho.out]
 unfold Chk.ansV
 rintro e W1 ⟨rfl,hb⟩
 have HLx:=Lib.hid (HL.out.below hb)
 clear HL hb q0 q1 q2 q3
 have HL:=HLx
 clear HLx
 obtain ⟨⟨q0,q1,q2,q3⟩,-⟩:=HL.out.box.k4
 cases o
 case some s =>
  have HE:Hid (R=(s,120)):=Lib.hid HRo.out.symm
  simp only [Option.getD_some,Option.isNone_some]
  go_wp2_with fail
  go_ret2
  exact ⟨by rw [HE.out];rfl,HL.out.bel⟩
 have HRR:Hid (Chk.firstR [(Chk.firstF (Chk.countsT x),135),(Chk.firstF (Chk.doublesT x),130),(Chk.firstF (x.records.flatMap (Chk.typesR x)),131),(Chk.firstF (x.services.flatMap Chk.typesV),131),(Chk.firstF (Chk.botD x.records (Chk.lvI x.records (x.records.length+2))),132),(Chk.firstF (Chk.effectsT x),134),(Chk.firstF (Chk.undosD x),133),(Chk.firstF (Chk.sagasT x),240),(Chk.firstF (Chk.stepsT x),241),(Chk.firstF (Chk.waysT x),133)]=R):=HRo
 clear HRo Ho
 simp only [Option.getD_none,Option.isNone_none]
 obtain ⟨o,Ho⟩:∃ o,Hid (Chk.firstF (Chk.countsT x)=o):=⟨_,Lib.hid rfl⟩
 have HRo:Hid (Chk.firstR ((o,135)::[(Chk.firstF (Chk.doublesT x),130),(Chk.firstF (x.records.flatMap (Chk.typesR x)),131),(Chk.firstF (x.services.flatMap Chk.typesV),131),(Chk.firstF (Chk.botD x.records (Chk.lvI x.records (x.records.length+2))),132),(Chk.firstF (Chk.effectsT x),134),(Chk.firstF (Chk.undosD x),133),(Chk.firstF (Chk.sagasT x),240),(Chk.firstF (Chk.stepsT x),241),(Chk.firstF (Chk.waysT x),133)])=R):=Lib.hid (by rw [←Ho.out];exact HRR.out)
 clear HRR
 go_wp2_with fail
 refine (rcounts_any _ x _ (Id.SchV.below HL.out.bel HV.out)).mono ?_
 rw [Ho.out]
 unfold Chk.ansV
 rintro e W2 ⟨rfl,hb⟩
 have HLx:=Lib.hid (HL.out.below hb)
 clear HL hb q0 q1 q2 q3
 have HL:=HLx
 clear HLx
 obtain ⟨⟨q0,q1,q2,q3⟩,-⟩:=HL.out.box.k4
 cases o
 case some s =>
  have HE:Hid (R=(s,135)):=Lib.hid HRo.out.symm
  simp only [Option.getD_some,Option.isNone_some]
  go_wp2_with fail
  go_ret2
  exact ⟨by rw [HE.out];rfl,HL.out.bel⟩
 have HRR:Hid (Chk.firstR [(Chk.firstF (Chk.doublesT x),130),(Chk.firstF (x.records.flatMap (Chk.typesR x)),131),(Chk.firstF (x.services.flatMap Chk.typesV),131),(Chk.firstF (Chk.botD x.records (Chk.lvI x.records (x.records.length+2))),132),(Chk.firstF (Chk.effectsT x),134),(Chk.firstF (Chk.undosD x),133),(Chk.firstF (Chk.sagasT x),240),(Chk.firstF (Chk.stepsT x),241),(Chk.firstF (Chk.waysT x),133)]=R):=HRo
 clear HRo Ho
 simp only [Option.getD_none,Option.isNone_none]
 obtain ⟨o,Ho⟩:∃ o,Hid (Chk.firstF (Chk.doublesT x)=o):=⟨_,Lib.hid rfl⟩
 have HRo:Hid (Chk.firstR ((o,130)::[(Chk.firstF (x.records.flatMap (Chk.typesR x)),131),(Chk.firstF (x.services.flatMap Chk.typesV),131),(Chk.firstF (Chk.botD x.records (Chk.lvI x.records (x.records.length+2))),132),(Chk.firstF (Chk.effectsT x),134),(Chk.firstF (Chk.undosD x),133),(Chk.firstF (Chk.sagasT x),240),(Chk.firstF (Chk.stepsT x),241),(Chk.firstF (Chk.waysT x),133)])=R):=Lib.hid (by rw [←Ho.out];exact HRR.out)
 clear HRR
 go_wp2_with fail
 refine (rdoubles_any _ x HF.out _ (Id.SchV.below HL.out.bel HV.out)).mono ?_
 rw [Ho.out]
 unfold Chk.ansV
 rintro e W3 ⟨rfl,hb⟩
 have HLx:=Lib.hid (HL.out.below hb)
 clear HL hb q0 q1 q2 q3
 have HL:=HLx
 clear HLx
 obtain ⟨⟨q0,q1,q2,q3⟩,-⟩:=HL.out.box.k4
 cases o
 case some s =>
  have HE:Hid (R=(s,130)):=Lib.hid HRo.out.symm
  simp only [Option.getD_some,Option.isNone_some]
  go_wp2_with fail
  go_ret2
  exact ⟨by rw [HE.out];rfl,HL.out.bel⟩
 have HRR:Hid (Chk.firstR [(Chk.firstF (x.records.flatMap (Chk.typesR x)),131),(Chk.firstF (x.services.flatMap Chk.typesV),131),(Chk.firstF (Chk.botD x.records (Chk.lvI x.records (x.records.length+2))),132),(Chk.firstF (Chk.effectsT x),134),(Chk.firstF (Chk.undosD x),133),(Chk.firstF (Chk.sagasT x),240),(Chk.firstF (Chk.stepsT x),241),(Chk.firstF (Chk.waysT x),133)]=R):=HRo
 clear HRo Ho
 simp only [Option.getD_none,Option.isNone_none]
 obtain ⟨o,Ho⟩:∃ o,Hid (Chk.firstF (x.records.flatMap (Chk.typesR x))=o):=⟨_,Lib.hid rfl⟩
 have HRo:Hid (Chk.firstR ((o,131)::[(Chk.firstF (x.services.flatMap Chk.typesV),131),(Chk.firstF (Chk.botD x.records (Chk.lvI x.records (x.records.length+2))),132),(Chk.firstF (Chk.effectsT x),134),(Chk.firstF (Chk.undosD x),133),(Chk.firstF (Chk.sagasT x),240),(Chk.firstF (Chk.stepsT x),241),(Chk.firstF (Chk.waysT x),133)])=R):=Lib.hid (by rw [←Ho.out];exact HRR.out)
 clear HRR
 go_wp2_with fail
 refine (rrecords4_any _ x HF.out _ (Id.SchV.below HL.out.bel HV.out)).mono ?_
 rw [Ho.out]
 unfold Chk.ansV
 rintro e W4 ⟨rfl,hb⟩
 have HLx:=Lib.hid (HL.out.below hb)
 clear HL hb q0 q1 q2 q3
 have HL:=HLx
 clear HLx
 obtain ⟨⟨q0,q1,q2,q3⟩,-⟩:=HL.out.box.k4
 cases o
 case some s =>
  have HE:Hid (R=(s,131)):=Lib.hid HRo.out.symm
  simp only [Option.getD_some,Option.isNone_some]
  go_wp2_with fail
  go_ret2
  exact ⟨by rw [HE.out];rfl,HL.out.bel⟩
 have HRR:Hid (Chk.firstR [(Chk.firstF (x.services.flatMap Chk.typesV),131),(Chk.firstF (Chk.botD x.records (Chk.lvI x.records (x.records.length+2))),132),(Chk.firstF (Chk.effectsT x),134),(Chk.firstF (Chk.undosD x),133),(Chk.firstF (Chk.sagasT x),240),(Chk.firstF (Chk.stepsT x),241),(Chk.firstF (Chk.waysT x),133)]=R):=HRo
 clear HRo Ho
 simp only [Option.getD_none,Option.isNone_none]
 obtain ⟨o,Ho⟩:∃ o,Hid (Chk.firstF (x.services.flatMap Chk.typesV)=o):=⟨_,Lib.hid rfl⟩
 have HRo:Hid (Chk.firstR ((o,131)::[(Chk.firstF (Chk.botD x.records (Chk.lvI x.records (x.records.length+2))),132),(Chk.firstF (Chk.effectsT x),134),(Chk.firstF (Chk.undosD x),133),(Chk.firstF (Chk.sagasT x),240),(Chk.firstF (Chk.stepsT x),241),(Chk.firstF (Chk.waysT x),133)])=R):=Lib.hid (by rw [←Ho.out];exact HRR.out)
 clear HRR
 go_wp2_with fail
 refine (rmethods4_any _ x HF.out _ (Id.SchV.below HL.out.bel HV.out)).mono ?_
 rw [Ho.out]
 unfold Chk.ansV
 rintro e W5 ⟨rfl,hb⟩
 have HLx:=Lib.hid (HL.out.below hb)
 clear HL hb q0 q1 q2 q3
 have HL:=HLx
 clear HLx
 obtain ⟨⟨q0,q1,q2,q3⟩,-⟩:=HL.out.box.k4
 cases o
 case some s =>
  have HE:Hid (R=(s,131)):=Lib.hid HRo.out.symm
  simp only [Option.getD_some,Option.isNone_some]
  go_wp2_with fail
  go_ret2
  exact ⟨by rw [HE.out];rfl,HL.out.bel⟩
 have HRR:Hid (Chk.firstR [(Chk.firstF (Chk.botD x.records (Chk.lvI x.records (x.records.length+2))),132),(Chk.firstF (Chk.effectsT x),134),(Chk.firstF (Chk.undosD x),133),(Chk.firstF (Chk.sagasT x),240),(Chk.firstF (Chk.stepsT x),241),(Chk.firstF (Chk.waysT x),133)]=R):=HRo
 clear HRo Ho
 simp only [Option.getD_none,Option.isNone_none]
 obtain ⟨o,Ho⟩:∃ o,Hid (Chk.firstF (Chk.botD x.records (Chk.lvI x.records (x.records.length+2)))=o):=⟨_,Lib.hid rfl⟩
 have HRo:Hid (Chk.firstR ((o,132)::[(Chk.firstF (Chk.effectsT x),134),(Chk.firstF (Chk.undosD x),133),(Chk.firstF (Chk.sagasT x),240),(Chk.firstF (Chk.stepsT x),241),(Chk.firstF (Chk.waysT x),133)])=R):=Lib.hid (by rw [←Ho.out];exact HRR.out)
 clear HRR
 go_wp2_with fail
 refine (rrecords5_any _ x HF.out _ (Id.SchV.below HL.out.bel HV.out)).mono ?_
 rw [Ho.out]
 unfold Chk.ansV
 rintro e W6 ⟨rfl,hb⟩
 have HLx:=Lib.hid (HL.out.below hb)
 clear HL hb q0 q1 q2 q3
 have HL:=HLx
 clear HLx
 obtain ⟨⟨q0,q1,q2,q3⟩,-⟩:=HL.out.box.k4
 cases o
 case some s =>
  have HE:Hid (R=(s,132)):=Lib.hid HRo.out.symm
  simp only [Option.getD_some,Option.isNone_some]
  go_wp2_with fail
  go_ret2
  exact ⟨by rw [HE.out];rfl,HL.out.bel⟩
 have HRR:Hid (Chk.firstR [(Chk.firstF (Chk.effectsT x),134),(Chk.firstF (Chk.undosD x),133),(Chk.firstF (Chk.sagasT x),240),(Chk.firstF (Chk.stepsT x),241),(Chk.firstF (Chk.waysT x),133)]=R):=HRo
 clear HRo Ho
 simp only [Option.getD_none,Option.isNone_none]
 obtain ⟨o,Ho⟩:∃ o,Hid (Chk.firstF (Chk.effectsT x)=o):=⟨_,Lib.hid rfl⟩
 have HRo:Hid (Chk.firstR ((o,134)::[(Chk.firstF (Chk.undosD x),133),(Chk.firstF (Chk.sagasT x),240),(Chk.firstF (Chk.stepsT x),241),(Chk.firstF (Chk.waysT x),133)])=R):=Lib.hid (by rw [←Ho.out];exact HRR.out)
 clear HRR
 go_wp2_with fail
 refine (rmethods6_any _ x HF.out _ (Id.SchV.below HL.out.bel HV.out)).mono ?_
 rw [Ho.out]
 unfold Chk.ansV
 rintro e W7 ⟨rfl,hb⟩
 have HLx:=Lib.hid (HL.out.below hb)
 clear HL hb q0 q1 q2 q3
 have HL:=HLx
 clear HLx
 obtain ⟨⟨q0,q1,q2,q3⟩,-⟩:=HL.out.box.k4
 cases o
 case some s =>
  have HE:Hid (R=(s,134)):=Lib.hid HRo.out.symm
  simp only [Option.getD_some,Option.isNone_some]
  go_wp2_with fail
  go_ret2
  exact ⟨by rw [HE.out];rfl,HL.out.bel⟩
 have HRR:Hid (Chk.firstR [(Chk.firstF (Chk.undosD x),133),(Chk.firstF (Chk.sagasT x),240),(Chk.firstF (Chk.stepsT x),241),(Chk.firstF (Chk.waysT x),133)]=R):=HRo
 clear HRo Ho
 simp only [Option.getD_none,Option.isNone_none]
 obtain ⟨o,Ho⟩:∃ o,Hid (Chk.firstF (Chk.undosD x)=o):=⟨_,Lib.hid rfl⟩
 have HRo:Hid (Chk.firstR ((o,133)::[(Chk.firstF (Chk.sagasT x),240),(Chk.firstF (Chk.stepsT x),241),(Chk.firstF (Chk.waysT x),133)])=R):=Lib.hid (by rw [←Ho.out];exact HRR.out)
 clear HRR
 go_wp2_with fail
 refine (rmethods7_any _ x HF.out _ (Id.SchV.below HL.out.bel HV.out)).mono ?_
 rw [Ho.out]
 unfold Chk.ansV
 rintro e W8 ⟨rfl,hb⟩
 have HLx:=Lib.hid (HL.out.below hb)
 clear HL hb q0 q1 q2 q3
 have HL:=HLx
 clear HLx
 obtain ⟨⟨q0,q1,q2,q3⟩,-⟩:=HL.out.box.k4
 cases o
 case some s =>
  have HE:Hid (R=(s,133)):=Lib.hid HRo.out.symm
  simp only [Option.getD_some,Option.isNone_some]
  go_wp2_with fail
  go_ret2
  exact ⟨by rw [HE.out];rfl,HL.out.bel⟩
 have HRR:Hid (Chk.firstR [(Chk.firstF (Chk.sagasT x),240),(Chk.firstF (Chk.stepsT x),241),(Chk.firstF (Chk.waysT x),133)]=R):=HRo
 clear HRo Ho
 simp only [Option.getD_none,Option.isNone_none]
 go_wp2_with fail
 have HR2:Hid (Chk.firstR ((Chk.firstF ((x.sagas.drop 0).flatMap fun g=>[(Chk.order x g.arg,g.name)]),240)::[(Chk.firstF (Chk.stepsT x),241),(Chk.firstF (Chk.waysT x),133)])=R):=HRR
 clear HRR
 go_loopw [6] (fun i wr=>∃ (k:Nat),k≤n3∧i=.int .i64 k∧Hid (Chk.firstR ((Chk.firstF ((x.sagas.drop k).flatMap fun g=>[(Chk.order x g.arg,g.name)]),240)::[(Chk.firstF (Chk.stepsT x),241),(Chk.firstF (Chk.waysT x),133)])=R)∧Hid (Chk.Lx w wr #[.string x.name,.slice A1 n1 c1,.slice A2 n2 c2,.slice A3 n3 c3])) (fun i _=>n3 - (intOf i).toNat)
 case atStart=>exact ⟨0,by omega,rfl,HR2,HL⟩
 case round =>
  clear HR2 HL q0 q1 q2 q3
  obtain ⟨k,hk,rfl,HI,HL⟩:=hrel
  obtain ⟨V1,rfl⟩:∃ w',w'=wr:=⟨_,rfl⟩
  have ik0:(0:Int)≤(k:Int):=by omega
  obtain ⟨⟨q0,q1,q2,q3⟩,-⟩:=HL.out.box.k4
  by_cases hlt:k<n3
  case pos =>
   have hkak:k<x.sagas.length:=by rw [←HN3.out];exact hlt
   obtain ⟨g1,off1,cs,rfl,-,⟨u,he,HU⟩,hc⟩:=ERow.get H3.out hkak (by omega)
   obtain ⟨r,Hr⟩:∃ r,Hid (x.sagas[k]=r):=⟨_,Lib.hid rfl⟩
   rw [Hr.out] at he HU
   obtain ⟨rn,ra,rf⟩:=r
   subst he
   simp only at HU hc
   obtain ⟨A5,n5,c5,rfl⟩:=ERow.is HU
   have HN5:Hid (n5=rf.length):=Lib.hid (by obtain ⟨_,_,e,_⟩:=ERow.slice HU;injection e)
   have hm5:n5≤9223372036854775807:=by obtain ⟨_,_,e,_,_⟩:=ERow.slice HU;injection e;omega
   have H5:=Lib.hid HU
   have HDk:Hid (x.sagas.drop k=⟨rn,ra,rf⟩::x.sagas.drop (k+1)):=Lib.hid (by rw [List.drop_eq_getElem_cons hkak,Hr.out])
   have b0:=hc 0 _ rfl
   have b1:=hc 1 _ rfl
   have b2:=hc 2 _ rfl
   simp only [Nat.add_zero] at b0
   have hgl1:g1<w.heap.size:=World.block_lt_of_cell? w _ b0
   have b0:=(HL.out.bel.cell hgl1).trans b0
   have b1:=(HL.out.bel.cell hgl1).trans b1
   have b2:=(HL.out.bel.cell hgl1).trans b2
   have i11:(k:Int)<(n3:Int):=by omega
   clear hc HU Hr
   obtain ⟨T,HT⟩:∃ T,Hid (Chk.order x ra=T):=⟨_,Lib.hid rfl⟩
   have HI1:Hid (Chk.firstR ((Chk.firstF ((T,rn)::((x.sagas.drop (k+1)).flatMap fun g=>[(Chk.order x g.arg,g.name)])),240)::[(Chk.firstF (Chk.stepsT x),241),(Chk.firstF (Chk.waysT x),133)])=R):=Lib.hid (by have h:=HI.out;rw [HDk.out,List.flatMap_cons] at h;rw [←HT.out];exact h)
   clear HI
   have dS:∀ w',Bl V1 w'→Bk w' w.heap.size 33 #[.string x.name,.slice A1 n1 c1,.slice A2 n2 c2,.slice (some ⟨g1,off1,none⟩) n3 c3]:=fun w' hb=>HL.out.box.below hb HL.out.box.lt
   have dQ3:=fun (w':World) (hb:Bl V1 w')=>(Bk.k4 (HL.out.box.below hb HL.out.box.lt)).1.2.2.2
   have dA1:∀ w',Bl V1 w'→w'.cell? _=_:=fun w' hb=>(hb.cell (Nat.lt_of_lt_of_le hgl1 HL.out.bel.size)).trans b1
   have HVV:=Lib.hid (Id.SchV.below HL.out.bel HV.out)
   have hcall:∀ W,Bl V1 W→Calls Tryz.prog 88 #[.agg #[.string x.name,.slice A1 n1 c1,.slice A2 n2 c2,.slice (some ⟨g1,off1,none⟩) n3 c3],.string ra] W fun e w'=>e=.returned (.bool T)∧Bl V1 w':=fun W hW=>by have h:=calls_bl hW (rorder_any _ x ra W (Id.SchV.below hW HVV.out));rw [HT.out] at h;exact h
   have HC:=Lib.hid hcall
   clear hcall
   go_wp2_with fail
   clear b0 b1 b2 q0 q1 q2 q3
   refine wp_region_bl V1 (by kernel_rfl) (by kernel_rfl) (Bl.refl _) ?_
   repeat (first | go_big_quiet_step ((intro hb;exact HC.out _ hb)) | (refine wpQuiet_step (fun K hK=>?_);rw [if_pos (by rfl)];refine quiet_load_row _ _ rfl _ rfl _ _ _ (by assumption) Tryz.underlying33 rfl (by kernel_rfl) ?_;go_simp;refine hK _ ?_;clear hK K) | (refine wpQuiet_step (fun K hK=>?_);rw [if_pos (by rfl)];refine Lst.load_cell _ _ rfl _ rfl _ (by assumption) _ Tryz.underlying31 rfl ?_;go_simp;refine hK _ ?_;clear hK K) | (refine wpQuiet_step (fun K hK=>?_);rw [if_pos (by rfl)];refine Lst.load_cell _ _ rfl _ rfl _ (by assumption) _ Tryz.underlying9 rfl ?_;go_simp;refine hK _ ?_;clear hK K) | (refine wpQuiet_step (fun K hK=>?_);go_simp;refine ⟨_,fun _ _=>rfl,hK _ ?_⟩;clear hK K))
   refine wpQuiet_nil ?_
   intro w9 hw9
   clear dS dQ3 dA1
   have HLx:=Lib.hid (HL.out.below hw9)
   cases T
   case false =>
    have HE:Hid (R=(rn,240)):=Lib.hid HI1.out.symm
    obtain ⟨g9,off9,cs,e9,-,⟨u9,he9,-⟩,hc9⟩:=ERow.get H3.out hkak (by omega)
    injection e9 with e9
    injection e9 with e9 e8
    subst e9 e8
    rw [getElem_of_drop hkak HDk.out] at he9
    subst he9
    have b0:=hc9 0 _ rfl
    simp only [Nat.add_zero] at b0
    have b0:=(HLx.out.bel.cell hgl1).trans b0
    obtain ⟨⟨q0,q1,q2,q3⟩,-⟩:=HLx.out.box.k4
    clear hc9
    go_wp2_with fail
    go_ret2
    exact ⟨by rw [HE.out];rfl,HLx.out.bel⟩
   have HI2:Hid (Chk.firstR ((Chk.firstF ((x.sagas.drop (k+1)).flatMap fun g=>[(Chk.order x g.arg,g.name)]),240)::[(Chk.firstF (Chk.stepsT x),241),(Chk.firstF (Chk.waysT x),133)])=R):=HI1
   go_wp2_with fail
   go_roundw
   case rel=>exact ⟨k+1,by omega,by go_num,HI2,HLx⟩
   case measure=>simp [intOf] <;> omega
  have HRR:Hid (Chk.firstR [(Chk.firstF (Chk.stepsT x),241),(Chk.firstF (Chk.waysT x),133)]=R):=Lib.hid (by have h:=HI.out;rw [List.drop_of_length_le (by have:=HN3.out;omega)] at h;exact h)
  clear HI
  obtain ⟨o,Ho⟩:∃ o,Hid (Chk.firstF (Chk.stepsT x)=o):=⟨_,Lib.hid rfl⟩
  have HRo:Hid (Chk.firstR ((o,241)::[(Chk.firstF (Chk.waysT x),133)])=R):=Lib.hid (by rw [←Ho.out];exact HRR.out)
  clear HRR
  go_wp2_with fail
  refine (rsteps9_any _ x HF.out _ (Id.SchV.below HL.out.bel HV.out)).mono ?_
  rw [Ho.out]
  unfold Chk.ansV
  rintro e W10 ⟨rfl,hb⟩
  have HLx:=Lib.hid (HL.out.below hb)
  clear HL hb q0 q1 q2 q3
  have HL:=HLx
  clear HLx
  obtain ⟨⟨q0,q1,q2,q3⟩,-⟩:=HL.out.box.k4
  cases o
  case some s =>
   have HE:Hid (R=(s,241)):=Lib.hid HRo.out.symm
   simp only [Option.getD_some,Option.isNone_some]
   go_wp2_with fail
   go_ret2
   exact ⟨by rw [HE.out];rfl,HL.out.bel⟩
  have HRR:Hid (Chk.firstR [(Chk.firstF (Chk.waysT x),133)]=R):=HRo
  clear HRo Ho
  simp only [Option.getD_none,Option.isNone_none]
  obtain ⟨o,Ho⟩:∃ o,Hid (Chk.firstF (Chk.waysT x)=o):=⟨_,Lib.hid rfl⟩
  have HRo:Hid (Chk.firstR ((o,133)::[])=R):=Lib.hid (by rw [←Ho.out];exact HRR.out)
  clear HRR
  go_wp2_with fail
  refine (rsteps10_any _ x HF.out _ (Id.SchV.below HL.out.bel HV.out)).mono ?_
  rw [Ho.out]
  unfold Chk.ansV
  rintro e W11 ⟨rfl,hb⟩
  have HLx:=Lib.hid (HL.out.below hb)
  clear HL hb q0 q1 q2 q3
  have HL:=HLx
  clear HLx
  obtain ⟨⟨q0,q1,q2,q3⟩,-⟩:=HL.out.box.k4
  cases o
  case some s =>
   have HE:Hid (R=(s,133)):=Lib.hid HRo.out.symm
   simp only [Option.getD_some,Option.isNone_some]
   go_wp2_with fail
   go_ret2
   exact ⟨by rw [HE.out];rfl,HL.out.bel⟩
  have HRR:Hid (Chk.firstR []=R):=HRo
  clear HRo Ho
  simp only [Option.getD_none,Option.isNone_none]
  have HE:Hid (R=(⟨#[]⟩,0)):=Lib.hid HRR.out.symm
  go_wp2_with fail
  go_ret2
  exact ⟨by rw [HE.out];rfl,HL.out.bel⟩
end Go.Proofs.YtlbihaikppkecaaGreatDoor
set_option linter.unusedVariables false
set_option linter.unusedSimpArgs false
namespace Go.Proofs.YtlbihaikppkecaaGreatDoor
open Go.RowKit Go.BigFrame
set_option maxRecDepth 100000 in
set_option maxHeartbeats 4000000 in
theorem rnum14_any (n:Nat) (hn:n<100) (w:World) :
  Calls Tryz.prog 58 #[.int .i64 n] w fun e w'=>e=.returned (.string ⟨(Lib.decDigits n).toArray⟩)∧Below w.heap.size w w':=by
 have i0:(0:Int)≤(n:Int):=by omega
 have i1:(n:Int)<100:=by omega
 have hrun0:=run_dig (n % 10) (by omega) w
 have e0:48+((n % 10:Nat):Int)=48+(n:Int) % 10:=by omega
 rw [e0] at hrun0
 obtain ⟨c0,Hc0⟩:∃ c,Hid (UInt8.ofNat (48+n % 10)=c):=⟨_,Lib.hid rfl⟩
 rw [Hc0.out] at hrun0
 clear e0
 go_enter Tryz.func58,Tryz.ntmps58
 go_wp2_with fail
 clear hrun0
 go_loopw [0,3] (fun z b wr=>∃ (m:Nat) (S:ByteArray),m<100∧z=.int .i64 m∧b=.string S∧S.size≤2∧Hid ((if m<10 then [] else Lib.decDigits (m / 10))++S.data.toList=Lib.decDigits n)∧Below w.heap.size w wr) (fun z _ _=>(intOf z).toNat)
 case atStart=>exact ⟨n,_,hn,rfl,rfl,show 1≤2 by decide,Lib.hid (by rw [dig_split n,Hc0.out]),by first | exact (Below.refl _ _).alloc (Nat.le_refl _) _⟩
 case round =>
  obtain ⟨m,S,hm,rfl,rfl,hS,HP,hb⟩:=hrel
  obtain ⟨W1,rfl⟩:∃ w',w'=wr:=⟨_,rfl⟩
  have j0:(0:Int)≤(m:Int):=by omega
  have j1:(m:Int)<100:=by omega
  have hz:=hb.size
  by_cases h9:9<m
  case neg =>
   have HE:Hid (S=⟨(Lib.decDigits n).toArray⟩):=Lib.hid (by
    have h:=HP.out
    rw [if_pos (by omega),List.nil_append] at h
    rw [←h])
   have j2:¬(9:Int)<(m:Int):=by omega
   go_wp2_with fail
   go_ret
   exact ⟨by rw [HE.out];rfl,hb⟩
  have j2:(9:Int)<(m:Int):=by omega
  have hrun1:=run_dig (m / 10 % 10) (by omega) W1
  have e1:48+((m / 10 % 10:Nat):Int)=48+(m:Int) / 10 % 10:=by omega
  rw [e1] at hrun1
  obtain ⟨c1,Hc1⟩:∃ c,Hid (UInt8.ofNat (48+m / 10 % 10)=c):=⟨_,Lib.hid rfl⟩
  rw [Hc1.out] at hrun1
  clear e1
  have hsz:(9223372036854775807<(⟨#[c1]⟩:ByteArray).size+S.size)=False:=by
   rw [show (⟨#[c1]⟩:ByteArray).size=1 from rfl]
   simp
   omega
  have hsz2:(9223372036854775807<1+S.size)=False:=by simp;omega
  have HP2:Hid ((if m / 10<10 then [] else Lib.decDigits (m / 10 / 10))++((⟨#[c1]⟩:ByteArray)++S).data.toList=Lib.decDigits n):=Lib.hid (by
   have h:=HP.out
   rw [if_neg (by omega),dig_split (m / 10),Hc1.out] at h
   rw [←h]
   simp)
  have hS2:((⟨#[c1]⟩:ByteArray)++S).size≤2:=by
   have h:=congrArg List.length HP2.out
   rw [List.length_append] at h
   have:=digits_two hn
   simp only [ByteArray.size] at *
   simp at h ⊢
   omega
  have e2:((m / 10:Nat):Int)=(m:Int) / 10:=by omega
  have HP3:=HP2
  clear HP2 HP
  go_wp2_with fail
  go_roundw
  case rel=>exact ⟨m / 10,_,by omega,by rw [e2],rfl,hS2,HP3,hb.alloc hz _⟩
  case measure=>simp [intOf] <;> omega
set_option maxRecDepth 100000 in
set_option maxHeartbeats 4000000 in
theorem rword_any (k:Nat) (nm:ByteArray) (w:World) :
  Calls Tryz.prog 57 #[.agg #[.int .u8 k,.string nm]] w fun e w'=>e=.returned (.string (Prn.sortW ⟨k,nm⟩))∧Below w.heap.size w w':=by
 have hb:=(Below.refl w.heap.size w).alloc (Nat.le_refl _) (.cells #[.int .u8 k,.string nm] 59)
 by_cases h1:k=1
 ·subst h1
  go_enter Tryz.func57,Tryz.ntmps57
  go_wp2_with fail
  go_ret
  exact ⟨rfl,hb⟩
 have t1:((k:Int)==1)=false:=by rw [beq_eq_false_iff_ne];omega
 by_cases h2:k=2
 ·subst h2
  go_enter Tryz.func57,Tryz.ntmps57
  go_wp2_with fail
  go_ret
  exact ⟨rfl,hb⟩
 have t2:((k:Int)==2)=false:=by rw [beq_eq_false_iff_ne];omega
 by_cases h3:k=3
 ·subst h3
  go_enter Tryz.func57,Tryz.ntmps57
  go_wp2_with fail
  go_ret
  exact ⟨rfl,hb⟩
 have t3:((k:Int)==3)=false:=by rw [beq_eq_false_iff_ne];omega
 by_cases h4:k=4
 ·subst h4
  go_enter Tryz.func57,Tryz.ntmps57
  go_wp2_with fail
  go_ret
  exact ⟨rfl,hb⟩
 have t4:((k:Int)==4)=false:=by rw [beq_eq_false_iff_ne];omega
 by_cases h5:k=5
 ·subst h5
  go_enter Tryz.func57,Tryz.ntmps57
  go_wp2_with fail
  go_ret
  exact ⟨rfl,hb⟩
 have t5:((k:Int)==5)=false:=by rw [beq_eq_false_iff_ne];omega
 by_cases h6:k=6
 ·subst h6
  go_enter Tryz.func57,Tryz.ntmps57
  go_wp2_with fail
  go_ret
  exact ⟨rfl,hb⟩
 have t6:((k:Int)==6)=false:=by rw [beq_eq_false_iff_ne];omega
 have HE:Hid (Prn.sortW ⟨k,nm⟩=nm):=Lib.hid (by unfold Prn.sortW;simp only [h1,h2,h3,h4,h5,h6,if_false])
 clear h1 h2 h3 h4 h5 h6
 go_enter Tryz.func57,Tryz.ntmps57
 go_wp2_with fail
 go_ret
 exact ⟨by rw [HE.out];rfl,hb⟩
namespace Prn
open Go.Proofs.YtlbihaikppkecaaGreatDoor.Id Go.Proofs.YtlbihaikppkecaaGreatDoor.Chk
def spL (t:List Srt):List UInt8:=t.flatMap fun x=>(sortW x).data.toList++[32]
def spB (t:List Srt):ByteArray:=⟨(spL t).toArray⟩
def ext (ws:List ByteArray):List UInt8:=ws.flatMap fun u=>32::u.data.toList
theorem ext_app (a b:List ByteArray):ext (a++b)=ext a++ext b:=by simp [ext]
theorem ext_cons (a:ByteArray) (b:List ByteArray):ext (a::b)=32::a.data.toList++ext b:=rfl
theorem ext_sorts (t:List Srt):ext (t.map sortW)++[32]=32::spL t:=by
 unfold ext spL
 induction t with
 | nil=>rfl
 | cons x t ih =>
  rw [List.map_cons,List.flatMap_cons,List.flatMap_cons,List.append_assoc,ih]
  simp
theorem sz_le {T:ByteArray} {m:List UInt8} {F:List UInt8} (h:T.data.toList++m=F):T.size+m.length=F.length:=by
 rw [←h,List.length_append]
 simp
end Prn
theorem toL (a b:ByteArray):(a++b).data.toList=a.data.toList++b.data.toList:=by simp
set_option maxRecDepth 100000 in
set_option maxHeartbeats 4000000 in
theorem rwords14_any (v:Value) (t:List Id.Srt) (h12:t.length≤1000) (hsz:∀ x∈t,(Prn.sortW x).size≤1000) (w:World) (hv:Id.SortsR w none v t) :
  Calls Tryz.prog 56 #[v] w fun e w'=>e=.returned (.string (Prn.spB t))∧Below w.heap.size w w':=by
 obtain ⟨A,n,c,rfl⟩:=ERow.is hv
 have HN:Hid (n=t.length):=Lib.hid (by obtain ⟨_,_,e,_⟩:=ERow.slice hv;injection e)
 have hn:n≤1000:=by rw [HN.out];exact h12
 have HV:=Lib.hid hv
 have HZ:=Lib.hid hsz
 clear hv hsz h12
 go_enter Tryz.func56,Tryz.ntmps56
 go_wp2_with fail
 go_loopw [4,3] (fun i s wr=>∃ (k:Nat) (S:ByteArray),k≤n∧i=.int .i64 k∧.string S=s∧S.size≤k * 1001∧Hid (S.data.toList=Prn.spL (t.take k))∧Hid (Below w.heap.size w wr)) (fun i _ _=>n - (intOf i).toNat)
 case atStart=>exact ⟨0,⟨#[]⟩,by omega,rfl,rfl,Nat.zero_le _,Lib.hid rfl,Lib.hid (Below.refl _ _)⟩
 case round =>
  obtain ⟨k,S,hk,rfl,rfl,hS,HS,HB⟩:=hrel
  obtain ⟨V,rfl⟩:∃ w',w'=wr:=⟨_,rfl⟩
  have ik0:(0:Int)≤(k:Int):=by omega
  by_cases hlt:k<n
  case neg =>
   have HE:Hid (S=Prn.spB t):=Lib.hid (by
    have h:=HS.out
    rw [List.take_of_length_le (by have:=HN.out;omega)] at h
    unfold Prn.spB
    rw [←h])
   go_wp2_with fail
   go_ret
   exact ⟨by rw [HE.out];rfl,HB.out⟩
  have hka:k<t.length:=by rw [←HN.out];exact hlt
  obtain ⟨g,off,cs,rfl,-,e1,hc⟩:=ERow.get HV.out hka (by omega)
  have hz:=HZ.out _ (List.getElem_mem hka)
  have HTK:Hid (Prn.spL (t.take (k+1))=Prn.spL (t.take k)++((Prn.sortW t[k]).data.toList++[32])):=Lib.hid (by
   unfold Prn.spL
   rw [List.take_succ_eq_append_getElem hka,List.flatMap_append]
   simp)
  obtain ⟨⟨xk,xn⟩,Hx⟩:∃ y,Hid (t[k]=y):=⟨_,Lib.hid rfl⟩
  rw [Hx.out] at e1 hz HTK
  unfold Id.SortE Id.Srt.cells at e1
  subst e1
  have a0:=hc 0 _ rfl
  have a1:=hc 1 _ rfl
  simp only [Nat.add_zero] at a0
  have hgl:g<w.heap.size:=World.block_lt_of_cell? w _ a0
  have a0:=(HB.out.cell hgl).trans a0
  have a1:=(HB.out.cell hgl).trans a1
  have ik1:(k:Int)<(n:Int):=by omega
  obtain ⟨wd,HW⟩:∃ wd,Hid (Prn.sortW ⟨xk,xn⟩=wd):=⟨_,Lib.hid rfl⟩
  rw [HW.out] at hz HTK
  have hk3:k * 1001≤1000 * 1001:=Nat.mul_le_mul_right _ (by omega)
  have z1:(9223372036854775807<S.size+wd.size)=False:=by simp;omega
  have z2:(9223372036854775807<S.size+wd.size+1)=False:=by simp;omega
  have hS2:(S++wd++⟨#[32]⟩).size≤(k+1) * 1001:=by
   have h1:(S++wd++⟨#[32]⟩:ByteArray).size=S.size+wd.size+1:=by simp [ByteArray.size_append];rfl
   rw [h1,Nat.succ_mul]
   omega
  have HS2:Hid ((S++wd++⟨#[32]⟩:ByteArray).data.toList=Prn.spL (t.take (k+1))):=Lib.hid (by
   rw [HTK.out,←HS.out,toL,toL,List.append_assoc])
  clear hc Hx hka HS hz hk3
  go_wp2_with fail
  refine (rword_any xk xn _).mono ?_
  rw [HW.out]
  rintro e V2 ⟨rfl,hb⟩
  have HB2:=Lib.hid (HB.out.trans (hb.mono HB.out.size))
  clear hb a0 a1
  go_wp2_with fail
  go_roundw
  case rel=>exact ⟨k+1,_,by omega,by go_num,rfl,hS2,HS2,HB2⟩
  case measure=>simp [intOf] <;> omega
end Go.Proofs.YtlbihaikppkecaaGreatDoor
set_option linter.unusedVariables false
set_option linter.unusedSimpArgs false
namespace Go.Proofs.YtlbihaikppkecaaGreatDoor
open Go.RowKit Go.BigFrame
namespace Prn
open Go.Proofs.YtlbihaikppkecaaGreatDoor.Id Go.Proofs.YtlbihaikppkecaaGreatDoor.Chk
theorem sorts_size {t:List Srt} (h:okP t=true):∀ u∈t.map sortW,u.size≤32:=fun u hu=>by
 obtain ⟨x,hx,rfl⟩:=List.mem_map.1 hu
 exact (own_sorts h x hx).2
end Prn
end Go.Proofs.YtlbihaikppkecaaGreatDoor
