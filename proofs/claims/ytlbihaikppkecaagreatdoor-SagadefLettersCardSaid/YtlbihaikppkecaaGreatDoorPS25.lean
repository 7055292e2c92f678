/- redressref13: methods (printed by gen_rchk4.py). No condition. -/
import Derived.Test.YtlbihaikppkecaaGreatDoorPS22
set_option linter.unusedVariables false
set_option linter.unusedSimpArgs false
namespace Go.Proofs.YtlbihaikppkecaaGreatDoor
open Go.RowKit Go.BigFrame
set_option maxRecDepth 100000 in
set_option maxHeartbeats 16000000 in
theorem rmethods4_any (v:Value) (x:Id.Sch) (hF:Chk.Fine x) (w:World) (hv:Id.SchV w none v x) :
  Calls Tryz.prog 87 #[v,.int .i64 4] w fun e w'=>e=.returned (Chk.ansV (Chk.firstF (x.services.flatMap Chk.typesV)))∧Below w.heap.size w w':=by
 have HV:=Lib.hid hv
 obtain ⟨A1,n1,c1,A2,n2,c2,A3,n3,c3,rfl,r1,r2,r3⟩:=hv
 have HN1:Hid (n1=x.records.length):=Lib.hid (by obtain ⟨_,_,e,_⟩:=ERow.slice r1;injection e)
 have hm1:n1≤9223372036854775807:=by obtain ⟨_,_,e,_,_⟩:=ERow.slice r1;injection e;omega
 have H1:=Lib.hid r1
 have HN2:Hid (n2=x.services.length):=Lib.hid (by obtain ⟨_,_,e,_⟩:=ERow.slice r2;injection e)
 have hm2:n2≤9223372036854775807:=by obtain ⟨_,_,e,_,_⟩:=ERow.slice r2;injection e;omega
 have H2:=Lib.hid r2
 have HN3:Hid (n3=x.sagas.length):=Lib.hid (by obtain ⟨_,_,e,_⟩:=ERow.slice r3;injection e)
 have hm3:n3≤9223372036854775807:=by obtain ⟨_,_,e,_,_⟩:=ERow.slice r3;injection e;omega
 have H3:=Lib.hid r3
 clear r1 r2 r3
 have HF:=Lib.hid hF
 obtain ⟨R,HR⟩:∃ R,Hid (Chk.firstF (x.services.flatMap Chk.typesV)=R):=⟨_,Lib.hid rfl⟩
 rw [HR.out]
 clear hF
 go_enter Tryz.func87,Tryz.ntmps87
 go_upto_region 1 with (fail)
 refine wp_named (fun V hV=>?_)
 have HL:=Lib.hid (Chk.Lx.start hV)
 clear hV
 obtain ⟨⟨q0,q1,q2,q3⟩,-⟩:=HL.out.box.k4
 go_wp2_with fail
 go_loopw [6] (fun i wr=>∃ (k:Nat),k≤n2∧i=.int .i64 k∧Hid (Chk.firstF ((x.services.drop k).flatMap (Chk.typesV))=R)∧Hid (Chk.Lx w wr #[.string x.name,.slice A1 n1 c1,.slice A2 n2 c2,.slice A3 n3 c3])) (fun i _=>n2 - (intOf i).toNat)
 case atStart=>exact ⟨0,by omega,rfl,HR,HL⟩
 case round =>
  clear HL HR q0 q1 q2 q3
  obtain ⟨k,hk,rfl,HI,HL⟩:=hrel
  obtain ⟨V1,rfl⟩:∃ w',w'=wr:=⟨_,rfl⟩
  have ik0:(0:Int)≤(k:Int):=by omega
  obtain ⟨⟨q0,q1,q2,q3⟩,-⟩:=HL.out.box.k4
  by_cases hlt:k<n2
  case neg =>
   have HE:Hid (R=none):=Lib.hid (by have h:=HI.out;rw [List.drop_of_length_le (by have:=HN2.out;omega)] at h;exact h.symm)
   clear HI
   go_wp2_with fail
   go_ret2
   exact ⟨by rw [HE.out];rfl,HL.out.bel⟩
  have hok0:=fun h:k<x.services.length=>HF.out.sv _ (List.getElem_mem h)
  have HOK:=Lib.hid hok0
  clear hok0
  have hkak:k<x.services.length:=by rw [←HN2.out];exact hlt
  obtain ⟨g1,off1,cs,rfl,-,⟨u,he,HU⟩,hc⟩:=ERow.get H2.out hkak (by omega)
  obtain ⟨r,Hr⟩:∃ r,Hid (x.services[k]=r):=⟨_,Lib.hid rfl⟩
  rw [Hr.out] at he HU
  obtain ⟨rn,rf⟩:=r
  subst he
  simp only at HU hc
  obtain ⟨A5,n5,c5,rfl⟩:=ERow.is HU
  have HN5:Hid (n5=rf.length):=Lib.hid (by obtain ⟨_,_,e,_⟩:=ERow.slice HU;injection e)
  have hm5:n5≤9223372036854775807:=by obtain ⟨_,_,e,_,_⟩:=ERow.slice HU;injection e;omega
  have H5:=Lib.hid HU
  have HDk:Hid (x.services.drop k=⟨rn,rf⟩::x.services.drop (k+1)):=Lib.hid (by rw [List.drop_eq_getElem_cons hkak,Hr.out])
  have b0:=hc 0 _ rfl
  have b1:=hc 1 _ rfl
  simp only [Nat.add_zero] at b0
  have hgl1:g1<w.heap.size:=World.block_lt_of_cell? w _ b0
  have b0:=(HL.out.bel.cell hgl1).trans b0
  have b1:=(HL.out.bel.cell hgl1).trans b1
  have i11:(k:Int)<(n2:Int):=by omega
  clear hc HU Hr
  have hok:=HOK.out hkak
  rw [getElem_of_drop hkak HDk.out] at hok
  simp only at hok
  have HIk:Hid (Chk.firstF ((Chk.typesV) ⟨rn,rf⟩++(x.services.drop (k+1)).flatMap (Chk.typesV))=R):=Lib.hid (by have h:=HI.out;rw [HDk.out,List.flatMap_cons] at h;exact h)
  clear HI HOK
  obtain ⟨hrn,hm99,hms⟩:=hok
  have HMS:=Lib.hid hms
  clear hms
  go_upto_region 5 with (fail)
  refine wp_named (fun W1 hW1=>?_)
  obtain ⟨hb1,hq1,-⟩:=fresh_box hW1
  clear hW1
  have HB1:=Lib.hid hq1
  clear q0 q1 q2 q3 b0 b1
  have HLx:=Lib.hid (HL.out.below hb1)
  clear HL 
  have HL:=HLx
  clear HLx 
  clear hb1 hq1
  go_wp2_with fail
  have h5:n5≤99:=by rw [HN5.out];exact hm99
  have HIj:Hid (Chk.firstF ((rf.drop 0).flatMap (Chk.typesM rn)++(x.services.drop (k+1)).flatMap (Chk.typesV))=R):=HIk
  go_loopw [8] (fun i wr=>∃ (j:Nat),j≤n5∧i=.int .i64 j∧Hid (Chk.firstF ((rf.drop j).flatMap (Chk.typesM rn)++(x.services.drop (k+1)).flatMap (Chk.typesV))=R)∧Hid (Bk wr V1.heap.size 83 #[.string rn,.slice A5 n5 c5])∧Hid (Chk.Lx w wr #[.string x.name,.slice A1 n1 c1,.slice (some ⟨g1,off1,none⟩) n2 c2,.slice A3 n3 c3])) (fun i _=>n5 - (intOf i).toNat)
  case atStart=>exact ⟨0,by omega,rfl,HIj,HB1,HL⟩
  case round =>
   clear HL HB1 HIj HIk
   obtain ⟨j,hj,rfl,HJ,HB1,HL⟩:=hrel
   obtain ⟨V2,rfl⟩:∃ w',w'=wr:=⟨_,rfl⟩
   have ij0:(0:Int)≤(j:Int):=by omega
   obtain ⟨⟨b0,b1⟩,-⟩:=HB1.out.k2
   by_cases hlj:j<n5
   case neg =>
    have HI3:Hid (Chk.firstF ((x.services.drop (k+1)).flatMap (Chk.typesV))=R):=Lib.hid (by have h:=HJ.out;rw [List.drop_of_length_le (by have:=HN5.out;omega)] at h;exact h)
    clear HJ
    go_wp2_with fail
    go_roundw
    case rel=>exact ⟨k+1,by omega,by go_num,HI3,HL⟩
    case measure=>simp [intOf] <;> omega
   have hkbj:j<rf.length:=by rw [←HN5.out];exact hlj
   obtain ⟨g2,off2,cs,rfl,-,he,hc⟩:=ERow.get H5.out hkbj (by omega)
   obtain ⟨r,Hr⟩:∃ r,Hid (rf[j]=r):=⟨_,Lib.hid rfl⟩
   rw [Hr.out] at he
   obtain ⟨m0,m1,m2,m3,m4⟩:=r
   unfold Id.MthE Id.Mth.cells at he
   subst he
   have HDj:Hid (rf.drop j=⟨m0,m1,m2,m3,m4⟩::rf.drop (j+1)):=Lib.hid (by rw [List.drop_eq_getElem_cons hkbj,Hr.out])
   have a0:=hc 0 _ rfl
   have a1:=hc 1 _ rfl
   have a2:=hc 2 _ rfl
   have a3:=hc 3 _ rfl
   have a4:=hc 4 _ rfl
   simp only [Nat.add_zero] at a0
   have hgl2:g2<w.heap.size:=World.block_lt_of_cell? w _ a0
   have a0:=(HL.out.bel.cell hgl2).trans a0
   have a1:=(HL.out.bel.cell hgl2).trans a1
   have a2:=(HL.out.bel.cell hgl2).trans a2
   have a3:=(HL.out.bel.cell hgl2).trans a3
   have a4:=(HL.out.bel.cell hgl2).trans a4
   have i21:(j:Int)<(n5:Int):=by omega
   clear hc Hr
   have hmok:=HMS.out ⟨m0,m1,m2,m3,m4⟩ (by rw [←getElem_of_drop hkbj HDj.out];exact List.getElem_mem _)
   simp only at hmok
   obtain ⟨hm0,hm1,hm3,hm4⟩:=hmok
   have HJ1:Hid (Chk.firstF (((m2==3||m2==1),Chk.part rn m0)::((rf.drop (j+1)).flatMap (Chk.typesM rn)++(x.services.drop (k+1)).flatMap (Chk.typesV)))=R):=Lib.hid (by have h:=HJ.out;rw [HDj.out,List.flatMap_cons,List.append_assoc] at h;exact h)
   clear HJ
   have hne2:¬g2=V2.heap.size:=by have:=HL.out.bel.size;omega
   go_upto_region 9 with (fail)
   refine wp_named (fun W3 hW3=>?_)
   obtain ⟨hb3,hq3,-⟩:=fresh_box hW3
   clear hW3 a0 a1 a2 a3 a4 b0 b1
   have HM:=Lib.hid hq3
   have HLx:=Lib.hid (HL.out.below hb3)
   have HB1x:=Lib.hid (HB1.out.below hb3 HB1.out.lt)
   clear HL HB1
   have HL:=HLx
   have HB1:=HB1x
   clear HLx HB1x
   clear hb3 hq3
   obtain ⟨T,HT⟩:∃ T,Hid ((m2==3||m2==1)=T):=⟨_,Lib.hid rfl⟩
   rw [HT.out] at HJ1
   have YES:T=true→Hid (Chk.firstF ((rf.drop (j+1)).flatMap (Chk.typesM rn)++(x.services.drop (k+1)).flatMap (Chk.typesV))=R):=fun h=>Lib.hid ((Chk.firstF_t h).symm.trans HJ1.out)
   have NO:T=false→Hid (R=some (Chk.part rn m0)):=fun h=>Lib.hid (HJ1.out.symm.trans (Chk.firstF_f h))
   have HYES:=Lib.hid YES
   have HNO:=Lib.hid NO
   clear YES NO HJ1
   obtain ⟨⟨a0,a1,a2,a3,a4⟩,-⟩:=HM.out.k5
   obtain ⟨⟨b0,b1⟩,-⟩:=HB1.out.k2
   by_cases h1:m2=1
   case pos =>
    subst h1
    have HI4:=HYES.out (by rw [←HT.out];rfl)
    clear HYES HNO
    go_wp2_with fail
    go_roundw
    case rel=>exact ⟨j+1,by omega,by go_num,HI4,HB1,HL⟩
    case measure=>simp [intOf] <;> omega
   by_cases h3:m2=3
   case pos =>
    subst h3
    have HI4:=HYES.out (by rw [←HT.out];rfl)
    clear HYES HNO
    go_wp2_with fail
    go_roundw
    case rel=>exact ⟨j+1,by omega,by go_num,HI4,HB1,HL⟩
    case measure=>simp [intOf] <;> omega
   have t1:((m2:Int)==1)=false:=by rw [beq_eq_false_iff_ne];omega
   have t3:((m2:Int)==3)=false:=by rw [beq_eq_false_iff_ne];omega
   have hT:T=false:=by rw [←HT.out];simp [h1,h3]
   have HTF:=Lib.hid hT
   clear h1 h3 hT
   have HE:=HNO.out (HTF.out)
   clear HYES HNO
   have z1:(9223372036854775807<rn.size+1)=False:=by simp;omega
   have z2:(9223372036854775807<rn.size+1+m0.size)=False:=by simp;omega
   go_wp2_with fail
   go_ret2
   exact ⟨by rw [HE.out];rfl,HL.out.bel⟩
set_option maxRecDepth 100000 in
set_option maxHeartbeats 16000000 in
theorem rmethods6_any (v:Value) (x:Id.Sch) (hF:Chk.Fine x) (w:World) (hv:Id.SchV w none v x) :
  Calls Tryz.prog 87 #[v,.int .i64 6] w fun e w'=>e=.returned (Chk.ansV (Chk.firstF (Chk.effectsT x)))∧Below w.heap.size w w':=by
 have HV:=Lib.hid hv
 obtain ⟨A1,n1,c1,A2,n2,c2,A3,n3,c3,rfl,r1,r2,r3⟩:=hv
 have HN1:Hid (n1=x.records.length):=Lib.hid (by obtain ⟨_,_,e,_⟩:=ERow.slice r1;injection e)
 have hm1:n1≤9223372036854775807:=by obtain ⟨_,_,e,_,_⟩:=ERow.slice r1;injection e;omega
 have H1:=Lib.hid r1
 have HN2:Hid (n2=x.services.length):=Lib.hid (by obtain ⟨_,_,e,_⟩:=ERow.slice r2;injection e)
 have hm2:n2≤9223372036854775807:=by obtain ⟨_,_,e,_,_⟩:=ERow.slice r2;injection e;omega
 have H2:=Lib.hid r2
 have HN3:Hid (n3=x.sagas.length):=Lib.hid (by obtain ⟨_,_,e,_⟩:=ERow.slice r3;injection e)
 have hm3:n3≤9223372036854775807:=by obtain ⟨_,_,e,_,_⟩:=ERow.slice r3;injection e;omega
 have H3:=Lib.hid r3
 clear r1 r2 r3
 have HF:=Lib.hid hF
 obtain ⟨R,HR⟩:∃ R,Hid (Chk.firstF (Chk.effectsT x)=R):=⟨_,Lib.hid rfl⟩
 rw [HR.out]
 clear hF
 go_enter Tryz.func87,Tryz.ntmps87
 go_upto_region 1 with (fail)
 refine wp_named (fun V hV=>?_)
 have HL:=Lib.hid (Chk.Lx.start hV)
 clear hV
 obtain ⟨⟨q0,q1,q2,q3⟩,-⟩:=HL.out.box.k4
 go_wp2_with fail
 go_loopw [6] (fun i wr=>∃ (k:Nat),k≤n2∧i=.int .i64 k∧Hid (Chk.firstF ((x.services.drop k).flatMap (Chk.effectsV x))=R)∧Hid (Chk.Lx w wr #[.string x.name,.slice A1 n1 c1,.slice A2 n2 c2,.slice A3 n3 c3])) (fun i _=>n2 - (intOf i).toNat)
 case atStart=>exact ⟨0,by omega,rfl,HR,HL⟩
 case round =>
  clear HL HR q0 q1 q2 q3
  obtain ⟨k,hk,rfl,HI,HL⟩:=hrel
  obtain ⟨V1,rfl⟩:∃ w',w'=wr:=⟨_,rfl⟩
  have ik0:(0:Int)≤(k:Int):=by omega
  obtain ⟨⟨q0,q1,q2,q3⟩,-⟩:=HL.out.box.k4
  by_cases hlt:k<n2
  case neg =>
   have HE:Hid (R=none):=Lib.hid (by have h:=HI.out;rw [List.drop_of_length_le (by have:=HN2.out;omega)] at h;exact h.symm)
   clear HI
   go_wp2_with fail
   go_ret2
   exact ⟨by rw [HE.out];rfl,HL.out.bel⟩
  have hok0:=fun h:k<x.services.length=>HF.out.sv _ (List.getElem_mem h)
  have HOK:=Lib.hid hok0
  clear hok0
  have hkak:k<x.services.length:=by rw [←HN2.out];exact hlt
  obtain ⟨g1,off1,cs,rfl,-,⟨u,he,HU⟩,hc⟩:=ERow.get H2.out hkak (by omega)
  obtain ⟨r,Hr⟩:∃ r,Hid (x.services[k]=r):=⟨_,Lib.hid rfl⟩
  rw [Hr.out] at he HU
  obtain ⟨rn,rf⟩:=r
  subst he
  simp only at HU hc
  obtain ⟨A5,n5,c5,rfl⟩:=ERow.is HU
  have HN5:Hid (n5=rf.length):=Lib.hid (by obtain ⟨_,_,e,_⟩:=ERow.slice HU;injection e)
  have hm5:n5≤9223372036854775807:=by obtain ⟨_,_,e,_,_⟩:=ERow.slice HU;injection e;omega
  have H5:=Lib.hid HU
  have HDk:Hid (x.services.drop k=⟨rn,rf⟩::x.services.drop (k+1)):=Lib.hid (by rw [List.drop_eq_getElem_cons hkak,Hr.out])
  have b0:=hc 0 _ rfl
  have b1:=hc 1 _ rfl
  simp only [Nat.add_zero] at b0
  have hgl1:g1<w.heap.size:=World.block_lt_of_cell? w _ b0
  have b0:=(HL.out.bel.cell hgl1).trans b0
  have b1:=(HL.out.bel.cell hgl1).trans b1
  have i11:(k:Int)<(n2:Int):=by omega
  clear hc HU Hr
  have hok:=HOK.out hkak
  rw [getElem_of_drop hkak HDk.out] at hok
  simp only at hok
  have HIk:Hid (Chk.firstF ((Chk.effectsV x) ⟨rn,rf⟩++(x.services.drop (k+1)).flatMap (Chk.effectsV x))=R):=Lib.hid (by have h:=HI.out;rw [HDk.out,List.flatMap_cons] at h;exact h)
  clear HI HOK
  obtain ⟨hrn,hm99,hms⟩:=hok
  have HMS:=Lib.hid hms
  clear hms
  go_upto_region 5 with (fail)
  refine wp_named (fun W1 hW1=>?_)
  obtain ⟨hb1,hq1,-⟩:=fresh_box hW1
  clear hW1
  have HB1:=Lib.hid hq1
  clear q0 q1 q2 q3 b0 b1
  have HLx:=Lib.hid (HL.out.below hb1)
  clear HL 
  have HL:=HLx
  clear HLx 
  clear hb1 hq1
  go_wp2_with fail
  have h5:n5≤99:=by rw [HN5.out];exact hm99
  have HIj:Hid (Chk.firstF ((rf.drop 0).flatMap (Chk.effectsM x rn)++(x.services.drop (k+1)).flatMap (Chk.effectsV x))=R):=HIk
  go_loopw [8] (fun i wr=>∃ (j:Nat),j≤n5∧i=.int .i64 j∧Hid (Chk.firstF ((rf.drop j).flatMap (Chk.effectsM x rn)++(x.services.drop (k+1)).flatMap (Chk.effectsV x))=R)∧Hid (Bk wr V1.heap.size 83 #[.string rn,.slice A5 n5 c5])∧Hid (Chk.Lx w wr #[.string x.name,.slice A1 n1 c1,.slice (some ⟨g1,off1,none⟩) n2 c2,.slice A3 n3 c3])) (fun i _=>n5 - (intOf i).toNat)
  case atStart=>exact ⟨0,by omega,rfl,HIj,HB1,HL⟩
  case round =>
   clear HL HB1 HIj HIk
   obtain ⟨j,hj,rfl,HJ,HB1,HL⟩:=hrel
   obtain ⟨V2,rfl⟩:∃ w',w'=wr:=⟨_,rfl⟩
   have ij0:(0:Int)≤(j:Int):=by omega
   obtain ⟨⟨b0,b1⟩,-⟩:=HB1.out.k2
   by_cases hlj:j<n5
   case neg =>
    have HI3:Hid (Chk.firstF ((x.services.drop (k+1)).flatMap (Chk.effectsV x))=R):=Lib.hid (by have h:=HJ.out;rw [List.drop_of_length_le (by have:=HN5.out;omega)] at h;exact h)
    clear HJ
    go_wp2_with fail
    go_roundw
    case rel=>exact ⟨k+1,by omega,by go_num,HI3,HL⟩
    case measure=>simp [intOf] <;> omega
   have hkbj:j<rf.length:=by rw [←HN5.out];exact hlj
   obtain ⟨g2,off2,cs,rfl,-,he,hc⟩:=ERow.get H5.out hkbj (by omega)
   obtain ⟨r,Hr⟩:∃ r,Hid (rf[j]=r):=⟨_,Lib.hid rfl⟩
   rw [Hr.out] at he
   obtain ⟨m0,m1,m2,m3,m4⟩:=r
   unfold Id.MthE Id.Mth.cells at he
   subst he
   have HDj:Hid (rf.drop j=⟨m0,m1,m2,m3,m4⟩::rf.drop (j+1)):=Lib.hid (by rw [List.drop_eq_getElem_cons hkbj,Hr.out])
   have a0:=hc 0 _ rfl
   have a1:=hc 1 _ rfl
   have a2:=hc 2 _ rfl
   have a3:=hc 3 _ rfl
   have a4:=hc 4 _ rfl
   simp only [Nat.add_zero] at a0
   have hgl2:g2<w.heap.size:=World.block_lt_of_cell? w _ a0
   have a0:=(HL.out.bel.cell hgl2).trans a0
   have a1:=(HL.out.bel.cell hgl2).trans a1
   have a2:=(HL.out.bel.cell hgl2).trans a2
   have a3:=(HL.out.bel.cell hgl2).trans a3
   have a4:=(HL.out.bel.cell hgl2).trans a4
   have i21:(j:Int)<(n5:Int):=by omega
   clear hc Hr
   have hmok:=HMS.out ⟨m0,m1,m2,m3,m4⟩ (by rw [←getElem_of_drop hkbj HDj.out];exact List.getElem_mem _)
   simp only at hmok
   obtain ⟨hm0,hm1,hm3,hm4⟩:=hmok
   have HJ1:Hid (Chk.firstF (((!(Chk.contrary m3).toList.isEmpty&&Chk.order x m1),Chk.part rn m0)::((rf.drop (j+1)).flatMap (Chk.effectsM x rn)++(x.services.drop (k+1)).flatMap (Chk.effectsV x)))=R):=Lib.hid (by have h:=HJ.out;rw [HDj.out,List.flatMap_cons,List.append_assoc] at h;exact h)
   clear HJ
   have hne2:¬g2=V2.heap.size:=by have:=HL.out.bel.size;omega
   go_upto_region 9 with (fail)
   refine wp_named (fun W3 hW3=>?_)
   obtain ⟨hb3,hq3,-⟩:=fresh_box hW3
   clear hW3 a0 a1 a2 a3 a4 b0 b1
   have HM:=Lib.hid hq3
   have HLx:=Lib.hid (HL.out.below hb3)
   have HB1x:=Lib.hid (HB1.out.below hb3 HB1.out.lt)
   clear HL HB1
   have HL:=HLx
   have HB1:=HB1x
   clear HLx HB1x
   clear hb3 hq3
   obtain ⟨T,HT⟩:∃ T,Hid ((!(Chk.contrary m3).toList.isEmpty&&Chk.order x m1)=T):=⟨_,Lib.hid rfl⟩
   rw [HT.out] at HJ1
   have YES:T=true→Hid (Chk.firstF ((rf.drop (j+1)).flatMap (Chk.effectsM x rn)++(x.services.drop (k+1)).flatMap (Chk.effectsV x))=R):=fun h=>Lib.hid ((Chk.firstF_t h).symm.trans HJ1.out)
   have NO:T=false→Hid (R=some (Chk.part rn m0)):=fun h=>Lib.hid (HJ1.out.symm.trans (Chk.firstF_f h))
   have HYES:=Lib.hid YES
   have HNO:=Lib.hid NO
   clear YES NO HJ1
   obtain ⟨⟨a0,a1,a2,a3,a4⟩,-⟩:=HM.out.k5
   obtain ⟨⟨b0,b1⟩,-⟩:=HB1.out.k2
   obtain ⟨⟨q0,q1,q2,q3⟩,-⟩:=HL.out.box.k4
   have he:=Chk.eff_contrary (e:=m3)
   unfold Chk.isEff at he
   rw [show Id.wGive.toList=[103,105,118,101] by decide +kernel,show Id.wTake.toList=[116,97,107,101] by decide +kernel,show Id.wNote.toList=[110,111,116,101] by decide +kernel] at he
   have HEF:=Lib.hid he
   clear he
   cases e1:(m3.toList==[103,105,118,101]) <;> cases e2:(m3.toList==[116,97,107,101]) <;> cases e3:(m3.toList==[110,111,116,101]) <;> rw [e1,e2,e3] at HEF
   case false.false.false =>
    have HE:=HNO.out (by rw [←HT.out,←HEF.out];rfl)
    clear HYES HNO
    have z1:(9223372036854775807<rn.size+1)=False:=by simp;omega
    have z2:(9223372036854775807<rn.size+1+m0.size)=False:=by simp;omega
    go_wp2_with fail
    go_ret2
    exact ⟨by rw [HE.out];rfl,HL.out.bel⟩
   all_goals
    have HT2:Hid (Chk.order x m1=T):=Lib.hid (by rw [←HT.out,←HEF.out];rfl)
    clear HT HEF
    go_wp2_with fail
    refine (rorder_any _ x m1 _ (Id.SchV.below HL.out.bel HV.out)).mono ?_
    rw [HT2.out]
    rintro e W4 ⟨rfl,hb4⟩
    clear a0 a1 a2 a3 a4 b0 b1 q0 q1 q2 q3
    have HLx:=Lib.hid (HL.out.below hb4)
    have HB1x:=Lib.hid (HB1.out.below hb4 HB1.out.lt)
    have HMx:=Lib.hid (HM.out.below hb4 HM.out.lt)
    clear HL HB1 HM
    have HL:=HLx
    have HB1:=HB1x
    have HM:=HMx
    clear HLx HB1x HMx
    clear hb4
    obtain ⟨⟨a0,a1,a2,a3,a4⟩,-⟩:=HM.out.k5
    obtain ⟨⟨b0,b1⟩,-⟩:=HB1.out.k2
    cases T
    case true =>
     have HI4:=HYES.out (rfl)
     clear HYES HNO
     go_wp2_with fail
     go_roundw
     case rel=>exact ⟨j+1,by omega,by go_num,HI4,HB1,HL⟩
     case measure=>simp [intOf] <;> omega
    have HE:=HNO.out (rfl)
    clear HYES HNO
    have z1:(9223372036854775807<rn.size+1)=False:=by simp;omega
    have z2:(9223372036854775807<rn.size+1+m0.size)=False:=by simp;omega
    go_wp2_with fail
    go_ret2
    exact ⟨by rw [HE.out];rfl,HL.out.bel⟩
set_option maxRecDepth 100000 in
set_option maxHeartbeats 16000000 in
theorem rmethods7_any (v:Value) (x:Id.Sch) (hF:Chk.Fine x) (w:World) (hv:Id.SchV w none v x) :
  Calls Tryz.prog 87 #[v,.int .i64 7] w fun e w'=>e=.returned (Chk.ansV (Chk.firstF (Chk.undosD x)))∧Below w.heap.size w w':=by
 have HV:=Lib.hid hv
 obtain ⟨A1,n1,c1,A2,n2,c2,A3,n3,c3,rfl,r1,r2,r3⟩:=hv
 have HN1:Hid (n1=x.records.length):=Lib.hid (by obtain ⟨_,_,e,_⟩:=ERow.slice r1;injection e)
 have hm1:n1≤9223372036854775807:=by obtain ⟨_,_,e,_,_⟩:=ERow.slice r1;injection e;omega
 have H1:=Lib.hid r1
 have HN2:Hid (n2=x.services.length):=Lib.hid (by obtain ⟨_,_,e,_⟩:=ERow.slice r2;injection e)
 have hm2:n2≤9223372036854775807:=by obtain ⟨_,_,e,_,_⟩:=ERow.slice r2;injection e;omega
 have H2:=Lib.hid r2
 have HN3:Hid (n3=x.sagas.length):=Lib.hid (by obtain ⟨_,_,e,_⟩:=ERow.slice r3;injection e)
 have hm3:n3≤9223372036854775807:=by obtain ⟨_,_,e,_,_⟩:=ERow.slice r3;injection e;omega
 have H3:=Lib.hid r3
 clear r1 r2 r3
 have HF:=Lib.hid hF
 obtain ⟨R,HR⟩:∃ R,Hid (Chk.firstF (Chk.undosD x)=R):=⟨_,Lib.hid rfl⟩
 rw [HR.out]
 clear hF
 go_enter Tryz.func87,Tryz.ntmps87
 go_upto_region 1 with (fail)
 refine wp_named (fun V hV=>?_)
 have HL:=Lib.hid (Chk.Lx.start hV)
 clear hV
 obtain ⟨⟨q0,q1,q2,q3⟩,-⟩:=HL.out.box.k4
 go_wp2_with fail
 go_loopw [6] (fun i wr=>∃ (k:Nat),k≤n2∧i=.int .i64 k∧Hid (Chk.firstF ((x.services.drop k).flatMap (Chk.undosVD x))=R)∧Hid (Chk.Lx w wr #[.string x.name,.slice A1 n1 c1,.slice A2 n2 c2,.slice A3 n3 c3])) (fun i _=>n2 - (intOf i).toNat)
 case atStart=>exact ⟨0,by omega,rfl,HR,HL⟩
 case round =>
  clear HL HR q0 q1 q2 q3
  obtain ⟨k,hk,rfl,HI,HL⟩:=hrel
  obtain ⟨V1,rfl⟩:∃ w',w'=wr:=⟨_,rfl⟩
  have ik0:(0:Int)≤(k:Int):=by omega
  obtain ⟨⟨q0,q1,q2,q3⟩,-⟩:=HL.out.box.k4
  by_cases hlt:k<n2
  case neg =>
   have HE:Hid (R=none):=Lib.hid (by have h:=HI.out;rw [List.drop_of_length_le (by have:=HN2.out;omega)] at h;exact h.symm)
   clear HI
   go_wp2_with fail
   go_ret2
   exact ⟨by rw [HE.out];rfl,HL.out.bel⟩
  have hok0:=fun h:k<x.services.length=>HF.out.sv _ (List.getElem_mem h)
  have HOK:=Lib.hid hok0
  clear hok0
  have hkak:k<x.services.length:=by rw [←HN2.out];exact hlt
  obtain ⟨g1,off1,cs,rfl,-,⟨u,he,HU⟩,hc⟩:=ERow.get H2.out hkak (by omega)
  obtain ⟨r,Hr⟩:∃ r,Hid (x.services[k]=r):=⟨_,Lib.hid rfl⟩
  rw [Hr.out] at he HU
  obtain ⟨rn,rf⟩:=r
  subst he
  simp only at HU hc
  obtain ⟨A5,n5,c5,rfl⟩:=ERow.is HU
  have HN5:Hid (n5=rf.length):=Lib.hid (by obtain ⟨_,_,e,_⟩:=ERow.slice HU;injection e)
  have hm5:n5≤9223372036854775807:=by obtain ⟨_,_,e,_,_⟩:=ERow.slice HU;injection e;omega
  have H5:=Lib.hid HU
  have HDk:Hid (x.services.drop k=⟨rn,rf⟩::x.services.drop (k+1)):=Lib.hid (by rw [List.drop_eq_getElem_cons hkak,Hr.out])
  have b0:=hc 0 _ rfl
  have b1:=hc 1 _ rfl
  simp only [Nat.add_zero] at b0
  have hgl1:g1<w.heap.size:=World.block_lt_of_cell? w _ b0
  have b0:=(HL.out.bel.cell hgl1).trans b0
  have b1:=(HL.out.bel.cell hgl1).trans b1
  have i11:(k:Int)<(n2:Int):=by omega
  clear hc HU Hr
  have hok:=HOK.out hkak
  rw [getElem_of_drop hkak HDk.out] at hok
  simp only at hok
  have HIk:Hid (Chk.firstF ((Chk.undosVD x) ⟨rn,rf⟩++(x.services.drop (k+1)).flatMap (Chk.undosVD x))=R):=Lib.hid (by have h:=HI.out;rw [HDk.out,List.flatMap_cons] at h;exact h)
  clear HI HOK
  obtain ⟨hrn,hm99,hms⟩:=hok
  have HMS:=Lib.hid hms
  clear hms
  go_upto_region 5 with (fail)
  refine wp_named (fun W1 hW1=>?_)
  obtain ⟨hb1,hq1,-⟩:=fresh_box hW1
  clear hW1
  have HB1:=Lib.hid hq1
  clear q0 q1 q2 q3 b0 b1
  have HLx:=Lib.hid (HL.out.below hb1)
  clear HL 
  have HL:=HLx
  clear HLx 
  clear hb1 hq1
  go_wp2_with fail
  have h5:n5≤99:=by rw [HN5.out];exact hm99
  have HIj:Hid (Chk.firstF ((rf.drop 0).flatMap (Chk.undosMD x rn)++(x.services.drop (k+1)).flatMap (Chk.undosVD x))=R):=HIk
  go_loopw [8] (fun i wr=>∃ (j:Nat),j≤n5∧i=.int .i64 j∧Hid (Chk.firstF ((rf.drop j).flatMap (Chk.undosMD x rn)++(x.services.drop (k+1)).flatMap (Chk.undosVD x))=R)∧Hid (Bk wr V1.heap.size 83 #[.string rn,.slice A5 n5 c5])∧Hid (Chk.Lx w wr #[.string x.name,.slice A1 n1 c1,.slice (some ⟨g1,off1,none⟩) n2 c2,.slice A3 n3 c3])) (fun i _=>n5 - (intOf i).toNat)
  case atStart=>exact ⟨0,by omega,rfl,HIj,HB1,HL⟩
  case round =>
   clear HL HB1 HIj HIk
   obtain ⟨j,hj,rfl,HJ,HB1,HL⟩:=hrel
   obtain ⟨V2,rfl⟩:∃ w',w'=wr:=⟨_,rfl⟩
   have ij0:(0:Int)≤(j:Int):=by omega
   obtain ⟨⟨b0,b1⟩,-⟩:=HB1.out.k2
   by_cases hlj:j<n5
   case neg =>
    have HI3:Hid (Chk.firstF ((x.services.drop (k+1)).flatMap (Chk.undosVD x))=R):=Lib.hid (by have h:=HJ.out;rw [List.drop_of_length_le (by have:=HN5.out;omega)] at h;exact h)
    clear HJ
    go_wp2_with fail
    go_roundw
    case rel=>exact ⟨k+1,by omega,by go_num,HI3,HL⟩
    case measure=>simp [intOf] <;> omega
   have hkbj:j<rf.length:=by rw [←HN5.out];exact hlj
   obtain ⟨g2,off2,cs,rfl,-,he,hc⟩:=ERow.get H5.out hkbj (by omega)
   obtain ⟨r,Hr⟩:∃ r,Hid (rf[j]=r):=⟨_,Lib.hid rfl⟩
   rw [Hr.out] at he
   obtain ⟨m0,m1,m2,m3,m4⟩:=r
   unfold Id.MthE Id.Mth.cells at he
   subst he
   have HDj:Hid (rf.drop j=⟨m0,m1,m2,m3,m4⟩::rf.drop (j+1)):=Lib.hid (by rw [List.drop_eq_getElem_cons hkbj,Hr.out])
   have a0:=hc 0 _ rfl
   have a1:=hc 1 _ rfl
   have a2:=hc 2 _ rfl
   have a3:=hc 3 _ rfl
   have a4:=hc 4 _ rfl
   simp only [Nat.add_zero] at a0
   have hgl2:g2<w.heap.size:=World.block_lt_of_cell? w _ a0
   have a0:=(HL.out.bel.cell hgl2).trans a0
   have a1:=(HL.out.bel.cell hgl2).trans a1
   have a2:=(HL.out.bel.cell hgl2).trans a2
   have a3:=(HL.out.bel.cell hgl2).trans a3
   have a4:=(HL.out.bel.cell hgl2).trans a4
   have i21:(j:Int)<(n5:Int):=by omega
   clear hc Hr
   have hmok:=HMS.out ⟨m0,m1,m2,m3,m4⟩ (by rw [←getElem_of_drop hkbj HDj.out];exact List.getElem_mem _)
   simp only at hmok
   obtain ⟨hm0,hm1,hm3,hm4⟩:=hmok
   have HJ1:Hid (Chk.firstF (((m4.toList.isEmpty||Chk.undoOkD x rn ⟨m0,m1,m2,m3,m4⟩),Chk.part rn m0)::((rf.drop (j+1)).flatMap (Chk.undosMD x rn)++(x.services.drop (k+1)).flatMap (Chk.undosVD x)))=R):=Lib.hid (by have h:=HJ.out;rw [HDj.out,List.flatMap_cons,List.append_assoc] at h;exact h)
   clear HJ
   have hne2:¬g2=V2.heap.size:=by have:=HL.out.bel.size;omega
   go_upto_region 9 with (fail)
   refine wp_named (fun W3 hW3=>?_)
   obtain ⟨hb3,hq3,-⟩:=fresh_box hW3
   clear hW3 a0 a1 a2 a3 a4 b0 b1
   have HM:=Lib.hid hq3
   have HLx:=Lib.hid (HL.out.below hb3)
   have HB1x:=Lib.hid (HB1.out.below hb3 HB1.out.lt)
   clear HL HB1
   have HL:=HLx
   have HB1:=HB1x
   clear HLx HB1x
   clear hb3 hq3
   obtain ⟨T,HT⟩:∃ T,Hid ((m4.toList.isEmpty||Chk.undoOkD x rn ⟨m0,m1,m2,m3,m4⟩)=T):=⟨_,Lib.hid rfl⟩
   rw [HT.out] at HJ1
   have YES:T=true→Hid (Chk.firstF ((rf.drop (j+1)).flatMap (Chk.undosMD x rn)++(x.services.drop (k+1)).flatMap (Chk.undosVD x))=R):=fun h=>Lib.hid ((Chk.firstF_t h).symm.trans HJ1.out)
   have NO:T=false→Hid (R=some (Chk.part rn m0)):=fun h=>Lib.hid (HJ1.out.symm.trans (Chk.firstF_f h))
   have HYES:=Lib.hid YES
   have HNO:=Lib.hid NO
   clear YES NO HJ1
   obtain ⟨⟨a0,a1,a2,a3,a4⟩,-⟩:=HM.out.k5
   obtain ⟨⟨b0,b1⟩,-⟩:=HB1.out.k2
   obtain ⟨⟨q0,q1,q2,q3⟩,-⟩:=HL.out.box.k4
   cases hu:m4.toList.isEmpty
   case true =>
    have HI4:=HYES.out (by rw [←HT.out,hu];rfl)
    clear HYES HNO
    go_wp2_with fail
    go_roundw
    case rel=>exact ⟨j+1,by omega,by go_num,HI4,HB1,HL⟩
    case measure=>simp [intOf] <;> omega
   have HT2:Hid (Chk.undoOkD x rn ⟨m0,m1,m2,m3,m4⟩=T):=Lib.hid (by rw [←HT.out,hu];rfl)
   unfold Chk.undoOkD at HT2
   clear HT
   go_wp2_with fail
   refine (rmethod_any _ x rn m4 _ (Id.SchV.below HL.out.bel HV.out)).mono ?_
   rintro e W4 ⟨rfl,hb4⟩
   clear a0 a1 a2 a3 a4 b0 b1 q0 q1 q2 q3
   have HLx:=Lib.hid (HL.out.below hb4)
   have HB1x:=Lib.hid (HB1.out.below hb4 HB1.out.lt)
   have HMx:=Lib.hid (HM.out.below hb4 HM.out.lt)
   clear HL HB1 HM
   have HL:=HLx
   have HB1:=HB1x
   have HM:=HMx
   clear HLx HB1x HMx
   clear hb4
   obtain ⟨mo,HMO⟩:∃ mo,Hid (Chk.meth x rn m4=mo):=⟨_,Lib.hid rfl⟩
   rw [HMO.out]
   simp only [HMO.out] at HT2
   obtain ⟨⟨a0,a1,a2,a3,a4⟩,-⟩:=HM.out.k5
   obtain ⟨⟨b0,b1⟩,-⟩:=HB1.out.k2
   cases mo
   case none =>
    have HTF:Hid (T=false):=Lib.hid HT2.out.symm
    clear HT2 HMO
    simp only [Option.getD_none,Option.isSome_none,Chk.mthV,Chk.mthZ]
    go_upto_region 18 with (fail)
    refine wp_named (fun W5 hW5=>?_)
    obtain ⟨hb5,hq5,-⟩:=fresh_box hW5
    clear hW5 a0 a1 a2 a3 a4 b0 b1
    have HLx:=Lib.hid (HL.out.below hb5)
    have HB1x:=Lib.hid (HB1.out.below hb5 HB1.out.lt)
    have HMx:=Lib.hid (HM.out.below hb5 HM.out.lt)
    clear HL HB1 HM
    have HL:=HLx
    have HB1:=HB1x
    have HM:=HMx
    clear HLx HB1x HMx
    clear hb5 hq5
    obtain ⟨⟨a0,a1,a2,a3,a4⟩,-⟩:=HM.out.k5
    obtain ⟨⟨b0,b1⟩,-⟩:=HB1.out.k2
    have HE:=HNO.out (HTF.out)
    clear HYES HNO
    have z1:(9223372036854775807<rn.size+1)=False:=by simp;omega
    have z2:(9223372036854775807<rn.size+1+m0.size)=False:=by simp;omega
    go_wp2_with fail
    go_ret2
    exact ⟨by rw [HE.out];rfl,HL.out.bel⟩
   rename_i u
   obtain ⟨u0,u1,u2,u3,u4⟩:=u
   have HT3:Hid ((u1.toList==m1.toList&&u4.toList.isEmpty&&u2==1&&Chk.contraryB m3 u3)=T):=Lib.hid HT2.out
   clear HT2 HMO
   simp only [Option.getD_some,Option.isSome_some,Chk.mthV]
   go_upto_region 18 with (fail)
   refine wp_named (fun W5 hW5=>?_)
   obtain ⟨hb5,hq5,-⟩:=fresh_box hW5
   clear hW5 a0 a1 a2 a3 a4 b0 b1
   have HLx:=Lib.hid (HL.out.below hb5)
   have HB1x:=Lib.hid (HB1.out.below hb5 HB1.out.lt)
   have HMx:=Lib.hid (HM.out.below hb5 HM.out.lt)
   clear HL HB1 HM
   have HL:=HLx
   have HB1:=HB1x
   have HM:=HMx
   clear HLx HB1x HMx
   have HU:=Lib.hid hq5
   clear hb5 hq5
   obtain ⟨⟨a0,a1,a2,a3,a4⟩,-⟩:=HM.out.k5
   obtain ⟨⟨b0,b1⟩,-⟩:=HB1.out.k2
   obtain ⟨⟨u0c,u1c,u2c,u3c,u4c⟩,-⟩:=HU.out.k5
   cases e1:(u1.toList==m1.toList)
   case false =>
    have HE:=HNO.out (by rw [←HT3.out,e1];rfl)
    clear HYES HNO
    have z1:(9223372036854775807<rn.size+1)=False:=by simp;omega
    have z2:(9223372036854775807<rn.size+1+m0.size)=False:=by simp;omega
    go_wp2_with fail
    go_ret2
    exact ⟨by rw [HE.out];rfl,HL.out.bel⟩
   cases e2:u4.toList.isEmpty
   case false =>
    have HE:=HNO.out (by rw [←HT3.out,e1,e2];rfl)
    clear HYES HNO
    have z1:(9223372036854775807<rn.size+1)=False:=by simp;omega
    have z2:(9223372036854775807<rn.size+1+m0.size)=False:=by simp;omega
    go_wp2_with fail
    go_ret2
    exact ⟨by rw [HE.out];rfl,HL.out.bel⟩
   by_cases e3:u2=1
   case neg =>
    have t1:((u2:Int)==1)=false:=by rw [beq_eq_false_iff_ne];omega
    have HTF:Hid (T=false):=Lib.hid (by rw [←HT3.out,beq_eq_false_iff_ne.2 e3];simp)
    clear e3
    have HE:=HNO.out (HTF.out)
    clear HYES HNO
    have z1:(9223372036854775807<rn.size+1)=False:=by simp;omega
    have z2:(9223372036854775807<rn.size+1+m0.size)=False:=by simp;omega
    go_wp2_with fail
    go_ret2
    exact ⟨by rw [HE.out];rfl,HL.out.bel⟩
   subst e3
   have HT4:Hid (Chk.contraryB m3 u3=T):=Lib.hid (by rw [←HT3.out,e1,e2];rfl)
   clear HT3
   go_wp2_with fail
   refine (rcontrary_any m3 u3 _).mono ?_
   rw [HT4.out]
   rintro e W6 ⟨rfl,rfl⟩
   cases T
   case true =>
    have HI4:=HYES.out (rfl)
    clear HYES HNO
    go_wp2_with fail
    go_roundw
    case rel=>exact ⟨j+1,by omega,by go_num,HI4,HB1,HL⟩
    case measure=>simp [intOf] <;> omega
   have HE:=HNO.out (rfl)
   clear HYES HNO
   have z1:(9223372036854775807<rn.size+1)=False:=by simp;omega
   have z2:(9223372036854775807<rn.size+1+m0.size)=False:=by simp;omega
   go_wp2_with fail
   go_ret2
   exact ⟨by rw [HE.out];rfl,HL.out.bel⟩
end Go.Proofs.YtlbihaikppkecaaGreatDoor
set_option linter.unusedVariables false
set_option linter.unusedSimpArgs false
namespace Go.Proofs.YtlbihaikppkecaaGreatDoor
open Go.RowKit Go.BigFrame
set_option maxRecDepth 100000 in
set_option maxHeartbeats 16000000 in
theorem rrecords4_any (v:Value) (x:Id.Sch) (hF:Chk.Fine x) (w:World) (hv:Id.SchV w none v x) :
  Calls Tryz.prog 86 #[v,.int .i64 4] w fun e w'=>e=.returned (Chk.ansV (Chk.firstF (x.records.flatMap (Chk.typesR x))))∧Below w.heap.size w w':=by
 have HV:=Lib.hid hv
 obtain ⟨A1,n1,c1,A2,n2,c2,A3,n3,c3,rfl,r1,r2,r3⟩:=hv
 have HN1:Hid (n1=x.records.length):=Lib.hid (by obtain ⟨_,_,e,_⟩:=ERow.slice r1;injection e)
 have hm1:n1≤9223372036854775807:=by obtain ⟨_,_,e,_,_⟩:=ERow.slice r1;injection e;omega
 have H1:=Lib.hid r1
 have HN2:Hid (n2=x.services.length):=Lib.hid (by obtain ⟨_,_,e,_⟩:=ERow.slice r2;injection e)
 have hm2:n2≤9223372036854775807:=by obtain ⟨_,_,e,_,_⟩:=ERow.slice r2;injection e;omega
 have H2:=Lib.hid r2
 have HN3:Hid (n3=x.sagas.length):=Lib.hid (by obtain ⟨_,_,e,_⟩:=ERow.slice r3;injection e)
 have hm3:n3≤9223372036854775807:=by obtain ⟨_,_,e,_,_⟩:=ERow.slice r3;injection e;omega
 have H3:=Lib.hid r3
 clear r1 r2 r3
 have HF:=Lib.hid hF
 obtain ⟨R,HR⟩:∃ R,Hid (Chk.firstF (x.records.flatMap (Chk.typesR x))=R):=⟨_,Lib.hid rfl⟩
 rw [HR.out]
 clear hF
 go_enter Tryz.func86,Tryz.ntmps86
 go_upto_region 1 with (fail)
 refine wp_named (fun V hV=>?_)
 have HL:=Lib.hid (Chk.Lx.start hV)
 clear hV
 obtain ⟨⟨q0,q1,q2,q3⟩,-⟩:=HL.out.box.k4
 go_wp2_with fail
 go_loopw [7] (fun i wr=>∃ (k:Nat),k≤n1∧i=.int .i64 k∧Hid (Chk.firstF ((x.records.drop k).flatMap (Chk.typesR x))=R)∧Hid (Chk.Lx w wr #[.string x.name,.slice A1 n1 c1,.slice A2 n2 c2,.slice A3 n3 c3])) (fun i _=>n1 - (intOf i).toNat)
 case atStart=>exact ⟨0,by omega,rfl,HR,HL⟩
 case round =>
  clear HL HR q0 q1 q2 q3
  obtain ⟨k,hk,rfl,HI,HL⟩:=hrel
  obtain ⟨V1,rfl⟩:∃ w',w'=wr:=⟨_,rfl⟩
  have ik0:(0:Int)≤(k:Int):=by omega
  obtain ⟨⟨q0,q1,q2,q3⟩,-⟩:=HL.out.box.k4
  by_cases hlt:k<n1
  case neg =>
   have HE:Hid (R=none):=Lib.hid (by have h:=HI.out;rw [List.drop_of_length_le (by have:=HN1.out;omega)] at h;exact h.symm)
   clear HI
   go_wp2_with fail
   go_ret2
   exact ⟨by rw [HE.out];rfl,HL.out.bel⟩
  have hok0:=fun h:k<x.records.length=>HF.out.re _ (List.getElem_mem h)
  have HOK:=Lib.hid hok0
  clear hok0
  have hkak:k<x.records.length:=by rw [←HN1.out];exact hlt
  obtain ⟨g1,off1,cs,rfl,-,⟨u,he,HU⟩,hc⟩:=ERow.get H1.out hkak (by omega)
  obtain ⟨r,Hr⟩:∃ r,Hid (x.records[k]=r):=⟨_,Lib.hid rfl⟩
  rw [Hr.out] at he HU
  obtain ⟨rn,rc,rf⟩:=r
  subst he
  simp only at HU hc
  obtain ⟨A5,n5,c5,rfl⟩:=ERow.is HU
  have HN5:Hid (n5=rf.length):=Lib.hid (by obtain ⟨_,_,e,_⟩:=ERow.slice HU;injection e)
  have hm5:n5≤9223372036854775807:=by obtain ⟨_,_,e,_,_⟩:=ERow.slice HU;injection e;omega
  have H5:=Lib.hid HU
  have HDk:Hid (x.records.drop k=⟨rn,rc,rf⟩::x.records.drop (k+1)):=Lib.hid (by rw [List.drop_eq_getElem_cons hkak,Hr.out])
  have b0:=hc 0 _ rfl
  have b1:=hc 1 _ rfl
  have b2:=hc 2 _ rfl
  simp only [Nat.add_zero] at b0
  have hgl1:g1<w.heap.size:=World.block_lt_of_cell? w _ b0
  have b0:=(HL.out.bel.cell hgl1).trans b0
  have b1:=(HL.out.bel.cell hgl1).trans b1
  have b2:=(HL.out.bel.cell hgl1).trans b2
  have i11:(k:Int)<(n1:Int):=by omega
  clear hc HU Hr
  have hok:=HOK.out hkak
  rw [getElem_of_drop hkak HDk.out] at hok
  simp only at hok
  have HIk:Hid (Chk.firstF ((Chk.typesR x) ⟨rn,rc,rf⟩++(x.records.drop (k+1)).flatMap (Chk.typesR x))=R):=Lib.hid (by have h:=HI.out;rw [HDk.out,List.flatMap_cons] at h;exact h)
  clear HI HOK
  obtain ⟨hrn,hm99,hms⟩:=hok
  have HMS:=Lib.hid hms
  clear hms
  go_upto_region 8 with (fail)
  refine wp_named (fun W1 hW1=>?_)
  obtain ⟨hb1,hq1,-⟩:=fresh_box hW1
  clear hW1
  have HB1:=Lib.hid hq1
  clear q0 q1 q2 q3 b0 b1 b2
  have HLx:=Lib.hid (HL.out.below hb1)
  clear HL 
  have HL:=HLx
  clear HLx 
  clear hb1 hq1
  go_wp2_with fail
  have h5:n5≤99:=by rw [HN5.out];exact hm99
  have HIj:Hid (Chk.firstF ((rf.drop 0).flatMap (Chk.typesF x rn)++(x.records.drop (k+1)).flatMap (Chk.typesR x))=R):=HIk
  go_loopw [9] (fun i wr=>∃ (j:Nat),j≤n5∧i=.int .i64 j∧Hid (Chk.firstF ((rf.drop j).flatMap (Chk.typesF x rn)++(x.records.drop (k+1)).flatMap (Chk.typesR x))=R)∧Hid (Bk wr V1.heap.size 54 #[.string rn,.bool rc,.slice A5 n5 c5])∧Hid (Chk.Lx w wr #[.string x.name,.slice (some ⟨g1,off1,none⟩) n1 c1,.slice A2 n2 c2,.slice A3 n3 c3])) (fun i _=>n5 - (intOf i).toNat)
  case atStart=>exact ⟨0,by omega,rfl,HIj,HB1,HL⟩
  case round =>
   clear HL HB1 HIj HIk
   obtain ⟨j,hj,rfl,HJ,HB1,HL⟩:=hrel
   obtain ⟨V2,rfl⟩:∃ w',w'=wr:=⟨_,rfl⟩
   have ij0:(0:Int)≤(j:Int):=by omega
   obtain ⟨⟨b0,b1,b2⟩,-⟩:=HB1.out.k3
   by_cases hlj:j<n5
   case neg =>
    have HI3:Hid (Chk.firstF ((x.records.drop (k+1)).flatMap (Chk.typesR x))=R):=Lib.hid (by have h:=HJ.out;rw [List.drop_of_length_le (by have:=HN5.out;omega)] at h;exact h)
    clear HJ
    go_wp2_with fail
    go_roundw
    case rel=>exact ⟨k+1,by omega,by go_num,HI3,HL⟩
    case measure=>simp [intOf] <;> omega
   have hkbj:j<rf.length:=by rw [←HN5.out];exact hlj
   obtain ⟨g2,off2,cs,rfl,-,⟨u,he,HU⟩,hc⟩:=ERow.get H5.out hkbj (by omega)
   obtain ⟨r,Hr⟩:∃ r,Hid (rf[j]=r):=⟨_,Lib.hid rfl⟩
   rw [Hr.out] at he HU
   obtain ⟨yn,yt⟩:=r
   subst he
   simp only at HU hc
   obtain ⟨A7,n7,c7,rfl⟩:=ERow.is HU
   have HN7:Hid (n7=yt.length):=Lib.hid (by obtain ⟨_,_,e,_⟩:=ERow.slice HU;injection e)
   have hm7:n7≤9223372036854775807:=by obtain ⟨_,_,e,_,_⟩:=ERow.slice HU;injection e;omega
   have H7:=Lib.hid HU
   clear HU
   have HDj:Hid (rf.drop j=⟨yn,yt⟩::rf.drop (j+1)):=Lib.hid (by rw [List.drop_eq_getElem_cons hkbj,Hr.out])
   have a0:=hc 0 _ rfl
   have a1:=hc 1 _ rfl
   simp only [Nat.add_zero] at a0
   have hgl2:g2<w.heap.size:=World.block_lt_of_cell? w _ a0
   have a0:=(HL.out.bel.cell hgl2).trans a0
   have a1:=(HL.out.bel.cell hgl2).trans a1
   have i21:(j:Int)<(n5:Int):=by omega
   clear hc Hr
   have hfok:=HMS.out ⟨yn,yt⟩ (by rw [←getElem_of_drop hkbj HDj.out];exact List.getElem_mem _)
   simp only at hfok
   have hyn:=hfok.1
   clear hfok
   obtain ⟨T,HT⟩:∃ T,Hid (Chk.right x yt=T):=⟨_,Lib.hid rfl⟩
   have HJ1:Hid (Chk.firstF ((T,Chk.part rn yn)::((rf.drop (j+1)).flatMap (Chk.typesF x rn)++(x.records.drop (k+1)).flatMap (Chk.typesR x)))=R):=Lib.hid (by have h:=HJ.out;rw [HDj.out,List.flatMap_cons,List.append_assoc] at h;rw [←HT.out];exact h)
   clear HJ
   obtain ⟨⟨q0,q1,q2,q3⟩,-⟩:=HL.out.box.k4
   have hS7:Id.SortsR V2 none (.slice A7 n7 c7) yt:=ERow.below H7.out HL.out.bel (fun _ _ h=>h)
   have HS7:=Lib.hid hS7
   clear hS7
   have HVV:=Lib.hid (Id.SchV.below HL.out.bel HV.out)
   have hcall:∀ W,Bl V2 W→Calls Tryz.prog 115 #[.agg #[.string x.name,.slice (some ⟨g1,off1,none⟩) n1 c1,.slice A2 n2 c2,.slice A3 n3 c3],.slice A7 n7 c7] W fun e w'=>e=.returned (.bool T)∧Bl V2 w':=fun W hW=>by have h:=calls_bl hW (rright_any _ x _ yt W (Id.SchV.below hW HVV.out) (ERow.below HS7.out hW (fun _ _ h=>h)));rw [HT.out] at h;exact h
   have HC:=Lib.hid hcall
   clear hcall
   go_wp2_with fail
   have dB2:=fun (w':World) (hb:Bl V2 w')=>(Bk.k3 (HB1.out.below hb HB1.out.lt)).1.2.2
   have dS:∀ w',Bl V2 w'→Bk w' w.heap.size 33 #[.string x.name,.slice (some ⟨g1,off1,none⟩) n1 c1,.slice A2 n2 c2,.slice A3 n3 c3]:=fun w' hb=>HL.out.box.below hb HL.out.box.lt
   have dA1:∀ w',Bl V2 w'→w'.cell? _=_:=fun w' hb=>(hb.cell (Nat.lt_of_lt_of_le hgl2 HL.out.bel.size)).trans a1
   clear a0 a1 b0 b1 b2 q0 q1 q2 q3
   refine wp_region_bl V2 (by kernel_rfl) (by kernel_rfl) (Bl.refl _) ?_
   repeat (first | go_big_quiet_step ((intro hb;exact HC.out _ hb)) | (refine wpQuiet_step (fun K hK=>?_);rw [if_pos (by rfl)];refine quiet_load_row _ _ rfl _ rfl _ _ _ (by assumption) Tryz.underlying33 rfl (by kernel_rfl) ?_;go_simp;refine hK _ ?_;clear hK K) | (refine wpQuiet_step (fun K hK=>?_);rw [if_pos (by rfl)];refine Lst.load_cell _ _ rfl _ rfl _ (by assumption) _ Tryz.underlying52 rfl ?_;go_simp;refine hK _ ?_;clear hK K) | (refine wpQuiet_step (fun K hK=>?_);rw [if_pos (by rfl)];refine Lst.load_cell _ _ rfl _ rfl _ (by assumption) _ Tryz.underlying55 rfl ?_;go_simp;refine hK _ ?_;clear hK K) | (refine wpQuiet_step (fun K hK=>?_);go_simp;refine ⟨_,fun _ _=>rfl,hK _ ?_⟩;clear hK K))
   refine wpQuiet_nil ?_
   intro w9 hw9
   clear dB2 dS dA1
   have HLx:=Lib.hid (HL.out.below hw9)
   have HB1x:=Lib.hid (HB1.out.below hw9 HB1.out.lt)
   clear HL HB1
   have HL:=HLx
   have HB1:=HB1x
   clear HLx HB1x
   cases T
   case true =>
    have HI4:Hid (Chk.firstF ((rf.drop (j+1)).flatMap (Chk.typesF x rn)++(x.records.drop (k+1)).flatMap (Chk.typesR x))=R):=HJ1
    go_wp2_with fail
    go_roundw
    case rel=>exact ⟨j+1,by omega,by go_num,HI4,HB1,HL⟩
    case measure=>simp [intOf] <;> omega
   have HE:Hid (R=some (Chk.part rn yn)):=Lib.hid HJ1.out.symm
   obtain ⟨⟨b0,b1,b2⟩,-⟩:=HB1.out.k3
   obtain ⟨g8,off8,cs,e8,-,⟨u8,he8,-⟩,hc⟩:=ERow.get H5.out hkbj (by omega)
   injection e8 with e8
   injection e8 with e8 e9
   subst e8 e9
   rw [getElem_of_drop hkbj HDj.out] at he8
   subst he8
   have a0:=hc 0 _ rfl
   simp only [Nat.add_zero] at a0
   have a0:=(HL.out.bel.cell hgl2).trans a0
   clear hc
   have z1:(9223372036854775807<rn.size+1)=False:=by simp;omega
   have z2:(9223372036854775807<rn.size+1+yn.size)=False:=by simp;omega
   go_wp2_with fail
   go_quiet (fail)
   go_wp2_with fail
   go_ret2
   exact ⟨by rw [HE.out];rfl,below_drewN HL.out.bel _⟩
end Go.Proofs.YtlbihaikppkecaaGreatDoor
