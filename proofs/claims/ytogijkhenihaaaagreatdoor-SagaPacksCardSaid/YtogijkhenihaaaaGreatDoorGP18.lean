/- prints: Text, Print (printed by gen_prnc.py). No condition but the keywords' table and a schema that is Fine. -/
import Derived.Test.YtogijkhenihaaaaGreatDoorGP08
import Derived.Test.YtogijkhenihaaaaGreatDoorGP16
import Derived.Test.YtogijkhenihaaaaGreatDoorGP15
import Derived.Test.YtogijkhenihaaaaGreatDoorGP17
import Derived.Test.YtogijkhenihaaaaGreatDoorGP02
import Derived.Test.YtogijkhenihaaaaGreatDoorGP04
set_option linter.unusedVariables false
set_option linter.unusedSimpArgs false
namespace Go.Proofs.YtogijkhenihaaaaGreatDoor
open Go.RowKit Go.BigFrame
namespace Prn
open Go.Proofs.YtogijkhenihaaaaGreatDoor.Id Go.Proofs.YtogijkhenihaaaaGreatDoor.Chk
theorem flat_le {α β:Type} {f:α→List β} {l:List α} {m:Nat} (h:∀ a∈l,(f a).length≤m):(l.flatMap f).length≤l.length * m:=by
 induction l with
 | nil=>simp
 | cons a l ih =>
  rw [List.flatMap_cons,List.length_append,List.length_cons,Nat.succ_mul]
  have:=h a (by simp)
  have:=ih (fun b hb=>h b (by simp [hb]))
  omega
theorem jl_le {m:Nat}:∀ {l:List ByteArray},(∀ u∈l,u.size≤m)→(jl l).length≤l.length * (m+1)
 | [],h=>by simp [jl]
 | a::l,h=>by
  have h1:a.data.toList.length≤m:=by have:=h a (by simp);simpa using this
  have h2:(l.flatMap fun u=>32::u.data.toList).length≤l.length * (m+1):=flat_le (fun u hu=>by have:=h u (by simp [hu]);simpa using this)
  show (a.data.toList++_).length≤_
  rw [List.length_append,List.length_cons,Nat.succ_mul]
  omega
theorem fld_len {f:Fld} (h:f.type.length≤1000):(fldW f).length≤1003:=by simp [fldW];omega
theorem rec_len {x:Sch} (h:Fine x) {r:Rec} (hr:r∈x.records):(recW r).length≤99301:=by
 obtain ⟨_,h2,h3⟩:=h.re r hr
 have:=flat_le (f:=fldW) (l:=r.fields) (fun f hf=>fld_len (h3 f hf).2.1)
 have h4:r.fields.length * 1003≤99 * 1003:=Nat.mul_le_mul_right _ h2
 simp only [recW,List.length_cons,List.length_append,List.length_nil]
 omega
theorem undo_len (m:Mth):(undoW m).length≤2:=by unfold undoW;split <;> simp
theorem svc_len {x:Sch} (h:Fine x) {v:Svc} (hv:v∈x.services):(svcW v).length≤99301:=by
 obtain ⟨_,h2,_⟩:=h.sv v hv
 have:=flat_le (f:=mthW) (l:=v.methods) (m:=10) (fun m _=>by have:=undo_len m;simp [mthW];omega)
 have h4:v.methods.length * 10≤99 * 10:=Nat.mul_le_mul_right _ h2
 simp only [svcW,List.length_cons,List.length_append,List.length_nil]
 omega
theorem sag_len {x:Sch} (h:Fine x) {g:Sag} (hg:g∈x.sagas):(sagW g).length≤99301:=by
 obtain ⟨_,h2,_⟩:=h.sa g hg
 have:=flat_le (f:=stpW) (l:=g.steps) (m:=7) (fun m _=>by simp [stpW])
 have h4:g.steps.length * 7≤99 * 7:=Nat.mul_le_mul_right _ h2
 simp only [sagW,List.length_cons,List.length_append,List.length_nil]
 omega
theorem sch_len {x:Sch} (h:Fine x):(schW x).length≤297903003:=by
 have h1:=flat_le (f:=recW) (fun r hr=>rec_len h hr)
 have h2:=flat_le (f:=svcW) (fun r hr=>svc_len h hr)
 have h3:=flat_le (f:=sagW) (fun r hr=>sag_len h hr)
 have k1:x.records.length * 99301≤1000 * 99301:=Nat.mul_le_mul_right _ h.recs
 have k2:x.services.length * 99301≤1000 * 99301:=Nat.mul_le_mul_right _ h.svcs
 have k3:x.sagas.length * 99301≤1000 * 99301:=Nat.mul_le_mul_right _ h.sags
 simp only [schW,List.length_cons,List.length_append]
 omega
theorem sch_size {x:Sch} (h:Right x):∀ u∈schW x,u.size≤32:=by
 have:=owns_size (owns_sch (ok_of_right h))
 rwa [sch_tx] at this
theorem sch_jl {x:Sch} (h:Right x) (hF:Fine x):(jl (schW x)).length≤9830799099:=by
 have h1:=jl_le (sch_size h)
 have h2:(schW x).length * (32+1)≤297903003 * (32+1):=Nat.mul_le_mul_right _ (sch_len hF)
 omega
theorem sch_steps {x:Sch} (h:Right x) {g:Sag} (hg:g∈x.sagas):∀ p∈g.steps,0≤p.at_∧p.at_<100:=fun p hp=>by
 have:=(ok_of_right h).gs g hg p hp
 exact ⟨this.lo,by have:=this.hi;omega⟩
theorem jn_size (l:List ByteArray):(jn l).size=(jl l).length:=by simp [jn,ByteArray.size]
/-- A schema's text, or why there is none. -/
noncomputable def text (x:Sch):ByteArray × Nat:=if (check x).2≠0 then (⟨#[]⟩,(check x).2) else if 65536<(jn (schW x)).size then (⟨#[]⟩,3) else (jn (schW x),0)
theorem text_size (x:Sch):(text x).1.size≤65536:=by
 unfold text
 split
 ·exact Nat.zero_le _
 ·split
  ·exact Nat.zero_le _
  next h=>show (jn (schW x)).size≤65536;omega
noncomputable def print (x:Sch):Nat × Nat:=if (text x).2≠0 then (0,(text x).2) else (Sm.print (text x).1.data.toList,0)
end Prn
set_option maxRecDepth 100000 in
set_option maxHeartbeats 16000000 in
theorem pText_any (v:Value) (x:Id.Sch) (hF:Chk.Fine x) (w:World) (hk:Tk.KW w) (hv:Id.SchV w none v x) :
  Calls Tryz.prog 13 #[v] w fun e w'=>e=.returned (Chk.docV (Prn.text x))∧Below w.heap.size w w':=by
 obtain ⟨R,HR⟩:∃ R,Hid (Prn.text x=R):=⟨_,Lib.hid rfl⟩
 rw [HR.out]
 have HF:=Lib.hid hF
 have HKW:=Lib.hid hk
 have HV:=Lib.hid hv
 obtain ⟨A1,n1,c1,A2,n2,c2,A3,n3,c3,rfl,r1,r2,r3⟩:=hv
 have HN1:Hid (n1=x.records.length):=Lib.hid (by obtain ⟨_,_,e,_⟩:=ERow.slice r1;injection e)
 have hm1:n1≤9223372036854775807:=by obtain ⟨_,_,e,_,_⟩:=ERow.slice r1;injection e;omega
 have H1:=Lib.hid r1
 have HN2:Hid (n2=x.services.length):=Lib.hid (by obtain ⟨_,_,e,_⟩:=ERow.slice r2;injection e)
 have hm2:n2≤9223372036854775807:=by obtain ⟨_,_,e,_,_⟩:=ERow.slice r2;injection e;omega
 have H2:=Lib.hid r2
 have HN3:Hid (n3=x.sagas.length):=Lib.hid (by obtain ⟨_,_,e,_⟩:=ERow.slice r3;injection e)
 have hm3:n3≤9223372036854775807:=by obtain ⟨_,_,e,_,_⟩:=ERow.slice r3;injection e;omega
 have H3:=Lib.hid r3
 clear r1 r2 r3 hk hF
 go_enter Tryz.func13,Tryz.ntmps13
 go_upto_region 1 with (fail)
 refine wp_named (fun V hV=>?_)
 have HL:=Lib.hid (Chk.Lx.start hV)
 clear hV
 obtain ⟨⟨q0,q1,q2,q3⟩,-⟩:=HL.out.box.k4
 obtain ⟨p,Hp⟩:∃ p,Hid (Chk.check x=p):=⟨_,Lib.hid rfl⟩
 go_wp2_with fail
 refine (ccheck_any _ x HF.out _ (HKW.out.below HL.out.bel) (Id.SchV.below HL.out.bel HV.out)).mono ?_
 rw [Hp.out]
 rintro e W1 ⟨rfl,hb⟩
 have HLx:=Lib.hid (HL.out.below hb)
 clear HL hb q0 q1 q2 q3
 obtain ⟨ps,pe⟩:=p
 simp only
 by_cases hpe:pe=0
 case neg =>
  have HE:Hid (R=(⟨#[]⟩,pe)):=Lib.hid (by rw [←HR.out];unfold Prn.text;rw [Hp.out,if_pos hpe])
  have t1:((pe:Int) != 0)=true:=by rw [bne_iff_ne];omega
  have t2:¬(pe:Int)=0:=by omega
  have t3:((pe:Int)==0)=false:=by rw [beq_eq_false_iff_ne];omega
  clear hpe
  go_wp2_with fail
  go_ret2
  exact ⟨by rw [HE.out];rfl,HLx.out.bel⟩
 subst hpe
 have hRt:=Chk.check_ok (x:=x) (by rw [Hp.out])
 have HRt:=Lib.hid hRt
 have HRR:Hid ((if 65536<(Prn.jn (Prn.schW x)).size then ((⟨#[]⟩:ByteArray),3) else (Prn.jn (Prn.schW x),0))=R):=Lib.hid (by rw [←HR.out];unfold Prn.text;rw [Hp.out];exact (if_neg (by simp)).symm)
 have HJL:=Lib.hid (Prn.sch_jl hRt HF.out)
 have HLEN:=Lib.hid (Prn.sch_len HF.out)
 clear hRt HR Hp
 obtain ⟨⟨q0,q1,q2,q3⟩,-⟩:=HLx.out.box.k4
 have bq:=HLx.out.bel.size
 go_upto_region 5 with (fail)
 refine wp_named (fun W2 hW=>?_)
 obtain ⟨hbx,hqx,-⟩:=fresh_box hW
 have HBX:=Lib.hid (HLx.out.box.below hbx HLx.out.box.lt)
 have hb2:=HLx.out.bel.trans (hbx.mono bq)
 have hwr:Prn.Wr W2 w.heap.size W1.heap.size []:=⟨bq,hb2.size,_,hqx,ERow.nil _ _ _ _ _⟩
 have HP:=Lib.hid (Prn.Put.start hb2 hwr)
 clear hW hbx hqx hb2 hwr HLx q0 q1 q2 q3
 obtain ⟨⟨q0,q1,q2,q3⟩,-⟩:=HBX.out.k4
 have HSW:Hid (Prn.schW x=[Id.wModule,x.name,Id.sSemi]++x.records.flatMap Prn.recW++x.services.flatMap Prn.svcW++x.sagas.flatMap Prn.sagW):=Lib.hid (by simp [Prn.schW])
 have hlen:(x.records.flatMap Prn.recW).length+(x.services.flatMap Prn.svcW).length+(x.sagas.flatMap Prn.sagW).length+3≤297903003:=by have h:=HLEN.out;rw [HSW.out] at h;simp only [List.length_append,List.length_cons,List.length_nil] at h;omega
 have HBX2:=HBX
 go_wp2_with fail
 refine (pwput_lit W1.heap.size [] [Id.wModule,x.name,Id.sSemi] 3 #[.string Id.wModule,.string x.name,.string Id.sSemi] rfl rfl w W2 _ _ HP.out (by simp)).mono ?_
 rintro e W3 ⟨rfl,hp⟩
 have HP3:=Lib.hid hp
 have hbx3:=hp.on.bk HBX2.out (by decide) (by decide)
 clear hp HP q0 q1 q2 q3
 have HBX:=Lib.hid hbx3
 clear hbx3
 obtain ⟨⟨q0,q1,q2,q3⟩,-⟩:=HBX.out.k4
 go_wp2_with fail
 go_loopw [32] (fun i wr=>∃ (k:Nat),k≤n1∧i=.int .i64 k∧Hid (Prn.Put w W2 W1.heap.size [] ([Id.wModule,x.name,Id.sSemi]++(x.records.take k).flatMap Prn.recW) wr)) (fun i _=>n1 - (intOf i).toNat)
 case atStart=>exact ⟨0,by omega,rfl,HP3⟩
 case round =>
  clear q0 q1 q2 q3 HP3 HBX
  obtain ⟨k,hk,rfl,HP⟩:=hrel
  obtain ⟨V1,rfl⟩:∃ w',w'=wr:=⟨_,rfl⟩
  have ik0:(0:Int)≤(k:Int):=by omega
  have HBX:=Lib.hid (HP.out.on.bk HBX2.out (by decide) (by decide))
  obtain ⟨⟨q0,q1,q2,q3⟩,-⟩:=HBX.out.k4
  by_cases hlt:k<n1
  case neg =>
   have HPn:Hid (Prn.Put w W2 W1.heap.size [] ([Id.wModule,x.name,Id.sSemi]++x.records.flatMap Prn.recW) V1):=Lib.hid (by have h:=HP.out;rw [List.take_of_length_le (by have:=HN1.out;omega)] at h;exact h)
   clear HP
   go_wp2_with fail
   go_loopw [43] (fun i wr=>∃ (k:Nat),k≤n2∧i=.int .i64 k∧Hid (Prn.Put w W2 W1.heap.size [] ([Id.wModule,x.name,Id.sSemi]++x.records.flatMap Prn.recW++(x.services.take k).flatMap Prn.svcW) wr)) (fun i _=>n2 - (intOf i).toNat)
   case atStart=>exact ⟨0,by omega,rfl,Lib.hid (HPn.out.cast (by rw [List.take_zero,List.flatMap_nil,List.append_nil]))⟩
   case round =>
    clear q0 q1 q2 q3 HPn HBX
    obtain ⟨k,hk,rfl,HP⟩:=hrel
    obtain ⟨V1,rfl⟩:∃ w',w'=wr:=⟨_,rfl⟩
    have ik0:(0:Int)≤(k:Int):=by omega
    have HBX:=Lib.hid (HP.out.on.bk HBX2.out (by decide) (by decide))
    obtain ⟨⟨q0,q1,q2,q3⟩,-⟩:=HBX.out.k4
    by_cases hlt:k<n2
    case neg =>
     have HPn:Hid (Prn.Put w W2 W1.heap.size [] ([Id.wModule,x.name,Id.sSemi]++x.records.flatMap Prn.recW++x.services.flatMap Prn.svcW) V1):=Lib.hid (by have h:=HP.out;rw [List.take_of_length_le (by have:=HN2.out;omega)] at h;exact h)
     clear HP
     go_wp2_with fail
     go_loopw [54] (fun i wr=>∃ (k:Nat),k≤n3∧i=.int .i64 k∧Hid (Prn.Put w W2 W1.heap.size [] ([Id.wModule,x.name,Id.sSemi]++x.records.flatMap Prn.recW++x.services.flatMap Prn.svcW++(x.sagas.take k).flatMap Prn.sagW) wr)) (fun i _=>n3 - (intOf i).toNat)
     case atStart=>exact ⟨0,by omega,rfl,Lib.hid (HPn.out.cast (by rw [List.take_zero,List.flatMap_nil,List.append_nil]))⟩
     case round =>
      clear q0 q1 q2 q3 HPn HBX
      obtain ⟨k,hk,rfl,HP⟩:=hrel
      obtain ⟨V1,rfl⟩:∃ w',w'=wr:=⟨_,rfl⟩
      have ik0:(0:Int)≤(k:Int):=by omega
      have HBX:=Lib.hid (HP.out.on.bk HBX2.out (by decide) (by decide))
      obtain ⟨⟨q0,q1,q2,q3⟩,-⟩:=HBX.out.k4
      by_cases hlt:k<n3
      case neg =>
       have HPn:Hid (Prn.Put w W2 W1.heap.size [] ([Id.wModule,x.name,Id.sSemi]++x.records.flatMap Prn.recW++x.services.flatMap Prn.svcW++x.sagas.flatMap Prn.sagW) V1):=Lib.hid (by have h:=HP.out;rw [List.take_of_length_le (by have:=HN3.out;omega)] at h;exact h)
       clear HP
       have HPz:Hid (Prn.Put w W2 W1.heap.size [] (Prn.schW x) V1):=Lib.hid (HPn.out.cast HSW.out.symm)
       clear HPn
       go_wp2_with fail
       refine (pwtext_any W1.heap.size (Prn.schW x) w.heap.size V1 (by have h:=HPz.out.wr;rw [List.nil_append] at h;exact h) (by have:=HLEN.out;omega) (by have:=HJL.out;omega)).mono ?_
       rintro e V9 ⟨rfl,hb9⟩
       have HJ9:Hid (V9=V9):=Lib.hid rfl
       have HB9:=Lib.hid (HPz.out.bel.trans (hb9.mono HPz.out.bel.size))
       generalize Prn.jn (Prn.schW x)=J at *
       clear hb9
       by_cases h6:65536<J.size
       case pos =>
        have HE:Hid (R=(⟨#[]⟩,3)):=Lib.hid (by rw [←HRR.out,if_pos h6])
        have h6i:(65536:Int)<(J.size:Int):=by omega
        go_wp2_with fail
        go_ret2
        exact ⟨by rw [HE.out];rfl,HB9.out⟩
       have HE:Hid (R=(J,0)):=Lib.hid (by rw [←HRR.out,if_neg h6])
       have h6i:¬(65536:Int)<(J.size:Int):=by omega
       go_wp2_with fail
       go_ret2
       exact ⟨by rw [HE.out];rfl,HB9.out⟩
      have hka:k<x.sagas.length:=by rw [←HN3.out];exact hlt
      have hmem:=List.getElem_mem hka
      have hfl:=Prn.flat_take_le Prn.sagW hka
      have HTK:=Lib.hid (Prn.take_flat Prn.sagW hka)
      obtain ⟨g1,off1,cs,rfl,-,⟨u,he,HU⟩,hc⟩:=ERow.get H3.out hka (by omega)
      have HATS:=Lib.hid (Prn.sch_steps HRt.out hmem)
      obtain ⟨r,Hr⟩:∃ r,Hid (x.sagas[k]=r):=⟨_,Lib.hid rfl⟩
      rw [Hr.out] at he HU hfl HTK HATS
      subst he
      have HU5:=Lib.hid HU
      obtain ⟨A5,n5,c5,rfl⟩:=ERow.is HU
      have b0:=hc 0 _ rfl
      have b1:=hc 1 _ rfl
      have b2:=hc 2 _ rfl
      simp only [Nat.add_zero] at b0
      have hgl1:g1<w.heap.size:=World.block_lt_of_cell? w _ b0
      have b0:=(HP.out.bel.cell hgl1).trans b0
      have b1:=(HP.out.bel.cell hgl1).trans b1
      have b2:=(HP.out.bel.cell hgl1).trans b2
      have bqs:=HP.out.bel.size
      have hgne:¬g1=V1.heap.size:=by omega
      have ik1:(k:Int)<(n3:Int):=by omega
      generalize hM:((x.sagas.take k).flatMap Prn.sagW).length=m at hfl
      have HM:=Lib.hid hM
      generalize hM2:(Prn.sagW r).length=m2 at hfl
      have HM2:=Lib.hid hM2
      clear hc HU hM hM2 Hr bqs hmem
      go_upto_region 19 with (fail)
      refine wp_named (fun V2 hW=>?_)
      obtain ⟨hbx,hqx,-⟩:=fresh_box hW
      have HPc:=Lib.hid (HP.out.below hbx)
      obtain ⟨⟨d0,d1,d2⟩,-⟩:=hqx.k3
      clear hW hbx hqx HP q0 q1 q2 q3 b0 b1 b2
      go_wp2_with fail
      refine (pwsaga_any W1.heap.size _ r _ w V2 HPc.out.bel HPc.out.wr HU5.out HATS.out (by simp only [List.length_append,List.length_cons,List.length_nil,HM.out,HM2.out];omega)).mono ?_
      rintro e V3 ⟨rfl,hp⟩
      have HPg:Hid (Prn.Put w W2 W1.heap.size [] ([Id.wModule,x.name,Id.sSemi]++x.records.flatMap Prn.recW++x.services.flatMap Prn.svcW++(x.sagas.take (k+1)).flatMap Prn.sagW) V3):=Lib.hid ((HPc.out.step hp).cast (by rw [HTK.out];simp only [List.append_assoc,List.nil_append]))
      clear hp
      go_wp2_with fail
      go_roundw
      case rel=>exact ⟨k+1,by omega,by go_num,HPg⟩
      case measure=>simp [intOf] <;> omega
    have hka:k<x.services.length:=by rw [←HN2.out];exact hlt
    have hmem:=List.getElem_mem hka
    have hfl:=Prn.flat_take_le Prn.svcW hka
    have HTK:=Lib.hid (Prn.take_flat Prn.svcW hka)
    obtain ⟨g1,off1,cs,rfl,-,⟨u,he,HU⟩,hc⟩:=ERow.get H2.out hka (by omega)
    obtain ⟨r,Hr⟩:∃ r,Hid (x.services[k]=r):=⟨_,Lib.hid rfl⟩
    rw [Hr.out] at he HU hfl HTK
    subst he
    have HU5:=Lib.hid HU
    obtain ⟨A5,n5,c5,rfl⟩:=ERow.is HU
    have b0:=hc 0 _ rfl
    have b1:=hc 1 _ rfl
    simp only [Nat.add_zero] at b0
    have hgl1:g1<w.heap.size:=World.block_lt_of_cell? w _ b0
    have b0:=(HP.out.bel.cell hgl1).trans b0
    have b1:=(HP.out.bel.cell hgl1).trans b1
    have bqs:=HP.out.bel.size
    have hgne:¬g1=V1.heap.size:=by omega
    have ik1:(k:Int)<(n2:Int):=by omega
    generalize hM:((x.services.take k).flatMap Prn.svcW).length=m at hfl
    have HM:=Lib.hid hM
    generalize hM2:(Prn.svcW r).length=m2 at hfl
    have HM2:=Lib.hid hM2
    clear hc HU hM hM2 Hr bqs hmem
    go_upto_region 14 with (fail)
    refine wp_named (fun V2 hW=>?_)
    obtain ⟨hbx,hqx,-⟩:=fresh_box hW
    have HPc:=Lib.hid (HP.out.below hbx)
    obtain ⟨⟨d0,d1⟩,-⟩:=hqx.k2
    clear hW hbx hqx HP q0 q1 q2 q3 b0 b1
    go_wp2_with fail
    refine (pwservice_any W1.heap.size _ r _ w V2 HPc.out.bel HPc.out.wr HU5.out (by simp only [List.length_append,List.length_cons,List.length_nil,HM.out,HM2.out];omega)).mono ?_
    rintro e V3 ⟨rfl,hp⟩
    have HPg:Hid (Prn.Put w W2 W1.heap.size [] ([Id.wModule,x.name,Id.sSemi]++x.records.flatMap Prn.recW++(x.services.take (k+1)).flatMap Prn.svcW) V3):=Lib.hid ((HPc.out.step hp).cast (by rw [HTK.out];simp only [List.append_assoc,List.nil_append]))
    clear hp
    go_wp2_with fail
    go_roundw
    case rel=>exact ⟨k+1,by omega,by go_num,HPg⟩
    case measure=>simp [intOf] <;> omega
  have hka:k<x.records.length:=by rw [←HN1.out];exact hlt
  have hmem:=List.getElem_mem hka
  have hfl:=Prn.flat_take_le Prn.recW hka
  have HTK:=Lib.hid (Prn.take_flat Prn.recW hka)
  obtain ⟨g1,off1,cs,rfl,-,⟨u,he,HU⟩,hc⟩:=ERow.get H1.out hka (by omega)
  obtain ⟨r,Hr⟩:∃ r,Hid (x.records[k]=r):=⟨_,Lib.hid rfl⟩
  rw [Hr.out] at he HU hfl HTK
  subst he
  have HU5:=Lib.hid HU
  obtain ⟨A5,n5,c5,rfl⟩:=ERow.is HU
  have b0:=hc 0 _ rfl
  have b1:=hc 1 _ rfl
  have b2:=hc 2 _ rfl
  simp only [Nat.add_zero] at b0
  have hgl1:g1<w.heap.size:=World.block_lt_of_cell? w _ b0
  have b0:=(HP.out.bel.cell hgl1).trans b0
  have b1:=(HP.out.bel.cell hgl1).trans b1
  have b2:=(HP.out.bel.cell hgl1).trans b2
  have bqs:=HP.out.bel.size
  have hgne:¬g1=V1.heap.size:=by omega
  have ik1:(k:Int)<(n1:Int):=by omega
  generalize hM:((x.records.take k).flatMap Prn.recW).length=m at hfl
  have HM:=Lib.hid hM
  generalize hM2:(Prn.recW r).length=m2 at hfl
  have HM2:=Lib.hid hM2
  clear hc HU hM hM2 Hr bqs hmem
  go_upto_region 9 with (fail)
  refine wp_named (fun V2 hW=>?_)
  obtain ⟨hbx,hqx,-⟩:=fresh_box hW
  have HPc:=Lib.hid (HP.out.below hbx)
  obtain ⟨⟨d0,d1,d2⟩,-⟩:=hqx.k3
  clear hW hbx hqx HP q0 q1 q2 q3 b0 b1 b2
  go_wp2_with fail
  refine (pwrecord_any W1.heap.size _ r _ w V2 HPc.out.bel HPc.out.wr HU5.out (by simp only [List.length_append,List.length_cons,List.length_nil,HM.out,HM2.out];omega)).mono ?_
  rintro e V3 ⟨rfl,hp⟩
  have HPg:Hid (Prn.Put w W2 W1.heap.size [] ([Id.wModule,x.name,Id.sSemi]++(x.records.take (k+1)).flatMap Prn.recW) V3):=Lib.hid ((HPc.out.step hp).cast (by rw [HTK.out];simp only [List.append_assoc,List.nil_append]))
  clear hp
  go_wp2_with fail
  go_roundw
  case rel=>exact ⟨k+1,by omega,by go_num,HPg⟩
  case measure=>simp [intOf] <;> omega
set_option maxRecDepth 100000 in
set_option maxHeartbeats 8000000 in
theorem pPrint_any (v:Value) (x:Id.Sch) (hF:Chk.Fine x) (w:World) (hk:Tk.KW w) (hv:Id.SchV w none v x) :
  Calls Tryz.prog 14 #[v] w fun e w'=>e=.returned (.tuple #[.int .u64 (Prn.print x).1,.int .i64 (Prn.print x).2])∧Below w.heap.size w w':=by
 obtain ⟨R,HR⟩:∃ R,Hid (Prn.print x=R):=⟨_,Lib.hid rfl⟩
 rw [HR.out]
 have HF:=Lib.hid hF
 have HKW:=Lib.hid hk
 have HV:=Lib.hid hv
 obtain ⟨A1,n1,c1,A2,n2,c2,A3,n3,c3,rfl,r1,r2,r3⟩:=hv
 clear r1 r2 r3 hk hF
 go_enter Tryz.func14,Tryz.ntmps14
 go_upto_region 1 with (fail)
 refine wp_named (fun V hV=>?_)
 have HL:=Lib.hid (Chk.Lx.start hV)
 clear hV
 obtain ⟨⟨q0,q1,q2,q3⟩,-⟩:=HL.out.box.k4
 have hts:=Prn.text_size x
 obtain ⟨p,Hp⟩:∃ p,Hid (Prn.text x=p):=⟨_,Lib.hid rfl⟩
 rw [Hp.out] at hts
 go_wp2_with fail
 refine (pText_any _ x HF.out _ (HKW.out.below HL.out.bel) (Id.SchV.below HL.out.bel HV.out)).mono ?_
 rw [Hp.out]
 unfold Chk.docV
 rintro e W1 ⟨rfl,hb⟩
 have HB:=Lib.hid (HL.out.bel.trans (hb.mono HL.out.bel.size))
 clear HL hb q0 q1 q2 q3
 obtain ⟨ps,pe⟩:=p
 simp only at hts ⊢
 by_cases hpe:pe=0
 case neg =>
  have HE:Hid (R=(0,pe)):=Lib.hid (by rw [←HR.out];unfold Prn.print;rw [Hp.out,if_pos hpe])
  have t1:((pe:Int) != 0)=true:=by rw [bne_iff_ne];omega
  have t2:¬(pe:Int)=0:=by omega
  have t3:((pe:Int)==0)=false:=by rw [beq_eq_false_iff_ne];omega
  clear hpe
  go_wp2_with fail
  go_ret2
  exact ⟨by rw [HE.out];rfl,HB.out⟩
 subst hpe
 have HE:Hid (R=(Sm.print ps.data.toList,0)):=Lib.hid (by rw [←HR.out];unfold Prn.print;rw [Hp.out,if_neg (by simp)])
 go_wp2_with fail
 refine (long_any ps (by unfold maxLen;omega) _).mono ?_
 rintro e W2 ⟨rfl,rfl⟩
 go_wp2_with fail
 go_ret2
 exact ⟨by rw [HE.out];rfl,HB.out⟩
end Go.Proofs.YtogijkhenihaaaaGreatDoor
set_option linter.unusedVariables false
set_option linter.unusedSimpArgs false
namespace Go.Proofs.YtogijkhenihaaaaGreatDoor
namespace Sd
open Go.Proofs.YtogijkhenihaaaaGreatDoor.Id Go.Proofs.YtogijkhenihaaaaGreatDoor.Chk Go.Proofs.YtogijkhenihaaaaGreatDoor.Ev
theorem nil_empty:(⟨#[]⟩:ByteArray).toList.isEmpty=true:=by decide +kernel
noncomputable def foundE (x:Sch) (g:ByteArray):Nat:=if (Prn.print x).2≠0 then (Prn.print x).2 else if (sagaOf x g).isSome=true then 0 else 240
def sag (x:Sch) (g:ByteArray):Sag:=(sagaOf x g).getD sagZ
noncomputable def steps (x:Sch) (g:ByteArray):Nat × Nat:=if foundE x g≠0 then (0,foundE x g) else ((sag x g).steps.length,0)
noncomputable def letE (x:Sch) (g id:ByteArray) (i fr:Int):Nat:=if foundE x g≠0 then foundE x g else if idL id.data.toList=false∨fr<0∨4≤fr then 1 else if i<0∨((sag x g).steps.length:Int)≤i then 241 else 0
def stp (x:Sch) (g:ByteArray) (i:Int):Stp:=(sag x g).steps.getD i.toNat ⟨⟨#[]⟩,⟨#[]⟩,0⟩
noncomputable def base (x:Sch) (g id:ByteArray) (i fr:Int):Letter:=⟨0,fr,(stp x g i).at_,0,keyB id i false,(Prn.print x).1,(stp x g i).service,(stp x g i).method,0,ByteArray.empty⟩
noncomputable def letter (x:Sch) (g id:ByteArray) (i fr:Int):Letter × Nat:=if letE x g id i fr≠0 then (Letter.zero,letE x g id i fr) else (base x g id i fr,0)
def undoOf (x:Sch) (l:Letter):ByteArray:=((meth x l.svc l.mth).getD mthZ).undo
noncomputable def call (x:Sch) (g id:ByteArray) (i:Int) (back:Bool) (fr:Int) (body:ByteArray):Letter × Nat :=
 if letE x g id i fr≠0 then (Letter.zero,letE x g id i fr)
 else if back=false then ({ base x g id i fr with kind:=1,body:=body },0)
 else if (undoOf x (base x g id i fr)).toList.isEmpty=true then (Letter.zero,133)
 else ({ base x g id i fr with kind:=1,body:=body,mth:=undoOf x (base x g id i fr),key:=keyB id i true },0)
noncomputable def cancel (x:Sch) (g id:ByteArray) (i fr:Int):Letter × Nat:=if letE x g id i fr≠0 then (Letter.zero,letE x g id i fr) else ({ base x g id i fr with kind:=3 },0)
theorem letE_ok {x:Sch} {g id:ByteArray} {i fr:Int} (h:letE x g id i fr=0):foundE x g=0∧idL id.data.toList=true∧0≤fr∧fr<4∧0≤i∧i<((sag x g).steps.length:Int):=by
 unfold letE at h
 split at h
 ·rename_i h1;exact absurd h h1
 ·rename_i h1
  split at h
  ·cases h
  ·rename_i h2
   split at h
   ·cases h
   ·rename_i h3
    refine ⟨by omega,?_,by omega,by omega,by omega,by omega⟩
    by_cases h4:idL id.data.toList=true
    ·exact h4
    ·exact absurd (.inl (by simpa using h4)) h2
theorem found_ok {x:Sch} {g:ByteArray} (h:foundE x g=0):(Prn.print x).2=0∧(sagaOf x g).isSome=true∧sag x g∈x.sagas:=by
 unfold foundE at h
 split at h
 ·rename_i h1;exact absurd h h1
 ·rename_i h1
  split at h
  ·rename_i h2
   refine ⟨by omega,h2,?_⟩
   obtain ⟨s,hs⟩:=Option.isSome_iff_exists.1 h2
   unfold sag
   rw [hs]
   exact List.mem_of_find?_eq_some hs
  ·cases h
theorem print_right {x:Sch} (h:(Prn.print x).2=0):Right x:=by
 unfold Prn.print at h
 split at h
 ·rename_i h1;exact absurd h h1
 ·rename_i h1
  have h2:(Prn.text x).2=0:=by omega
  unfold Prn.text at h2
  split at h2
  ·rename_i h3;exact absurd h2 h3
  ·rename_i h3
   exact check_ok (by omega)
theorem meth_names {x:Sch} (hR:Right x) {a b:ByteArray} {m:Mth} (h:meth x a b=some m):Tk.isName a=true∧Tk.isName b=true:=by
 have hn:=(right_iff.1 hR).1
 unfold meth at h
 split at h
 ·cases h
 ·rename_i v hv
  have hvm:=List.mem_of_find?_eq_some hv
  have hvn:v.name.toList=a.toList:=by simpa using List.find?_some hv
  have hmm:=List.mem_of_find?_eq_some h
  have hmn:m.name.toList=b.toList:=by simpa using List.find?_some h
  have e1:=Tk.text_eq hvn
  have e2:=Tk.text_eq hmn
  subst e1 e2
  have hin:∀ t∈namesV v,t∈namesT x:=fun t ht=>by
   unfold namesT
   exact List.mem_cons_of_mem _ (List.mem_append_right _ (List.mem_append_left _ (List.mem_flatMap.2 ⟨v,hvm,ht⟩)))
  refine ⟨hn (nm v.name) (hin _ (by unfold namesV;exact List.mem_cons_self)),hn (nm m.name) (hin _ ?_)⟩
  unfold namesV
  exact List.mem_cons_of_mem _ (List.mem_flatMap.2 ⟨m,hmm,by simp [namesM]⟩)
theorem step_at {x:Sch} (hR:Right x) {g:Sag} (hg:g∈x.sagas) {k:Nat} (hk:k<g.steps.length):0≤g.steps[k].at_∧g.steps[k].at_<4:=by
 obtain ⟨_,_,_,_,_,_,_,_,hs,_⟩:=right_iff.1 hR
 have hz:(g.steps[k],k)∈g.steps.zipIdx:=by
  rw [List.mem_iff_getElem]
  exact ⟨k,by rw [List.length_zipIdx];exact hk,by rw [List.getElem_zipIdx,Nat.zero_add]⟩
 have h1:=hs (stepOk x g.arg g.steps[k],nth g.name k) (List.mem_flatMap.2 ⟨g,hg,List.mem_flatMap.2 ⟨_,hz,by simp [stepsP]⟩⟩)
 simp only at h1
 unfold stepOk at h1
 split at h1
 ·cases h1
 ·unfold stepOf at h1
  simp only [Bool.and_eq_true,decide_eq_true_eq] at h1
  exact ⟨h1.1.2,h1.2⟩
theorem name_ne {w:ByteArray} (h:Tk.isName w=true):w.toList.isEmpty=false:=by
 cases he:w.toList.isEmpty with
 | false=>rfl
 | true =>
  exfalso
  have e:w=⟨#[]⟩:=Tk.text_eq (by rw [List.isEmpty_iff.1 he];exact (List.isEmpty_iff.1 nil_empty).symm)
  subst e
  revert h
  decide +kernel
theorem steps_le {x:Sch} (hR:Right x) {g:Sag} (hg:g∈x.sagas):g.steps.length≤8:=by
 have hc:=(right_iff.1 hR).2.1 (decide (1≤(g.steps.length:Int))&&decide ((g.steps.length:Int)≤8),g.name) (by
  unfold countsT
  exact List.mem_cons_of_mem _ (List.mem_append_right _ (List.mem_append_right _ (List.mem_flatMap.2 ⟨g,hg,by simp [countsG]⟩))))
 simp only [Bool.and_eq_true,decide_eq_true_eq] at hc
 omega
/-- What is known of a step that can be called. -/
structure Good (x:Sch) (g id:ByteArray) (i fr:Int):Prop where
 rt:Right x
 idok:idL id.data.toList=true
 f0:0≤fr
 f4:fr<4
 i0:0≤i
 i8:i<8
 a0:0≤(stp x g i).at_
 a4:(stp x g i).at_<4
 m:∃ m,meth x (stp x g i).service (stp x g i).method=some m∧(i+1<((sag x g).steps.length:Int)→m.undo.toList.isEmpty=false)
theorem good_of {x:Sch} {g id:ByteArray} {i fr:Int} (h:letE x g id i fr=0):Good x g id i fr:=by
 obtain ⟨h1,h2,h3,h4,h5,h6⟩:=letE_ok h
 obtain ⟨f1,f2,f3⟩:=found_ok h1
 have hR:=print_right f1
 have hk:i.toNat<(sag x g).steps.length:=by omega
 have hst:stp x g i=(sag x g).steps[i.toNat]:=by
  unfold stp
  rw [List.getD_eq_getElem?_getD,List.getElem?_eq_getElem hk,Option.getD_some]
 have h8:=steps_le hR f3
 obtain ⟨a0,a4⟩:=step_at hR f3 hk
 obtain ⟨m,hm,_,hu⟩:=right_step hR f3 hk
 refine ⟨hR,h2,h3,h4,h5,by omega,by rw [hst];exact a0,by rw [hst];exact a4,m,by rw [hst];exact hm,fun hlt=>?_⟩
 obtain ⟨u,hum,_⟩:=hu (by omega)
 exact name_ne (meth_names hR hum).2
theorem undo_last {x:Sch} {g id:ByteArray} {i fr:Int} (h:letE x g id i fr=0) (hu:(undoOf x (base x g id i fr)).toList.isEmpty=true):i=((sag x g).steps.length:Int) - 1:=by
 obtain ⟨h1,h2,h3,h4,h5,h6⟩:=letE_ok h
 obtain ⟨m,hm,hul⟩:=(good_of h).m
 have e:undoOf x (base x g id i fr)=m.undo:=by
  unfold undoOf
  show ((meth x (stp x g i).service (stp x g i).method).getD mthZ).undo=_
  rw [hm]
  rfl
 rw [e] at hu
 by_cases hlt:i+1<((sag x g).steps.length:Int)
 ·rw [hul hlt] at hu
  cases hu
 ·omega
end Sd
end Go.Proofs.YtogijkhenihaaaaGreatDoor
set_option linter.unusedVariables false
set_option linter.unusedSimpArgs false
namespace Go.Proofs.YtogijkhenihaaaaGreatDoor
namespace Sg
open Go.Proofs.YtogijkhenihaaaaGreatDoor.Id Go.Proofs.YtogijkhenihaaaaGreatDoor.Chk Go.Proofs.YtogijkhenihaaaaGreatDoor.Ev Go.Proofs.YtogijkhenihaaaaGreatDoor.Sd
structure Run where
 id:ByteArray
 saga:ByteArray
 arg:ByteArray
 at_:Int
 phase:Nat
 tries:Int
 stop:Bool
 why:Int
 value:ByteArray
def Run.zero:Run:=⟨⟨#[]⟩,⟨#[]⟩,⟨#[]⟩,0,0,0,false,0,⟨#[]⟩⟩
def over (r:Run):Bool:=decide (3≤r.phase)&&decide (r.phase≤5)
section
variable (A : Sch → ByteArray → ByteArray → Nat) (x : Sch)
noncomputable def undE (r:Run):Nat:=(call x r.saga r.id r.at_ true 0 ⟨#[]⟩).2
/-- What stands with each phase. -/
noncomputable def okP (n:Int) (r:Run):Prop :=
 (r.phase=1→r.why=0)∧(r.phase=3→r.why=0∧r.at_=n - 1)∧(r.phase=4→r.why≠0∧r.at_=0)∧(r.phase=2∨r.phase=5→undE x r=0∧r.why≠0)∧1≤r.phase∧r.phase≤5
structure Rt (r:Run):Prop where
 st:(steps x r.saga).2=0
 idok:idL r.id.data.toList=true
 arg:A x r.saga r.arg=0
 a0:0≤r.at_
 an:r.at_<((steps x r.saga).1:Int)
 t0:0≤r.tries
 t29:r.tries≤29
 w0:0≤r.why
 w999:r.why≤999
 val:r.value.size≤4096
 ph:okP x ((steps x r.saga).1:Int) r
 tb:r.phase=2∨r.phase=5∨r.tries=0
 sb:r.phase=1∨r.stop=false
 vb:r.phase=3∨r.value.toList.isEmpty=true
noncomputable def nextL (r:Run) (fr:Int):Letter:=(call x r.saga r.id r.at_ (decide (r.phase=2)) fr r.arg).1
/-- Back from a step. -/
noncomputable def back (r:Run) (fr why:Int):Run × Letter × Bool × Bool :=
 if r.at_=0 then ({ r with why:=why,stop:=false,tries:=0,phase:=4 },Letter.zero,false,true)
 else ({ r with why:=why,stop:=false,tries:=0,phase:=2,at_:=r.at_ - 1 },nextL x { r with why:=why,stop:=false,tries:=0,phase:=2,at_:=r.at_ - 1 } fr,true,true)
def waits (r:Run):ByteArray:=keyB r.id r.at_ (decide (r.phase=2))
open Classical in
noncomputable def on (r:Run) (fr:Int):Bool:=decide (0≤fr∧fr<4)&&!over r&&decide (Rt A x r)
noncomputable def took (r:Run) (fr most:Int) (l:Letter):Run × Letter × Bool × Bool :=
 if r.phase=2 then
  if l.code=0 then back x r fr r.why
  else if most≤r.tries+1∨29≤r.tries+1 then ({ r with tries:=min (r.tries+1) 29,phase:=5 },Letter.zero,false,true)
  else ({ r with tries:=r.tries+1 },nextL x { r with tries:=r.tries+1 } fr,true,true)
 else if l.code≠0 then back x r fr (if l.code<0∨999<l.code then 999 else l.code)
 else if r.at_=((steps x r.saga).1:Int) - 1 then ({ r with stop:=false,phase:=3,value:=l.body.extract 0 4096 },Letter.zero,false,true)
 else ({ r with stop:=false,at_:=r.at_+1 },nextL x { r with stop:=false,at_:=r.at_+1 } fr,true,true)
noncomputable def reply (r:Run) (fr most:Int) (l:Letter):Run × Letter × Bool × Bool :=
 if on A x r fr=true∧l.kind=2∧l.key.toList=(waits r).toList then took x r fr most l else (r,Letter.zero,false,false)
end
section
variable {A : Sch → ByteArray → ByteArray → Nat} {x : Sch}
theorem steps_found {g:ByteArray} (h:(steps x g).2=0):foundE x g=0:=by
 unfold steps at h
 split at h
 ·exact h
 ·rename_i h1
  omega
theorem steps_len {g:ByteArray} (h:(steps x g).2=0):(steps x g).1=(sag x g).steps.length:=by
 have:=steps_found h
 unfold steps
 rw [if_neg (by simp [this])]
/-- A step that is not the last has an undoing. -/
theorem und_ok {g id:ByteArray} {i:Int} (h:(steps x g).2=0) (hi:idL id.data.toList=true) (h0:0≤i) (hn:i<((steps x g).1:Int) - 1):(call x g id i true 0 ⟨#[]⟩).2=0:=by
 have hf:=steps_found h
 have hl:=steps_len h
 have hE:letE x g id i 0=0:=by
  unfold letE
  rw [if_neg (by simp [hf]),if_neg (by simp [hi]),if_neg (by rw [←hl];omega)]
 unfold call
 rw [if_neg (by simp [hE]),if_neg (by simp)]
 split
 ·rename_i hu
  have:=undo_last hE hu
  rw [←hl] at this
  omega
 ·rfl
theorem back_right {r:Run} (h:Rt A x r) (h5:r.phase=1∨r.phase=2) (h3:r.value.toList.isEmpty=true) {fr why:Int} (hw:1≤why) (hw2:why≤999):Rt A x (back x r fr why).1:=by
 unfold back
 have a0:=h.a0
 have an:=h.an
 split
 ·rename_i h0
  exact ⟨h.st,h.idok,h.arg,h.a0,h.an,Int.le_refl 0,(by show (0:Int)≤29;decide),by show 0≤why;omega,hw2,h.val,⟨fun e=>(by cases e),fun e=>(by cases e),fun _=>⟨by show why≠0;omega,h0⟩,fun e=>(by rcases e with e | e <;> cases e),(by show 1≤4;decide),(by show 4≤5;decide)⟩,.inr (.inr rfl),.inr rfl,.inr h3⟩
 ·rename_i h0
  exact ⟨h.st,h.idok,h.arg,by show 0≤r.at_ - 1;omega,by show r.at_ - 1<((steps x r.saga).1:Int);omega,Int.le_refl 0,(by show (0:Int)≤29;decide),by show 0≤why;omega,hw2,h.val,⟨fun e=>(by cases e),fun e=>(by cases e),fun e=>(by cases e),fun _=>⟨und_ok h.st h.idok (show 0≤r.at_ - 1 by omega) (show r.at_ - 1<((steps x r.saga).1:Int) - 1 by omega),by show why≠0;omega⟩,(by show 1≤2;decide),(by show 2≤5;decide)⟩,.inl rfl,.inr rfl,.inr h3⟩
theorem took_right {r:Run} (h:Rt A x r) (ho:over r=false) {fr most:Int} {l:Letter}:Rt A x (took x r fr most l).1:=by
 obtain ⟨p1,p3,p4,p2,q1,q5⟩:=h.ph
 have hv:r.phase≠3:=by
  intro e
  unfold over at ho
  rw [e] at ho
  cases ho
 have h12:r.phase=1∨r.phase=2:=by
  unfold over at ho
  simp only [Bool.and_eq_false_iff,decide_eq_false_iff_not] at ho
  omega
 have h3:r.value.toList.isEmpty=true:=h.vb.resolve_left hv
 have a0:=h.a0
 have an:=h.an
 have w0:=h.w0
 have w9:=h.w999
 unfold took
 split
 ·rename_i e2
  have hu:=p2 (.inl e2)
  have:=h.t0
  split
  ·exact back_right h h12 h3 (by omega) w9
  ·split
   ·exact ⟨h.st,h.idok,h.arg,h.a0,h.an,by show 0≤min (r.tries+1) 29;omega,by show min (r.tries+1) 29≤29;omega,h.w0,h.w999,h.val,⟨fun e=>(by cases e),fun e=>(by cases e),fun e=>(by cases e),fun _=>hu,(by show 1≤5;decide),(by show 5≤5;decide)⟩,.inr (.inl rfl),.inr (by rcases h.sb with e | e;omega;exact e),.inr h3⟩
   ·exact ⟨h.st,h.idok,h.arg,h.a0,h.an,by show 0≤r.tries+1;omega,by show r.tries+1≤29;omega,h.w0,h.w999,h.val,⟨p1,p3,p4,p2,q1,q5⟩,.inl e2,h.sb,.inr h3⟩
 ·have e1:r.phase=1:=by omega
  split
  ·refine back_right h h12 h3 ?_ ?_
   ·split <;> omega
   ·split <;> omega
  ·split
   ·rename_i hl
    refine ⟨h.st,h.idok,h.arg,h.a0,h.an,h.t0,h.t29,h.w0,h.w999,?_,⟨fun e=>(by cases e),fun _=>⟨p1 e1,hl⟩,fun e=>(by cases e),fun e=>(by rcases e with e | e <;> cases e),(by show 1≤3;decide),(by show 3≤5;decide)⟩,?_,.inr rfl,.inl rfl⟩
    ·show (l.body.extract 0 4096).size≤4096
     simp
     omega
    ·rcases h.tb with e | e | e
     ·omega
     ·omega
     ·exact .inr (.inr e)
   ·rename_i hl
    refine ⟨h.st,h.idok,h.arg,by show 0≤r.at_+1;omega,by show r.at_+1<((steps x r.saga).1:Int);omega,h.t0,h.t29,h.w0,h.w999,h.val,⟨p1,fun e=>absurd e hv,fun e=>(by have:r.phase=4:=e;omega),fun e=>(by have:r.phase=2∨r.phase=5:=e;omega),q1,q5⟩,h.tb,.inl e1,.inr h3⟩
/-- How many answers may yet be taken, with m tries. -/
def left (n m:Int) (r:Run):Int :=
 if r.phase=1 then n - r.at_+n * (m+1) else if r.phase=2 then r.at_ * (m+1)+(m+1 - r.tries) else 0
end
end Sg
end Go.Proofs.YtogijkhenihaaaaGreatDoor
