/- redressref13: num, steps (printed by gen_rchk4.py). No condition. -/
import Derived.Test.YtlbihaikppkecaaGreatDoorPS22
set_option linter.unusedVariables false
set_option linter.unusedSimpArgs false
namespace Go.Proofs.YtlbihaikppkecaaGreatDoor
open Go.RowKit Go.BigFrame
theorem digits_two {n:Nat} (h:n<100):(Lib.decDigits n).length≤2:=by
 by_cases h1:n<10
 ·rw [Lib.decDigits_one h1];simp
 ·rw [Lib.decDigits_two h1 h];simp
def Chk.stepM (ra:ByteArray) (p:Id.Stp):Option Id.Mth→Bool
 | none=>false
 | some m=>Chk.stepOf ra p m
theorem Chk.stepOk_eq (x:Id.Sch) (ra:ByteArray) (p:Id.Stp):Chk.stepOk x ra p=Chk.stepM ra p (Chk.meth x p.service p.method):=by
 unfold Chk.stepOk
 cases Chk.meth x p.service p.method <;> rfl
theorem zip_drop {α:Type} {l:List α} {j:Nat} {a:α} {m:List α} (hd:l.drop j=a::m):l.zipIdx.drop j=(a,j)::l.zipIdx.drop (j+1):=by
 have hj:j<l.length:=by
  rcases Nat.lt_or_ge j l.length with h | h
  ·exact h
  ·rw [List.drop_of_length_le h] at hd;cases hd
 rw [List.drop_eq_getElem_cons (show j<l.zipIdx.length by simpa using hj),List.getElem_zipIdx]
 have:l[j]=a:=getElem_of_drop hj hd
 rw [this,Nat.zero_add]
theorem run_dig (c:Nat) (hc:c<10) (W:World) :
  Sem.run Tryz.prog (convert 50 9 (.slice (some ⟨W.heap.size,0,none⟩) 1 1)) (W.alloc (.cells #[.int .u8 (48+(c:Int))] 5))=.ok (.string ⟨#[UInt8.ofNat (48+c)]⟩) (W.alloc (.cells #[.int .u8 (48+(c:Int))] 5)):=by
 refine run_convert_bytes_back (P:=Tryz.prog) _ 50 9 5 ⟨W.heap.size,0,none⟩ 1 [UInt8.ofNat (48+c)] Tryz.underlying50 Tryz.underlying5 Tryz.underlying9 ?_
 intro j hj
 have hj:j<1:=hj
 obtain rfl:j=0:=by omega
 have e:((UInt8.ofNat (48+c)).toNat:Int)=48+(c:Int):=by
  have:(UInt8.ofNat (48+c)).toNat=(48+c) % 256:=by simp
  omega
 simp [go_sem,Addr.add]
 omega
theorem dig_split (n:Nat):Lib.decDigits n=(if n<10 then [] else Lib.decDigits (n / 10))++[UInt8.ofNat (48+n % 10)]:=by
 rw [Lib.decDigits]
 split
 next h=>rw [Nat.mod_eq_of_lt h];rfl
 next h=>rfl
set_option maxRecDepth 100000 in
set_option maxHeartbeats 4000000 in
theorem rnum_any (n:Nat) (hn:n<100) (w:World) :
  Calls Tryz.prog 118 #[.int .i64 n] w fun e w'=>e=.returned (.string ⟨(Lib.decDigits n).toArray⟩)∧Below w.heap.size w w':=by
 have i0:(0:Int)≤(n:Int):=by omega
 have i1:(n:Int)<100:=by omega
 have hrun0:=run_dig (n % 10) (by omega) w
 have e0:48+((n % 10:Nat):Int)=48+(n:Int) % 10:=by omega
 rw [e0] at hrun0
 obtain ⟨c0,Hc0⟩:∃ c,Hid (UInt8.ofNat (48+n % 10)=c):=⟨_,Lib.hid rfl⟩
 rw [Hc0.out] at hrun0
 clear e0
 go_enter Tryz.func118,Tryz.ntmps118
 go_wp2_with fail
 clear hrun0
 go_loopw [0,3] (fun z b wr=>∃ (m:Nat) (S:ByteArray),m<100∧z=.int .i64 m∧b=.string S∧S.size≤2∧Hid ((if m<10 then [] else Lib.decDigits (m / 10))++S.data.toList=Lib.decDigits n)∧Below w.heap.size w wr) (fun z _ _=>(intOf z).toNat)
 case atStart=>exact ⟨n,_,hn,rfl,rfl,show 1≤2 by decide,Lib.hid (by rw [dig_split n,Hc0.out]),by first | exact (Below.refl _ _).alloc (Nat.le_refl _) _⟩
 case round =>
  obtain ⟨m,S,hm,rfl,rfl,hS,HP,hb⟩:=hrel
  obtain ⟨W1,rfl⟩:∃ w',w'=wr:=⟨_,rfl⟩
  have j0:(0:Int)≤(m:Int):=by omega
  have j1:(m:Int)<100:=by omega
  have hz:=hb.size
  by_cases h9:9<m
  case neg =>
   have HE:Hid (S=⟨(Lib.decDigits n).toArray⟩):=Lib.hid (by
    have h:=HP.out
    rw [if_pos (by omega),List.nil_append] at h
    rw [←h])
   have j2:¬(9:Int)<(m:Int):=by omega
   go_wp2_with fail
   go_ret
   exact ⟨by rw [HE.out];rfl,hb⟩
  have j2:(9:Int)<(m:Int):=by omega
  have hrun1:=run_dig (m / 10 % 10) (by omega) W1
  have e1:48+((m / 10 % 10:Nat):Int)=48+(m:Int) / 10 % 10:=by omega
  rw [e1] at hrun1
  obtain ⟨c1,Hc1⟩:∃ c,Hid (UInt8.ofNat (48+m / 10 % 10)=c):=⟨_,Lib.hid rfl⟩
  rw [Hc1.out] at hrun1
  clear e1
  have hsz:(9223372036854775807<(⟨#[c1]⟩:ByteArray).size+S.size)=False:=by
   rw [show (⟨#[c1]⟩:ByteArray).size=1 from rfl]
   simp
   omega
  have hsz2:(9223372036854775807<1+S.size)=False:=by simp;omega
  have HP2:Hid ((if m / 10<10 then [] else Lib.decDigits (m / 10 / 10))++((⟨#[c1]⟩:ByteArray)++S).data.toList=Lib.decDigits n):=Lib.hid (by
   have h:=HP.out
   rw [if_neg (by omega),dig_split (m / 10),Hc1.out] at h
   rw [←h]
   simp)
  have hS2:((⟨#[c1]⟩:ByteArray)++S).size≤2:=by
   have h:=congrArg List.length HP2.out
   rw [List.length_append] at h
   have:=digits_two hn
   simp only [ByteArray.size] at *
   simp at h ⊢
   omega
  have e2:((m / 10:Nat):Int)=(m:Int) / 10:=by omega
  have HP3:=HP2
  clear HP2 HP
  go_wp2_with fail
  go_roundw
  case rel=>exact ⟨m / 10,_,by omega,by rw [e2],rfl,hS2,HP3,hb.alloc hz _⟩
  case measure=>simp [intOf] <;> omega
set_option maxRecDepth 100000 in
set_option maxHeartbeats 16000000 in
theorem rsteps9_any (v:Value) (x:Id.Sch) (hF:Chk.Fine x) (w:World) (hv:Id.SchV w none v x) :
  Calls Tryz.prog 89 #[v,.int .i64 9] w fun e w'=>e=.returned (Chk.ansV (Chk.firstF (Chk.stepsT x)))∧Below w.heap.size w w':=by
 have HV:=Lib.hid hv
 obtain ⟨A1,n1,c1,A2,n2,c2,A3,n3,c3,rfl,r1,r2,r3⟩:=hv
 have HN1:Hid (n1=x.records.length):=Lib.hid (by obtain ⟨_,_,e,_⟩:=ERow.slice r1;injection e)
 have hm1:n1≤9223372036854775807:=by obtain ⟨_,_,e,_,_⟩:=ERow.slice r1;injection e;omega
 have H1:=Lib.hid r1
 have HN2:Hid (n2=x.services.length):=Lib.hid (by obtain ⟨_,_,e,_⟩:=ERow.slice r2;injection e)
 have hm2:n2≤9223372036854775807:=by obtain ⟨_,_,e,_,_⟩:=ERow.slice r2;injection e;omega
 have H2:=Lib.hid r2
 have HN3:Hid (n3=x.sagas.length):=Lib.hid (by obtain ⟨_,_,e,_⟩:=ERow.slice r3;injection e)
 have hm3:n3≤9223372036854775807:=by obtain ⟨_,_,e,_,_⟩:=ERow.slice r3;injection e;omega
 have H3:=Lib.hid r3
 clear r1 r2 r3
 have HF:=Lib.hid hF
 obtain ⟨R,HR⟩:∃ R,Hid (Chk.firstF (Chk.stepsT x)=R):=⟨_,Lib.hid rfl⟩
 rw [HR.out]
 clear hF
 go_enter Tryz.func89,Tryz.ntmps89
 go_upto_region 1 with (fail)
 refine wp_named (fun V hV=>?_)
 have HL:=Lib.hid (Chk.Lx.start hV)
 clear hV
 obtain ⟨⟨q0,q1,q2,q3⟩,-⟩:=HL.out.box.k4
 go_wp2_with fail
 go_loopw [6] (fun i wr=>∃ (k:Nat),k≤n3∧i=.int .i64 k∧Hid (Chk.firstF ((x.sagas.drop k).flatMap (Chk.stepsG x))=R)∧Hid (Chk.Lx w wr #[.string x.name,.slice A1 n1 c1,.slice A2 n2 c2,.slice A3 n3 c3])) (fun i _=>n3 - (intOf i).toNat)
 case atStart=>exact ⟨0,by omega,rfl,HR,HL⟩
 case round =>
  clear HL HR q0 q1 q2 q3
  obtain ⟨k,hk,rfl,HI,HL⟩:=hrel
  obtain ⟨V1,rfl⟩:∃ w',w'=wr:=⟨_,rfl⟩
  have ik0:(0:Int)≤(k:Int):=by omega
  obtain ⟨⟨q0,q1,q2,q3⟩,-⟩:=HL.out.box.k4
  by_cases hlt:k<n3
  case neg =>
   have HE:Hid (R=none):=Lib.hid (by have h:=HI.out;rw [List.drop_of_length_le (by have:=HN3.out;omega)] at h;exact h.symm)
   clear HI
   go_wp2_with fail
   go_ret2
   exact ⟨by rw [HE.out];rfl,HL.out.bel⟩
  have hok0:=fun h:k<x.sagas.length=>HF.out.sa _ (List.getElem_mem h)
  have HOK:=Lib.hid hok0
  clear hok0
  have hkak:k<x.sagas.length:=by rw [←HN3.out];exact hlt
  obtain ⟨g1,off1,cs,rfl,-,⟨u,he,HU⟩,hc⟩:=ERow.get H3.out hkak (by omega)
  obtain ⟨r,Hr⟩:∃ r,Hid (x.sagas[k]=r):=⟨_,Lib.hid rfl⟩
  rw [Hr.out] at he HU
  obtain ⟨rn,ra,rf⟩:=r
  subst he
  simp only at HU hc
  obtain ⟨A5,n5,c5,rfl⟩:=ERow.is HU
  have HN5:Hid (n5=rf.length):=Lib.hid (by obtain ⟨_,_,e,_⟩:=ERow.slice HU;injection e)
  have hm5:n5≤9223372036854775807:=by obtain ⟨_,_,e,_,_⟩:=ERow.slice HU;injection e;omega
  have H5:=Lib.hid HU
  have HDk:Hid (x.sagas.drop k=⟨rn,ra,rf⟩::x.sagas.drop (k+1)):=Lib.hid (by rw [List.drop_eq_getElem_cons hkak,Hr.out])
  have b0:=hc 0 _ rfl
  have b1:=hc 1 _ rfl
  have b2:=hc 2 _ rfl
  simp only [Nat.add_zero] at b0
  have hgl1:g1<w.heap.size:=World.block_lt_of_cell? w _ b0
  have b0:=(HL.out.bel.cell hgl1).trans b0
  have b1:=(HL.out.bel.cell hgl1).trans b1
  have b2:=(HL.out.bel.cell hgl1).trans b2
  have i11:(k:Int)<(n3:Int):=by omega
  clear hc HU Hr
  have hok:=HOK.out hkak
  rw [getElem_of_drop hkak HDk.out] at hok
  simp only at hok
  have HIk:Hid (Chk.firstF ((Chk.stepsG x) ⟨rn,ra,rf⟩++(x.sagas.drop (k+1)).flatMap (Chk.stepsG x))=R):=Lib.hid (by have h:=HI.out;rw [HDk.out,List.flatMap_cons] at h;exact h)
  clear HI HOK
  obtain ⟨hrn,hm99,hra,-⟩:=hok
  go_upto_region 5 with (fail)
  refine wp_named (fun W1 hW1=>?_)
  obtain ⟨hb1,hq1,-⟩:=fresh_box hW1
  clear hW1
  have HB1:=Lib.hid hq1
  clear q0 q1 q2 q3 b0 b1 b2
  have HLx:=Lib.hid (HL.out.below hb1)
  clear HL 
  have HL:=HLx
  clear HLx 
  clear hb1 hq1
  go_wp2_with fail
  have h5:n5≤99:=by rw [HN5.out];exact hm99
  have HIj:Hid (Chk.firstF ((rf.zipIdx.drop 0).flatMap (Chk.stepsP x rn ra)++(x.sagas.drop (k+1)).flatMap (Chk.stepsG x))=R):=HIk
  go_loopw [8] (fun i wr=>∃ (j:Nat),j≤n5∧i=.int .i64 j∧Hid (Chk.firstF ((rf.zipIdx.drop j).flatMap (Chk.stepsP x rn ra)++(x.sagas.drop (k+1)).flatMap (Chk.stepsG x))=R)∧Hid (Bk wr V1.heap.size 62 #[.string rn,.string ra,.slice A5 n5 c5])∧Hid (Chk.Lx w wr #[.string x.name,.slice A1 n1 c1,.slice A2 n2 c2,.slice (some ⟨g1,off1,none⟩) n3 c3])) (fun i _=>n5 - (intOf i).toNat)
  case atStart=>exact ⟨0,by omega,rfl,HIj,HB1,HL⟩
  case round =>
   clear HL HB1 HIj HIk
   obtain ⟨j,hj,rfl,HJ,HB1,HL⟩:=hrel
   obtain ⟨V2,rfl⟩:∃ w',w'=wr:=⟨_,rfl⟩
   have ij0:(0:Int)≤(j:Int):=by omega
   obtain ⟨⟨b0,b1,b2⟩,-⟩:=HB1.out.k3
   by_cases hlj:j<n5
   case neg =>
    have HI3:Hid (Chk.firstF ((x.sagas.drop (k+1)).flatMap (Chk.stepsG x))=R):=Lib.hid (by have h:=HJ.out;rw [List.drop_of_length_le (by have:=HN5.out;simp;omega)] at h;exact h)
    clear HJ
    go_wp2_with fail
    go_roundw
    case rel=>exact ⟨k+1,by omega,by go_num,HI3,HL⟩
    case measure=>simp [intOf] <;> omega
   have hkbj:j<rf.length:=by rw [←HN5.out];exact hlj
   obtain ⟨g2,off2,cs,rfl,-,he,hc⟩:=ERow.get H5.out hkbj (by omega)
   obtain ⟨r,Hr⟩:∃ r,Hid (rf[j]=r):=⟨_,Lib.hid rfl⟩
   rw [Hr.out] at he
   obtain ⟨p0,p1,p2⟩:=r
   unfold Id.StpE Id.Stp.cells at he
   subst he
   have HDj:Hid (rf.drop j=⟨p0,p1,p2⟩::rf.drop (j+1)):=Lib.hid (by rw [List.drop_eq_getElem_cons hkbj,Hr.out])
   have a0:=hc 0 _ rfl
   have a1:=hc 1 _ rfl
   have a2:=hc 2 _ rfl
   simp only [Nat.add_zero] at a0
   have hgl2:g2<w.heap.size:=World.block_lt_of_cell? w _ a0
   have a0:=(HL.out.bel.cell hgl2).trans a0
   have a1:=(HL.out.bel.cell hgl2).trans a1
   have a2:=(HL.out.bel.cell hgl2).trans a2
   have i21:(j:Int)<(n5:Int):=by omega
   clear hc Hr
   have HJ1:Hid (Chk.firstF ((Chk.stepOk x ra ⟨p0,p1,p2⟩,Chk.nth rn j)::((rf.zipIdx.drop (j+1)).flatMap (Chk.stepsP x rn ra)++(x.sagas.drop (k+1)).flatMap (Chk.stepsG x)))=R):=Lib.hid (by have h:=HJ.out;rw [zip_drop HDj.out,List.flatMap_cons,List.append_assoc] at h;exact h)
   clear HJ
   go_upto_region 9 with (fail)
   refine wp_named (fun W3 hW3=>?_)
   obtain ⟨hb3,hq3,-⟩:=fresh_box hW3
   clear hW3 a0 a1 a2 b0 b1 b2
   have HX:=Lib.hid hq3
   have HLx:=Lib.hid (HL.out.below hb3)
   have HB1x:=Lib.hid (HB1.out.below hb3 HB1.out.lt)
   clear HL HB1
   have HL:=HLx
   have HB1:=HB1x
   clear HLx HB1x
   clear hb3 hq3
   obtain ⟨⟨q0,q1,q2,q3⟩,-⟩:=HL.out.box.k4
   obtain ⟨T,HT⟩:∃ T,Hid (Chk.stepOk x ra ⟨p0,p1,p2⟩=T):=⟨_,Lib.hid rfl⟩
   rw [HT.out] at HJ1
   have YES:T=true→Hid (Chk.firstF ((rf.zipIdx.drop (j+1)).flatMap (Chk.stepsP x rn ra)++(x.sagas.drop (k+1)).flatMap (Chk.stepsG x))=R):=fun h=>Lib.hid ((Chk.firstF_t h).symm.trans HJ1.out)
   have NO:T=false→Hid (R=some (Chk.nth rn j)):=fun h=>Lib.hid (HJ1.out.symm.trans (Chk.firstF_f h))
   have HYES:=Lib.hid YES
   have HNO:=Lib.hid NO
   clear YES NO HJ1
   obtain ⟨mo,HMO⟩:∃ mo,Hid (Chk.meth x p0 p1=mo):=⟨_,Lib.hid rfl⟩
   obtain ⟨⟨a0,a1,a2⟩,-⟩:=HX.out.k3
   obtain ⟨⟨b0,b1,b2⟩,-⟩:=HB1.out.k3
   go_wp2_with fail
   refine (rmethod_any _ x p0 p1 _ (Id.SchV.below HL.out.bel HV.out)).mono ?_
   rintro e W4 ⟨rfl,hb4⟩
   rw [HMO.out]
   clear a0 a1 a2 b0 b1 b2 q0 q1 q2 q3
   have HLx:=Lib.hid (HL.out.below hb4)
   have HB1x:=Lib.hid (HB1.out.below hb4 HB1.out.lt)
   have HXx:=Lib.hid (HX.out.below hb4 HX.out.lt)
   clear HL HB1 HX
   have HL:=HLx
   have HB1:=HB1x
   have HX:=HXx
   clear HLx HB1x HXx
   clear hb4
   have HT2:Hid (Chk.stepM ra ⟨p0,p1,p2⟩ mo=T):=Lib.hid (by rw [←HT.out,Chk.stepOk_eq,←HMO.out])
   obtain ⟨⟨u0,u1,u2,u3,u4⟩,HU0⟩:∃ u,Hid (mo.getD Chk.mthZ=u):=⟨_,Lib.hid rfl⟩
   obtain ⟨ob,HOB⟩:∃ ob,Hid (mo.isSome=ob):=⟨_,Lib.hid rfl⟩
   rw [HU0.out,HOB.out]
   unfold Chk.mthV
   simp only
   have HT3:Hid ((ob&&(u1.toList==ra.toList&&decide (0≤p2)&&decide (p2<4)))=T):=Lib.hid (by rw [←HT2.out,←HOB.out];cases mo with
    | none=>rfl
    | some m=>obtain rfl:=HU0.out;rfl)
   clear HT HT2 HMO HOB HU0
   go_upto_region 10 with (fail)
   refine wp_named (fun W5 hW5=>?_)
   obtain ⟨hb5,hq5,-⟩:=fresh_box hW5
   clear hW5
   have HU:=Lib.hid hq5
   have HLx:=Lib.hid (HL.out.below hb5)
   have HB1x:=Lib.hid (HB1.out.below hb5 HB1.out.lt)
   have HXx:=Lib.hid (HX.out.below hb5 HX.out.lt)
   clear HL HB1 HX
   have HL:=HLx
   have HB1:=HB1x
   have HX:=HXx
   clear HLx HB1x HXx
   clear hb5 hq5
   obtain ⟨⟨a0,a1,a2⟩,-⟩:=HX.out.k3
   obtain ⟨⟨b0,b1,b2⟩,-⟩:=HB1.out.k3
   obtain ⟨⟨u0c,u1c,u2c,u3c,u4c⟩,-⟩:=HU.out.k5
   cases ob
   case false =>
    have HE:=HNO.out (by rw [←HT3.out];rfl)
    clear HYES HNO
    have z0:(9223372036854775807<rn.size+1)=False:=by simp;omega
    have hds:(⟨(Lib.decDigits j).toArray⟩:ByteArray).size≤2:=by show (Lib.decDigits j).toArray.size≤2;rw [List.size_toArray];exact digits_two (by omega)
    have z1:(9223372036854775807<rn.size+1+(⟨(Lib.decDigits j).toArray⟩:ByteArray).size)=False:=by simp only [eq_iff_iff,iff_false];omega
    obtain ⟨nd,HND⟩:∃ nd,Hid ((⟨(Lib.decDigits j).toArray⟩:ByteArray)=nd):=⟨_,Lib.hid rfl⟩
    rw [HND.out] at z1 hds
    have hnum:=fun W=>rnum_any j (by omega) W
    rw [HND.out] at hnum
    have HNUM:=Lib.hid hnum
    clear hnum
    have HE2:Hid (R=some (Chk.part rn nd)):=Lib.hid (by rw [HE.out,←HND.out];rfl)
    clear HE HND
    go_wp2_with fail
    have dB0:=fun (w':World) (hb:Bl W5 w')=>(Bk.k3 (HB1.out.below hb HB1.out.lt)).1.1
    clear a0 a1 a2 b0 b1 b2 u0c u1c u2c u3c u4c
    refine wp_region_bl W5 (by kernel_rfl) (by kernel_rfl) (Bl.refl _) ?_
    repeat (first | go_big_quiet_step ((intro hb;exact calls_bl hb (HNUM.out _))) | (refine wpQuiet_step (fun K hK=>?_);rw [if_pos (by rfl)];refine Lst.load_cell _ _ rfl _ rfl _ (by assumption) _ Tryz.underlying9 rfl ?_;go_simp;refine hK _ ?_;clear hK K) | (refine wpQuiet_step (fun K hK=>?_);go_simp;refine ⟨_,fun _ _=>rfl,hK _ ?_⟩;clear hK K))
    refine wpQuiet_nil ?_
    intro w9 hw9
    clear dB0
    have HLx:=Lib.hid (HL.out.below hw9)
    clear HL 
    have HL:=HLx
    clear HLx 
    go_wp2_with fail
    go_ret2
    exact ⟨by rw [HE2.out];rfl,HL.out.bel⟩
   cases e1:(u1.toList==ra.toList)
   case false =>
    have HE:=HNO.out (by rw [←HT3.out,e1];rfl)
    clear HYES HNO
    have z0:(9223372036854775807<rn.size+1)=False:=by simp;omega
    have hds:(⟨(Lib.decDigits j).toArray⟩:ByteArray).size≤2:=by show (Lib.decDigits j).toArray.size≤2;rw [List.size_toArray];exact digits_two (by omega)
    have z1:(9223372036854775807<rn.size+1+(⟨(Lib.decDigits j).toArray⟩:ByteArray).size)=False:=by simp only [eq_iff_iff,iff_false];omega
    obtain ⟨nd,HND⟩:∃ nd,Hid ((⟨(Lib.decDigits j).toArray⟩:ByteArray)=nd):=⟨_,Lib.hid rfl⟩
    rw [HND.out] at z1 hds
    have hnum:=fun W=>rnum_any j (by omega) W
    rw [HND.out] at hnum
    have HNUM:=Lib.hid hnum
    clear hnum
    have HE2:Hid (R=some (Chk.part rn nd)):=Lib.hid (by rw [HE.out,←HND.out];rfl)
    clear HE HND
    go_wp2_with fail
    have dB0:=fun (w':World) (hb:Bl W5 w')=>(Bk.k3 (HB1.out.below hb HB1.out.lt)).1.1
    clear a0 a1 a2 b0 b1 b2 u0c u1c u2c u3c u4c
    refine wp_region_bl W5 (by kernel_rfl) (by kernel_rfl) (Bl.refl _) ?_
    repeat (first | go_big_quiet_step ((intro hb;exact calls_bl hb (HNUM.out _))) | (refine wpQuiet_step (fun K hK=>?_);rw [if_pos (by rfl)];refine Lst.load_cell _ _ rfl _ rfl _ (by assumption) _ Tryz.underlying9 rfl ?_;go_simp;refine hK _ ?_;clear hK K) | (refine wpQuiet_step (fun K hK=>?_);go_simp;refine ⟨_,fun _ _=>rfl,hK _ ?_⟩;clear hK K))
    refine wpQuiet_nil ?_
    intro w9 hw9
    clear dB0
    have HLx:=Lib.hid (HL.out.below hw9)
    clear HL 
    have HL:=HLx
    clear HLx 
    go_wp2_with fail
    go_ret2
    exact ⟨by rw [HE2.out];rfl,HL.out.bel⟩
   by_cases e2:0≤p2
   case neg =>
    have HTF:Hid (T=false):=Lib.hid (by rw [←HT3.out,decide_eq_false e2];simp)
    have HE:=HNO.out (HTF.out)
    clear HYES HNO
    have z0:(9223372036854775807<rn.size+1)=False:=by simp;omega
    have hds:(⟨(Lib.decDigits j).toArray⟩:ByteArray).size≤2:=by show (Lib.decDigits j).toArray.size≤2;rw [List.size_toArray];exact digits_two (by omega)
    have z1:(9223372036854775807<rn.size+1+(⟨(Lib.decDigits j).toArray⟩:ByteArray).size)=False:=by simp only [eq_iff_iff,iff_false];omega
    obtain ⟨nd,HND⟩:∃ nd,Hid ((⟨(Lib.decDigits j).toArray⟩:ByteArray)=nd):=⟨_,Lib.hid rfl⟩
    rw [HND.out] at z1 hds
    have hnum:=fun W=>rnum_any j (by omega) W
    rw [HND.out] at hnum
    have HNUM:=Lib.hid hnum
    clear hnum
    have HE2:Hid (R=some (Chk.part rn nd)):=Lib.hid (by rw [HE.out,←HND.out];rfl)
    clear HE HND
    go_wp2_with fail
    have dB0:=fun (w':World) (hb:Bl W5 w')=>(Bk.k3 (HB1.out.below hb HB1.out.lt)).1.1
    clear a0 a1 a2 b0 b1 b2 u0c u1c u2c u3c u4c
    refine wp_region_bl W5 (by kernel_rfl) (by kernel_rfl) (Bl.refl _) ?_
    repeat (first | go_big_quiet_step ((intro hb;exact calls_bl hb (HNUM.out _))) | (refine wpQuiet_step (fun K hK=>?_);rw [if_pos (by rfl)];refine Lst.load_cell _ _ rfl _ rfl _ (by assumption) _ Tryz.underlying9 rfl ?_;go_simp;refine hK _ ?_;clear hK K) | (refine wpQuiet_step (fun K hK=>?_);go_simp;refine ⟨_,fun _ _=>rfl,hK _ ?_⟩;clear hK K))
    refine wpQuiet_nil ?_
    intro w9 hw9
    clear dB0
    have HLx:=Lib.hid (HL.out.below hw9)
    clear HL 
    have HL:=HLx
    clear HLx 
    go_wp2_with fail
    go_ret2
    exact ⟨by rw [HE2.out];rfl,HL.out.bel⟩
   by_cases e3:p2<4
   case neg =>
    have HTF:Hid (T=false):=Lib.hid (by rw [←HT3.out,decide_eq_false e3];simp)
    have e4:¬p2≤3:=by omega
    have HE:=HNO.out (HTF.out)
    clear HYES HNO
    have z0:(9223372036854775807<rn.size+1)=False:=by simp;omega
    have hds:(⟨(Lib.decDigits j).toArray⟩:ByteArray).size≤2:=by show (Lib.decDigits j).toArray.size≤2;rw [List.size_toArray];exact digits_two (by omega)
    have z1:(9223372036854775807<rn.size+1+(⟨(Lib.decDigits j).toArray⟩:ByteArray).size)=False:=by simp only [eq_iff_iff,iff_false];omega
    obtain ⟨nd,HND⟩:∃ nd,Hid ((⟨(Lib.decDigits j).toArray⟩:ByteArray)=nd):=⟨_,Lib.hid rfl⟩
    rw [HND.out] at z1 hds
    have hnum:=fun W=>rnum_any j (by omega) W
    rw [HND.out] at hnum
    have HNUM:=Lib.hid hnum
    clear hnum
    have HE2:Hid (R=some (Chk.part rn nd)):=Lib.hid (by rw [HE.out,←HND.out];rfl)
    clear HE HND
    go_wp2_with fail
    have dB0:=fun (w':World) (hb:Bl W5 w')=>(Bk.k3 (HB1.out.below hb HB1.out.lt)).1.1
    clear a0 a1 a2 b0 b1 b2 u0c u1c u2c u3c u4c
    refine wp_region_bl W5 (by kernel_rfl) (by kernel_rfl) (Bl.refl _) ?_
    repeat (first | go_big_quiet_step ((intro hb;exact calls_bl hb (HNUM.out _))) | (refine wpQuiet_step (fun K hK=>?_);rw [if_pos (by rfl)];refine Lst.load_cell _ _ rfl _ rfl _ (by assumption) _ Tryz.underlying9 rfl ?_;go_simp;refine hK _ ?_;clear hK K) | (refine wpQuiet_step (fun K hK=>?_);go_simp;refine ⟨_,fun _ _=>rfl,hK _ ?_⟩;clear hK K))
    refine wpQuiet_nil ?_
    intro w9 hw9
    clear dB0
    have HLx:=Lib.hid (HL.out.below hw9)
    clear HL 
    have HL:=HLx
    clear HLx 
    go_wp2_with fail
    go_ret2
    exact ⟨by rw [HE2.out];rfl,HL.out.bel⟩
   have e4:p2≤3:=by omega
   have HTT:Hid (T=true):=Lib.hid (by rw [←HT3.out,e1,decide_eq_true e2,decide_eq_true e3];rfl)
   clear e3
   have HI4:=HYES.out (HTT.out)
   clear HYES HNO
   go_wp2_with fail
   go_roundw
   case rel=>exact ⟨j+1,by omega,by go_num,HI4,HB1,HL⟩
   case measure=>simp [intOf] <;> omega
set_option maxRecDepth 100000 in
set_option maxHeartbeats 16000000 in
theorem rsteps10_any (v:Value) (x:Id.Sch) (hF:Chk.Fine x) (w:World) (hv:Id.SchV w none v x) :
  Calls Tryz.prog 89 #[v,.int .i64 10] w fun e w'=>e=.returned (Chk.ansV (Chk.firstF (Chk.waysT x)))∧Below w.heap.size w w':=by
 have HV:=Lib.hid hv
 obtain ⟨A1,n1,c1,A2,n2,c2,A3,n3,c3,rfl,r1,r2,r3⟩:=hv
 have HN1:Hid (n1=x.records.length):=Lib.hid (by obtain ⟨_,_,e,_⟩:=ERow.slice r1;injection e)
 have hm1:n1≤9223372036854775807:=by obtain ⟨_,_,e,_,_⟩:=ERow.slice r1;injection e;omega
 have H1:=Lib.hid r1
 have HN2:Hid (n2=x.services.length):=Lib.hid (by obtain ⟨_,_,e,_⟩:=ERow.slice r2;injection e)
 have hm2:n2≤9223372036854775807:=by obtain ⟨_,_,e,_,_⟩:=ERow.slice r2;injection e;omega
 have H2:=Lib.hid r2
 have HN3:Hid (n3=x.sagas.length):=Lib.hid (by obtain ⟨_,_,e,_⟩:=ERow.slice r3;injection e)
 have hm3:n3≤9223372036854775807:=by obtain ⟨_,_,e,_,_⟩:=ERow.slice r3;injection e;omega
 have H3:=Lib.hid r3
 clear r1 r2 r3
 have HF:=Lib.hid hF
 obtain ⟨R,HR⟩:∃ R,Hid (Chk.firstF (Chk.waysT x)=R):=⟨_,Lib.hid rfl⟩
 rw [HR.out]
 clear hF
 go_enter Tryz.func89,Tryz.ntmps89
 go_upto_region 1 with (fail)
 refine wp_named (fun V hV=>?_)
 have HL:=Lib.hid (Chk.Lx.start hV)
 clear hV
 obtain ⟨⟨q0,q1,q2,q3⟩,-⟩:=HL.out.box.k4
 go_wp2_with fail
 go_loopw [6] (fun i wr=>∃ (k:Nat),k≤n3∧i=.int .i64 k∧Hid (Chk.firstF ((x.sagas.drop k).flatMap (Chk.waysG x))=R)∧Hid (Chk.Lx w wr #[.string x.name,.slice A1 n1 c1,.slice A2 n2 c2,.slice A3 n3 c3])) (fun i _=>n3 - (intOf i).toNat)
 case atStart=>exact ⟨0,by omega,rfl,HR,HL⟩
 case round =>
  clear HL HR q0 q1 q2 q3
  obtain ⟨k,hk,rfl,HI,HL⟩:=hrel
  obtain ⟨V1,rfl⟩:∃ w',w'=wr:=⟨_,rfl⟩
  have ik0:(0:Int)≤(k:Int):=by omega
  obtain ⟨⟨q0,q1,q2,q3⟩,-⟩:=HL.out.box.k4
  by_cases hlt:k<n3
  case neg =>
   have HE:Hid (R=none):=Lib.hid (by have h:=HI.out;rw [List.drop_of_length_le (by have:=HN3.out;omega)] at h;exact h.symm)
   clear HI
   go_wp2_with fail
   go_ret2
   exact ⟨by rw [HE.out];rfl,HL.out.bel⟩
  have hok0:=fun h:k<x.sagas.length=>HF.out.sa _ (List.getElem_mem h)
  have HOK:=Lib.hid hok0
  clear hok0
  have hkak:k<x.sagas.length:=by rw [←HN3.out];exact hlt
  obtain ⟨g1,off1,cs,rfl,-,⟨u,he,HU⟩,hc⟩:=ERow.get H3.out hkak (by omega)
  obtain ⟨r,Hr⟩:∃ r,Hid (x.sagas[k]=r):=⟨_,Lib.hid rfl⟩
  rw [Hr.out] at he HU
  obtain ⟨rn,ra,rf⟩:=r
  subst he
  simp only at HU hc
  obtain ⟨A5,n5,c5,rfl⟩:=ERow.is HU
  have HN5:Hid (n5=rf.length):=Lib.hid (by obtain ⟨_,_,e,_⟩:=ERow.slice HU;injection e)
  have hm5:n5≤9223372036854775807:=by obtain ⟨_,_,e,_,_⟩:=ERow.slice HU;injection e;omega
  have H5:=Lib.hid HU
  have HDk:Hid (x.sagas.drop k=⟨rn,ra,rf⟩::x.sagas.drop (k+1)):=Lib.hid (by rw [List.drop_eq_getElem_cons hkak,Hr.out])
  have b0:=hc 0 _ rfl
  have b1:=hc 1 _ rfl
  have b2:=hc 2 _ rfl
  simp only [Nat.add_zero] at b0
  have hgl1:g1<w.heap.size:=World.block_lt_of_cell? w _ b0
  have b0:=(HL.out.bel.cell hgl1).trans b0
  have b1:=(HL.out.bel.cell hgl1).trans b1
  have b2:=(HL.out.bel.cell hgl1).trans b2
  have i11:(k:Int)<(n3:Int):=by omega
  clear hc HU Hr
  have hok:=HOK.out hkak
  rw [getElem_of_drop hkak HDk.out] at hok
  simp only at hok
  have HIk:Hid (Chk.firstF ((Chk.waysG x) ⟨rn,ra,rf⟩++(x.sagas.drop (k+1)).flatMap (Chk.waysG x))=R):=Lib.hid (by have h:=HI.out;rw [HDk.out,List.flatMap_cons] at h;exact h)
  clear HI HOK
  obtain ⟨hrn,hm99,hra,-⟩:=hok
  go_upto_region 5 with (fail)
  refine wp_named (fun W1 hW1=>?_)
  obtain ⟨hb1,hq1,-⟩:=fresh_box hW1
  clear hW1
  have HB1:=Lib.hid hq1
  clear q0 q1 q2 q3 b0 b1 b2
  have HLx:=Lib.hid (HL.out.below hb1)
  clear HL 
  have HL:=HLx
  clear HLx 
  clear hb1 hq1
  go_wp2_with fail
  have h5:n5≤99:=by rw [HN5.out];exact hm99
  have HIj:Hid (Chk.firstF ((rf.zipIdx.drop 0).flatMap (Chk.waysP x rn rf.length)++(x.sagas.drop (k+1)).flatMap (Chk.waysG x))=R):=HIk
  go_loopw [8] (fun i wr=>∃ (j:Nat),j≤n5∧i=.int .i64 j∧Hid (Chk.firstF ((rf.zipIdx.drop j).flatMap (Chk.waysP x rn rf.length)++(x.sagas.drop (k+1)).flatMap (Chk.waysG x))=R)∧Hid (Bk wr V1.heap.size 62 #[.string rn,.string ra,.slice A5 n5 c5])∧Hid (Chk.Lx w wr #[.string x.name,.slice A1 n1 c1,.slice A2 n2 c2,.slice (some ⟨g1,off1,none⟩) n3 c3])) (fun i _=>n5 - (intOf i).toNat)
  case atStart=>exact ⟨0,by omega,rfl,HIj,HB1,HL⟩
  case round =>
   clear HL HB1 HIj HIk
   obtain ⟨j,hj,rfl,HJ,HB1,HL⟩:=hrel
   obtain ⟨V2,rfl⟩:∃ w',w'=wr:=⟨_,rfl⟩
   have ij0:(0:Int)≤(j:Int):=by omega
   obtain ⟨⟨b0,b1,b2⟩,-⟩:=HB1.out.k3
   by_cases hlj:j<n5
   case neg =>
    have HI3:Hid (Chk.firstF ((x.sagas.drop (k+1)).flatMap (Chk.waysG x))=R):=Lib.hid (by have h:=HJ.out;rw [List.drop_of_length_le (by have:=HN5.out;simp;omega)] at h;exact h)
    clear HJ
    go_wp2_with fail
    go_roundw
    case rel=>exact ⟨k+1,by omega,by go_num,HI3,HL⟩
    case measure=>simp [intOf] <;> omega
   have hkbj:j<rf.length:=by rw [←HN5.out];exact hlj
   obtain ⟨g2,off2,cs,rfl,-,he,hc⟩:=ERow.get H5.out hkbj (by omega)
   obtain ⟨r,Hr⟩:∃ r,Hid (rf[j]=r):=⟨_,Lib.hid rfl⟩
   rw [Hr.out] at he
   obtain ⟨p0,p1,p2⟩:=r
   unfold Id.StpE Id.Stp.cells at he
   subst he
   have HDj:Hid (rf.drop j=⟨p0,p1,p2⟩::rf.drop (j+1)):=Lib.hid (by rw [List.drop_eq_getElem_cons hkbj,Hr.out])
   have a0:=hc 0 _ rfl
   have a1:=hc 1 _ rfl
   have a2:=hc 2 _ rfl
   simp only [Nat.add_zero] at a0
   have hgl2:g2<w.heap.size:=World.block_lt_of_cell? w _ a0
   have a0:=(HL.out.bel.cell hgl2).trans a0
   have a1:=(HL.out.bel.cell hgl2).trans a1
   have a2:=(HL.out.bel.cell hgl2).trans a2
   have i21:(j:Int)<(n5:Int):=by omega
   clear hc Hr
   have HJ1:Hid (Chk.firstF ((Chk.wayOk x rf.length (⟨p0,p1,p2⟩,j),Chk.nth rn j)::((rf.zipIdx.drop (j+1)).flatMap (Chk.waysP x rn rf.length)++(x.sagas.drop (k+1)).flatMap (Chk.waysG x)))=R):=Lib.hid (by have h:=HJ.out;rw [zip_drop HDj.out,List.flatMap_cons,List.append_assoc] at h;exact h)
   clear HJ
   go_upto_region 9 with (fail)
   refine wp_named (fun W3 hW3=>?_)
   obtain ⟨hb3,hq3,-⟩:=fresh_box hW3
   clear hW3 a0 a1 a2 b0 b1 b2
   have HX:=Lib.hid hq3
   have HLx:=Lib.hid (HL.out.below hb3)
   have HB1x:=Lib.hid (HB1.out.below hb3 HB1.out.lt)
   clear HL HB1
   have HL:=HLx
   have HB1:=HB1x
   clear HLx HB1x
   clear hb3 hq3
   obtain ⟨⟨q0,q1,q2,q3⟩,-⟩:=HL.out.box.k4
   obtain ⟨T,HT⟩:∃ T,Hid (Chk.wayOk x rf.length (⟨p0,p1,p2⟩,j)=T):=⟨_,Lib.hid rfl⟩
   rw [HT.out] at HJ1
   have YES:T=true→Hid (Chk.firstF ((rf.zipIdx.drop (j+1)).flatMap (Chk.waysP x rn rf.length)++(x.sagas.drop (k+1)).flatMap (Chk.waysG x))=R):=fun h=>Lib.hid ((Chk.firstF_t h).symm.trans HJ1.out)
   have NO:T=false→Hid (R=some (Chk.nth rn j)):=fun h=>Lib.hid (HJ1.out.symm.trans (Chk.firstF_f h))
   have HYES:=Lib.hid YES
   have HNO:=Lib.hid NO
   clear YES NO HJ1
   obtain ⟨mo,HMO⟩:∃ mo,Hid (Chk.meth x p0 p1=mo):=⟨_,Lib.hid rfl⟩
   obtain ⟨⟨a0,a1,a2⟩,-⟩:=HX.out.k3
   obtain ⟨⟨b0,b1,b2⟩,-⟩:=HB1.out.k3
   go_wp2_with fail
   refine (rmethod_any _ x p0 p1 _ (Id.SchV.below HL.out.bel HV.out)).mono ?_
   rintro e W4 ⟨rfl,hb4⟩
   rw [HMO.out]
   clear a0 a1 a2 b0 b1 b2 q0 q1 q2 q3
   have HLx:=Lib.hid (HL.out.below hb4)
   have HB1x:=Lib.hid (HB1.out.below hb4 HB1.out.lt)
   have HXx:=Lib.hid (HX.out.below hb4 HX.out.lt)
   clear HL HB1 HX
   have HL:=HLx
   have HB1:=HB1x
   have HX:=HXx
   clear HLx HB1x HXx
   clear hb4
   have HT2:Hid ((j+1==rf.length||!(mo.getD Chk.mthZ).undo.toList.isEmpty)=T):=Lib.hid (by rw [←HT.out,←HMO.out];rfl)
   obtain ⟨⟨u0,u1,u2,u3,u4⟩,HU0⟩:∃ u,Hid (mo.getD Chk.mthZ=u):=⟨_,Lib.hid rfl⟩
   obtain ⟨ob,HOB⟩:∃ ob,Hid (mo.isSome=ob):=⟨_,Lib.hid rfl⟩
   rw [HU0.out,HOB.out]
   unfold Chk.mthV
   simp only
   have HT3:Hid ((j+1==rf.length||!u4.toList.isEmpty)=T):=Lib.hid (by rw [←HT2.out,HU0.out])
   clear HT HT2 HMO HOB HU0
   go_upto_region 10 with (fail)
   refine wp_named (fun W5 hW5=>?_)
   obtain ⟨hb5,hq5,-⟩:=fresh_box hW5
   clear hW5
   have HU:=Lib.hid hq5
   have HLx:=Lib.hid (HL.out.below hb5)
   have HB1x:=Lib.hid (HB1.out.below hb5 HB1.out.lt)
   have HXx:=Lib.hid (HX.out.below hb5 HX.out.lt)
   clear HL HB1 HX
   have HL:=HLx
   have HB1:=HB1x
   have HX:=HXx
   clear HLx HB1x HXx
   clear hb5 hq5
   obtain ⟨⟨a0,a1,a2⟩,-⟩:=HX.out.k3
   obtain ⟨⟨b0,b1,b2⟩,-⟩:=HB1.out.k3
   obtain ⟨⟨u0c,u1c,u2c,u3c,u4c⟩,-⟩:=HU.out.k5
   by_cases e1:j+1=n5
   case pos =>
    have HTT:Hid (T=true):=Lib.hid (by rw [←HT3.out,←HN5.out,e1];simp)
    subst e1
    have e2:((j+1:Nat):Int) - 1=(j:Int):=by omega
    have e3:(j:Int)+1 - 1=(j:Int):=by omega
    have HI4:=HYES.out (HTT.out)
    clear HYES HNO
    go_wp2_with fail
    go_roundw
    case rel=>exact ⟨j+1,by omega,by go_num,HI4,HB1,HL⟩
    case measure=>simp [intOf] <;> omega
   have HT4:Hid ((!u4.toList.isEmpty)=T):=Lib.hid (by rw [←HT3.out,←HN5.out,beq_eq_false_iff_ne.2 e1];rfl)
   have e2:((j:Int)==(n5:Int) - 1)=false:=by rw [beq_eq_false_iff_ne];omega
   have e3:¬(j:Int)=(n5:Int) - 1:=by omega
   clear e1 HT3
   cases hu:u4.toList.isEmpty
   case true =>
    have HE:=HNO.out (by rw [←HT4.out,hu];rfl)
    clear HYES HNO
    have z0:(9223372036854775807<rn.size+1)=False:=by simp;omega
    have hds:(⟨(Lib.decDigits j).toArray⟩:ByteArray).size≤2:=by show (Lib.decDigits j).toArray.size≤2;rw [List.size_toArray];exact digits_two (by omega)
    have z1:(9223372036854775807<rn.size+1+(⟨(Lib.decDigits j).toArray⟩:ByteArray).size)=False:=by simp only [eq_iff_iff,iff_false];omega
    obtain ⟨nd,HND⟩:∃ nd,Hid ((⟨(Lib.decDigits j).toArray⟩:ByteArray)=nd):=⟨_,Lib.hid rfl⟩
    rw [HND.out] at z1 hds
    have hnum:=fun W=>rnum_any j (by omega) W
    rw [HND.out] at hnum
    have HNUM:=Lib.hid hnum
    clear hnum
    have HE2:Hid (R=some (Chk.part rn nd)):=Lib.hid (by rw [HE.out,←HND.out];rfl)
    clear HE HND
    go_wp2_with fail
    have dB0:=fun (w':World) (hb:Bl W5 w')=>(Bk.k3 (HB1.out.below hb HB1.out.lt)).1.1
    clear a0 a1 a2 b0 b1 b2 u0c u1c u2c u3c u4c
    refine wp_region_bl W5 (by kernel_rfl) (by kernel_rfl) (Bl.refl _) ?_
    repeat (first | go_big_quiet_step ((intro hb;exact calls_bl hb (HNUM.out _))) | (refine wpQuiet_step (fun K hK=>?_);rw [if_pos (by rfl)];refine Lst.load_cell _ _ rfl _ rfl _ (by assumption) _ Tryz.underlying9 rfl ?_;go_simp;refine hK _ ?_;clear hK K) | (refine wpQuiet_step (fun K hK=>?_);go_simp;refine ⟨_,fun _ _=>rfl,hK _ ?_⟩;clear hK K))
    refine wpQuiet_nil ?_
    intro w9 hw9
    clear dB0
    have HLx:=Lib.hid (HL.out.below hw9)
    clear HL 
    have HL:=HLx
    clear HLx 
    go_wp2_with fail
    go_ret2
    exact ⟨by rw [HE2.out];rfl,HL.out.bel⟩
   have HI4:=HYES.out (by rw [←HT4.out,hu];rfl)
   clear HYES HNO
   go_wp2_with fail
   go_roundw
   case rel=>exact ⟨j+1,by omega,by go_num,HI4,HB1,HL⟩
   case measure=>simp [intOf] <;> omega
end Go.Proofs.YtlbihaikppkecaaGreatDoor
