import Derived.Test.YtogijkhenihaaaaGreatDoorGB31
import Derived.Test.YtogijkhenihaaaaGreatDoorGB21
set_option linter.all false
set_option maxRecDepth 100000
set_option maxHeartbeats 0
namespace Go.Proofs.YtogijkhenihaaaaGreatDoor
open Lib (hid)
open Go.BigFrame Go.RowKit
theorem Prn.Iy(T yn B:ByteArray)(yt:List Id.Srt)(hB:Prn.spB yt=B)(rest:List ByteArray):(T++⟨#[32]⟩++yn++⟨#[32,58,32]⟩++B++⟨#[59]⟩).data.toList++Prn.ext rest=T.data.toList++Prn.ext (yn::Id.iU::(yt.map Prn.bH++Id.aQ::rest)):=by
 subst hB;have e:=Prn.Na yt;rw[Prn.ext_cons,Prn.ext_cons,Prn.Qv,Prn.ext_cons];have e2:Prn.ext (yt.map Prn.bH)++(32::Id.aQ.data.toList++Prn.ext rest)=32::(Prn.spL yt++(59::Prn.ext rest)):=by
  have e3:(32::Id.aQ.data.toList++Prn.ext rest)=[32]++(59::Prn.ext rest):=rfl;rw[e3,<-xU,e];rfl
 rw[e2];simp[Prn.spB,Id.iU]
theorem LQ(v:Value)(x:Id.Sch)(hF:Chk.Fine x)(w:World)(hv:Id.ay w none v x) :
  Calls Tryz.prog 215 #[v] w λe w'=>e=.returned (Chk.zK (Prn.text x))/\Below w.heap.size w w':=by
 obtain⟨R,HR⟩:∃ R,Hid (Prn.text x=R):=⟨_,hid rfl⟩;rw[HR.out];have HF:=hid hF;have HV:=hid hv;obtain⟨A1,n1,c1,A2,n2,c2,A3,n3,c3,rfl,r1,r2,r3⟩:=hv;have HN1:Hid (n1=x.records.length):=hid (by obtain⟨_,_,e,_⟩:=ah.slice r1;injection e);have hm1:n1<=9223372036854775807:=by obtain⟨_,_,e,_,_⟩:=ah.slice r1;injection e;omega
 have H1:=hid r1;have HN2:Hid (n2=x.services.length):=hid (by obtain⟨_,_,e,_⟩:=ah.slice r2;injection e);have hm2:n2<=9223372036854775807:=by obtain⟨_,_,e,_,_⟩:=ah.slice r2;injection e;omega
 have H2:=hid r2;have HN3:Hid (n3=x.sagas.length):=hid (by obtain⟨_,_,e,_⟩:=ah.slice r3;injection e);have hm3:n3<=9223372036854775807:=by obtain⟨_,_,e,_,_⟩:=ah.slice r3;injection e;omega
 have H3:=hid r3;clear r1 r2 r3 hF;go_enter Tryz.func215,Tryz.ntmps215;go_upto_region 1 with(fail)
 refine aj (λV hV=>?_);have HL0:=hid (Chk.Lx.start hV);clear hV;obtain⟨⟨q0,q1,q2,q3⟩,-⟩:=HL0.out.box.k4;obtain⟨p,Hp⟩:∃ p,Hid (Chk.check x=p):=⟨_,hid rfl⟩;go_wp2_with fail;refine(Aj _ x HF.out _ (Id.ay.below HL0.out.bel HV.out)).mono ?_;rw[Chk.Dw,Hp.out];unfold Chk.zK;rintro e W1⟨rfl,hb⟩;have HL:=hid (HL0.out.below hb);clear HL0 hb q0 q1 q2 q3;obtain⟨ps,pe⟩:=p;simp only;by_cases hpe:pe=0
 case neg =>
  have HE:Hid (R=(⟨#[]⟩,pe)):=hid (by rw[<-HR.out];unfold Prn.text;rw[Hp.out,if_pos hpe]);have t1:((pe:Int) != 0)=true:=by rw[bne_iff_ne];omega
  have t2:¬(pe:Int)=0:=by omega
  have t3:((pe:Int)==0)=false:=by rw[xG];omega
  clear hpe;go_wp2_with fail;go_ret2;exact⟨by rw[HE.out];rfl,HL.out.bel⟩
 subst hpe;simp only[xY];have hRt:=Chk.sF (x:=x) (by rw[Hp.out]);have HRt:=hid hRt;have HRR:Hid ((if 65536<(Prn.jn (Prn.jP x)).size then((⟨#[]⟩:ByteArray),3)else(Prn.jn (Prn.jP x),0))=R):=hid (by rw[<-HR.out];unfold Prn.text;rw[Hp.out];exact(if_neg (by simp)).symm);obtain⟨F,HFd⟩:∃ F,Hid (Prn.jl (Prn.jP x)=F):=⟨_,hid rfl⟩;have HFL:Hid (F.length<=9830799099):=hid (by rw[<-HFd.out];exact Prn.Lu hRt HF.out);have HSZ:Hid (∀ r∈x.records,∀ f∈r.fields,f.type.length<=1000/\∀ y∈f.type,(Prn.bH y).size<=1000):=hid (λr hr f hf=>⟨((HF.out.re r hr).2.2 f hf).2.1,λy hy=>by
  have h1:=Prn.uY ((Prn.qm hRt).rf r hr f hf).2 (Prn.bH y) (List.mem_map.2 ⟨y,hy,rfl⟩);omega⟩)
 clear hRt HR Hp;obtain⟨⟨q0,q1,q2,q3⟩,-⟩:=HL.out.box.k4;have H00:Hid ((⟨#[]⟩:ByteArray).data.toList++(Id.fP.data.toList++Prn.ext (x.name::Id.aQ::(x.records.flatMap Prn.eu++(x.services.flatMap Prn.dn++x.sagas.flatMap Prn.bW))))=F):=hid (by rw[<-HFd.out];rfl);have HT0:Hid (((⟨#[109,111,100,117,108,101,32]⟩:ByteArray)++x.name++(⟨#[32,59]⟩:ByteArray)).data.toList++Prn.ext (x.records.flatMap Prn.eu++(x.services.flatMap Prn.dn++x.sagas.flatMap Prn.bW))=F):=hid (by
  rw[<-H00.out];simp[Prn.ext,Id.fP,Id.aQ])
 have jc:7+x.name.size+2<=9830799099:=by
  have h:=Prn.kT HT0.out;have e:((⟨#[109,111,100,117,108,101,32]⟩:ByteArray)++x.name++(⟨#[32,59]⟩:ByteArray)).size=7+x.name.size+2:=by simp only[ByteArray.size_append];rfl
  have:=HFL.out;omega
 have z2:(9223372036854775807<7+x.name.size)=False:=by simp;omega
 have z3:(9223372036854775807<7+x.name.size+2)=False:=by simp;omega
 clear jc H00;go_wp2_with fail;clear z2 z3;go_loopw [7,6] (λi s wr=>∃(k:Nat)(T:ByteArray),k<=n1/\i=.int .i64 k/\.string T=s/\Hid (T.data.toList++Prn.ext ((x.records.drop k).flatMap Prn.eu++(x.services.flatMap Prn.dn++x.sagas.flatMap Prn.bW))=F)/\Hid (Chk.Lx w wr #[.string x.name,.slice A1 n1 c1,.slice A2 n2 c2,.slice A3 n3 c3])) (λi _ _=>n1 - (intOf i).toNat)
 case atStart=>exact⟨0,_,by omega,rfl,rfl,HT0,HL⟩
 case round =>
  clear HL q0 q1 q2 q3 HT0;obtain⟨k,T,hk,rfl,rfl,HI,HL⟩:=hrel;obtain⟨V1,rfl⟩:∃ w',w'=wr:=⟨_,rfl⟩;have ik0:(0:Int)<=(k:Int):=by omega
  obtain⟨⟨q0,q1,q2,q3⟩,-⟩:=HL.out.box.k4;by_cases hlt:k<n1
  case neg =>
   have HT0:Hid (T.data.toList++Prn.ext (x.services.flatMap Prn.dn++x.sagas.flatMap Prn.bW)=F):=hid (by have h:=HI.out;rw[xP (by have:=HN1.out;omega)]at h;exact h);clear HI;go_wp2_with fail;go_loopw [10,6] (λi s wr=>∃(k:Nat)(T:ByteArray),k<=n2/\i=.int .i64 k/\.string T=s/\Hid (T.data.toList++Prn.ext ((x.services.drop k).flatMap Prn.dn++x.sagas.flatMap Prn.bW)=F)/\Hid (Chk.Lx w wr #[.string x.name,.slice A1 n1 c1,.slice A2 n2 c2,.slice A3 n3 c3])) (λi _ _=>n2 - (intOf i).toNat)
   case atStart=>exact⟨0,_,by omega,rfl,rfl,HT0,HL⟩
   case round =>
    clear HL q0 q1 q2 q3 HT0;obtain⟨k,T,hk,rfl,rfl,HI,HL⟩:=hrel;obtain⟨V1,rfl⟩:∃ w',w'=wr:=⟨_,rfl⟩;have ik0:(0:Int)<=(k:Int):=by omega
    obtain⟨⟨q0,q1,q2,q3⟩,-⟩:=HL.out.box.k4;by_cases hlt:k<n2
    case neg =>
     have HT0:Hid (T.data.toList++Prn.ext (x.sagas.flatMap Prn.bW++[])=F):=hid (by have h:=HI.out;rw[xP (by have:=HN2.out;omega)]at h;rw[List.append_nil];exact h);clear HI;go_wp2_with fail;go_loopw [14,6] (λi s wr=>∃(k:Nat)(T:ByteArray),k<=n3/\i=.int .i64 k/\.string T=s/\Hid (T.data.toList++Prn.ext ((x.sagas.drop k).flatMap Prn.bW++[])=F)/\Hid (Chk.Lx w wr #[.string x.name,.slice A1 n1 c1,.slice A2 n2 c2,.slice A3 n3 c3])) (λi _ _=>n3 - (intOf i).toNat)
     case atStart=>exact⟨0,_,by omega,rfl,rfl,HT0,HL⟩
     case round =>
      clear HL q0 q1 q2 q3 HT0;obtain⟨k,T,hk,rfl,rfl,HI,HL⟩:=hrel;obtain⟨V1,rfl⟩:∃ w',w'=wr:=⟨_,rfl⟩;have ik0:(0:Int)<=(k:Int):=by omega
      obtain⟨⟨q0,q1,q2,q3⟩,-⟩:=HL.out.box.k4;by_cases hlt:k<n3
      case neg =>
       have HJN:Hid (T=Prn.jn (Prn.jP x)):=hid (by
        have h:=HI.out;rw[xP (by have:=HN3.out;omega)]at h;have h2:T.data.toList=F:=by rw[<-h];simp[Prn.ext]
        unfold Prn.jn;rw[HFd.out,<-h2])
       have S9:Hid ((if 65536<T.size then((⟨#[]⟩:ByteArray),3)else(T,0))=R):=hid (by rw[HJN.out];exact HRR.out);clear HI HJN;by_cases h6:65536<T.size
       case pos =>
        have HE:Hid (R=(⟨#[]⟩,3)):=hid (by rw[<-S9.out,if_pos h6]);have h6i:(65536:Int)<(T.size:Int):=by omega
        go_wp2_with fail;go_ret2;exact⟨by rw[HE.out];rfl,HL.out.bel⟩
       have HE:Hid (R=(T,0)):=hid (by rw[<-S9.out,if_neg h6]);have h6i:¬(65536:Int)<(T.size:Int):=by omega
       go_wp2_with fail;go_ret2;exact⟨by rw[HE.out];rfl,HL.out.bel⟩
      have aX:k<x.sagas.length:=by rw[<-HN3.out];exact hlt
      obtain⟨g1,off1,cs,rfl,-,⟨u,he,HU⟩,hc⟩:=ah.get H3.out aX (by omega);obtain⟨r,Hr⟩:∃ r,Hid (x.sagas[k]=r):=⟨_,hid rfl⟩;rw[Hr.out]at he HU;obtain⟨rn,ra,rf⟩:=r;subst he;simp only at HU hc;obtain⟨A5,n5,c5,rfl⟩:=ah.is HU;have HN5:Hid (n5=rf.length):=hid (by obtain⟨_,_,e,_⟩:=ah.slice HU;injection e);have hm5:n5<=9223372036854775807:=by obtain⟨_,_,e,_,_⟩:=ah.slice HU;injection e;omega
      have H5:=hid HU;have HDk:Hid (x.sagas.drop k=⟨rn,ra,rf⟩::x.sagas.drop (k+1)):=hid (by rw[xQ aX,Hr.out]);have b0:=hc 0 _ rfl;have b1:=hc 1 _ rfl;have b2:=hc 2 _ rfl;simp only[xK]at b0;have aC:g1<w.heap.size:=xH w _ b0;have b0:=(HL.out.bel.cell aC).trans b0;have b1:=(HL.out.bel.cell aC).trans b1;have b2:=(HL.out.bel.cell aC).trans b2;have i11:(k:Int)<(n3:Int):=by omega
      clear hc HU Hr;have qP:¬g1=V1.heap.size:=by have:=HL.out.bel.size;omega
      go_upto_region 35 with(fail)
      refine aj (λW1 hW1=>?_);obtain⟨hb1,hq1,-⟩:=au hW1;have HQ:=hid hq1;have HLx:=hid (HL.out.below hb1);clear hW1 hb1 HL q0 q1 q2 q3 b0 b1 b2;have HL:=HLx;clear HLx;obtain⟨⟨b0,b1,b2⟩,-⟩:=hq1.k3;clear hq1;have hmem:(⟨rn,ra,rf⟩:Id.Sag)∈x.sagas:=by rw[<-aP aX HDk.out];exact xR _
      have KF:=hid (Prn.C9 HRt.out hmem);clear hmem;have HI1:Hid (T.data.toList++Prn.ext (Id.lT::rn::Id.iJ::ra::Id.gu::Id.bF::(rf.flatMap Prn.kD++Id.aJ::((x.sagas.drop (k+1)).flatMap Prn.bW++[])))=F):=hid (by have h:=HI.out;rw[HDk.out,yJ]at h;simpa only[Prn.bW,xU,List.cons_append,yI]using h);clear HI;have HT1:Hid ((T++(⟨#[32,115,97,103,97,32]⟩:ByteArray)++rn++(⟨#[32,40,32]⟩:ByteArray)++ra++(⟨#[32,41,32,123]⟩:ByteArray)).data.toList++Prn.ext (rf.flatMap Prn.kD++Id.aJ::((x.sagas.drop (k+1)).flatMap Prn.bW++[]))=F):=hid (by
       rw[<-HI1.out];simp[Prn.ext,Id.lT,Id.bF,Id.iJ,Id.gu])
      have jc:T.size+6+rn.size+3+ra.size+4<=9830799099:=by
       have h:=Prn.kT HT1.out;have e:(T++(⟨#[32,115,97,103,97,32]⟩:ByteArray)++rn++(⟨#[32,40,32]⟩:ByteArray)++ra++(⟨#[32,41,32,123]⟩:ByteArray)).size=T.size+6+rn.size+3+ra.size+4:=by simp only[ByteArray.size_append];rfl
       have:=HFL.out;omega
      have z2:(9223372036854775807<T.size+6)=False:=by simp;omega
      have z3:(9223372036854775807<T.size+6+rn.size)=False:=by simp;omega
      have z4:(9223372036854775807<T.size+6+rn.size+3)=False:=by simp;omega
      have z5:(9223372036854775807<T.size+6+rn.size+3+ra.size)=False:=by simp;omega
      have z6:(9223372036854775807<T.size+6+rn.size+3+ra.size+4)=False:=by simp;omega
      clear jc;go_wp2_with fail;clear z2 z3 z4 z5 z6;go_loopw [16,6] (λi s wr=>∃(j:Nat)(T:ByteArray),j<=n5/\i=.int .i64 j/\.string T=s/\Hid (T.data.toList++Prn.ext ((rf.drop j).flatMap Prn.kD++Id.aJ::((x.sagas.drop (k+1)).flatMap Prn.bW++[]))=F)/\Hid (Bk wr V1.heap.size 105 #[.string rn,.string ra,.slice A5 n5 c5])/\Hid (Chk.Lx w wr #[.string x.name,.slice A1 n1 c1,.slice A2 n2 c2,.slice (some ⟨g1,off1,none⟩) n3 c3])) (λi _ _=>n5 - (intOf i).toNat)
      case atStart=>exact⟨0,_,by omega,rfl,rfl,HT1,HQ,HL⟩
      case round =>
       clear HL HQ HT1 b0 b1 b2;obtain⟨j,T,hj,rfl,rfl,HJ,HQ,HL⟩:=hrel;obtain⟨V2,rfl⟩:∃ w',w'=wr:=⟨_,rfl⟩;have ij0:(0:Int)<=(j:Int):=by omega
       obtain⟨⟨b0,b1,b2⟩,-⟩:=HQ.out.k3;by_cases hlj:j<n5
       case neg =>
        have HJ1:Hid (T.data.toList++Prn.ext (Id.aJ::((x.sagas.drop (k+1)).flatMap Prn.bW++[]))=F):=hid (by have h:=HJ.out;rw[xP (by have:=HN5.out;omega)]at h;exact h);clear HJ;have HT2:Hid ((T++(⟨#[32,125]⟩:ByteArray)).data.toList++Prn.ext ((x.sagas.drop (k+1)).flatMap Prn.bW++[])=F):=hid (by
         rw[<-HJ1.out];simp[Prn.ext,Id.aJ])
        have jc:T.size+2<=9830799099:=by
         have h:=Prn.kT HT2.out;have e:(T++(⟨#[32,125]⟩:ByteArray)).size=T.size+2:=by simp only[ByteArray.size_append];rfl
         have:=HFL.out;omega
        have z2:(9223372036854775807<T.size+2)=False:=by simp;omega
        clear jc;go_wp2_with fail;go_roundw
        case rel=>exact⟨k+1,_,by omega,by go_num,rfl,HT2,HL⟩
        case measure=>simp[intOf]<;>omega
       have dL:j<rf.length:=by rw[<-HN5.out];exact hlj
       obtain⟨g2,off2,cs,rfl,-,he,hc⟩:=ah.get H5.out dL (by omega);obtain⟨r,Hr⟩:∃ r,Hid (rf[j]=r):=⟨_,hid rfl⟩;rw[Hr.out]at he;obtain⟨p0,p1,p2⟩:=r;unfold Id.dU Id.Stp.cells at he;subst he;have HDj:Hid (rf.drop j=⟨p0,p1,p2⟩::rf.drop (j+1)):=hid (by rw[xQ dL,Hr.out]);have a0:=hc 0 _ rfl;have a1:=hc 1 _ rfl;have a2:=hc 2 _ rfl;simp only[xK]at a0;have aH:g2<w.heap.size:=xH w _ a0;have a0:=(HL.out.bel.cell aH).trans a0;have a1:=(HL.out.bel.cell aH).trans a1;have a2:=(HL.out.bel.cell aH).trans a2;have i21:(j:Int)<(n5:Int):=by omega
       clear hc Hr;have hat:=KF.out ⟨p0,p1,p2⟩ (by rw[<-aP dL HDj.out];exact xR _);simp only at hat;obtain⟨q,rfl⟩:∃ q:Nat,p2=q:=⟨p2.toNat,by omega⟩;have J8:q<100:=by omega
       clear hat;have HNW:Hid ((⟨(Lib.decDigits q).toArray⟩:ByteArray)=Prn.qO q):=hid (by unfold Prn.qO;rw[Lib.itoa_nonneg]);obtain⟨B,HBy⟩:∃ B,Hid (Prn.qO q=B):=⟨_,hid rfl⟩;have HJ1:Hid (T.data.toList++Prn.ext (Id.wDo::p0::Id.kW::p1::Id.wAt::B::Id.aQ::((rf.drop (j+1)).flatMap Prn.kD++Id.aJ::((x.sagas.drop (k+1)).flatMap Prn.bW++[])))=F):=hid (by have h:=HJ.out;rw[HDj.out,yJ]at h;rw[<-HBy.out];simpa only[Prn.kD,xU,List.cons_append,yI]using h);clear HJ;have HT2:Hid ((T++(⟨#[32,100,111,32]⟩:ByteArray)++p0++(⟨#[32,46,32]⟩:ByteArray)++p1++(⟨#[32,97,116,32]⟩:ByteArray)++B++(⟨#[32,59]⟩:ByteArray)).data.toList++Prn.ext ((rf.drop (j+1)).flatMap Prn.kD++Id.aJ::((x.sagas.drop (k+1)).flatMap Prn.bW++[]))=F):=hid (by
        rw[<-HJ1.out];simp[Prn.ext,Id.wDo,Id.kW,Id.wAt,Id.aQ])
       have jc:T.size+4+p0.size+3+p1.size+4+B.size+2<=9830799099:=by
        have h:=Prn.kT HT2.out;have e:(T++(⟨#[32,100,111,32]⟩:ByteArray)++p0++(⟨#[32,46,32]⟩:ByteArray)++p1++(⟨#[32,97,116,32]⟩:ByteArray)++B++(⟨#[32,59]⟩:ByteArray)).size=T.size+4+p0.size+3+p1.size+4+B.size+2:=by simp only[ByteArray.size_append];rfl
        have:=HFL.out;omega
       have z2:(9223372036854775807<T.size+4)=False:=by simp;omega
       have z3:(9223372036854775807<T.size+4+p0.size)=False:=by simp;omega
       have z4:(9223372036854775807<T.size+4+p0.size+3)=False:=by simp;omega
       have z5:(9223372036854775807<T.size+4+p0.size+3+p1.size)=False:=by simp;omega
       have z6:(9223372036854775807<T.size+4+p0.size+3+p1.size+4)=False:=by simp;omega
       have z7:(9223372036854775807<T.size+4+p0.size+3+p1.size+4+B.size)=False:=by simp;omega
       have z8:(9223372036854775807<T.size+4+p0.size+3+p1.size+4+B.size+2)=False:=by simp;omega
       clear jc;have hcall:∀ W,Bl V2 W->Calls Tryz.prog 245 #[.int .i64 q] W λe w'=>e=.returned (.string B)/\Bl V2 w':=λW hW=>by have h:=fG hW (Jj q J8 W);rw[HNW.out,HBy.out]at h;exact h
       have HC:=hid hcall;clear hcall;go_wp2_with fail;have dB2:=λ(w':World) (hb:Bl V2 w')=>(Bk.k3 (HQ.out.below hb HQ.out.lt)).1.2.2
       have dA0:∀ w',Bl V2 w'->w'.cell? _=_:=λw' hb=>(hb.cell (Nat.lt_of_lt_of_le aH HL.out.bel.size)).trans a0
       have dA1:∀ w',Bl V2 w'->w'.cell? _=_:=λw' hb=>(hb.cell (Nat.lt_of_lt_of_le aH HL.out.bel.size)).trans a1
       have dA2:∀ w',Bl V2 w'->w'.cell? _=_:=λw' hb=>(hb.cell (Nat.lt_of_lt_of_le aH HL.out.bel.size)).trans a2
       clear a0 a1 a2 b0 b1 b2;refine dI V2 (by kernel_rfl) (by kernel_rfl) (Bl.refl _) ?_;repeat(first|go_big_quiet_step((intro hb;exact HC.out _ hb))|(refine wpQuiet_step (λK hK=>?_);rw[if_pos (by rfl)];refine Lst.aF _ _ rfl _ rfl _ (by assumption) _ Tryz.underlying103 rfl ?_;go_simp;refine hK _ ?_;clear hK K)|(refine wpQuiet_step (λK hK=>?_);rw[if_pos (by rfl)];refine Lst.aF _ _ rfl _ rfl _ (by assumption) _ Tryz.underlying9 rfl ?_;go_simp;refine hK _ ?_;clear hK K)|(refine wpQuiet_step (λK hK=>?_);rw[if_pos (by rfl)];refine Lst.aF _ _ rfl _ rfl _ (by assumption) _ Tryz.underlying3 rfl ?_;go_simp;refine hK _ ?_;clear hK K)|(refine wpQuiet_step (λK hK=>?_);go_simp;refine⟨_,λ_ _=>rfl,hK _ ?_⟩;clear hK K))
       refine wpQuiet_nil ?_;intro w9 hw9;clear dB2 dA0 dA1 dA2;have HLx:=hid (HL.out.below hw9);have HQx:=hid (HQ.out.below hw9 HQ.out.lt);go_wp2_with fail;go_roundw
       case rel=>exact⟨j+1,_,by omega,by go_num,rfl,HT2,HQx,HLx⟩
       case measure=>simp[intOf]<;>omega
    have aX:k<x.services.length:=by rw[<-HN2.out];exact hlt
    obtain⟨g1,off1,cs,rfl,-,⟨u,he,HU⟩,hc⟩:=ah.get H2.out aX (by omega);obtain⟨r,Hr⟩:∃ r,Hid (x.services[k]=r):=⟨_,hid rfl⟩;rw[Hr.out]at he HU;obtain⟨rn,rf⟩:=r;subst he;simp only at HU hc;obtain⟨A5,n5,c5,rfl⟩:=ah.is HU;have HN5:Hid (n5=rf.length):=hid (by obtain⟨_,_,e,_⟩:=ah.slice HU;injection e);have hm5:n5<=9223372036854775807:=by obtain⟨_,_,e,_,_⟩:=ah.slice HU;injection e;omega
    have H5:=hid HU;have HDk:Hid (x.services.drop k=⟨rn,rf⟩::x.services.drop (k+1)):=hid (by rw[xQ aX,Hr.out]);have b0:=hc 0 _ rfl;have b1:=hc 1 _ rfl;simp only[xK]at b0;have aC:g1<w.heap.size:=xH w _ b0;have b0:=(HL.out.bel.cell aC).trans b0;have b1:=(HL.out.bel.cell aC).trans b1;have i11:(k:Int)<(n2:Int):=by omega
    clear hc HU Hr;have qP:¬g1=V1.heap.size:=by have:=HL.out.bel.size;omega
    go_upto_region 21 with(fail)
    refine aj (λW1 hW1=>?_);obtain⟨hb1,hq1,-⟩:=au hW1;have HQ:=hid hq1;have HLx:=hid (HL.out.below hb1);clear hW1 hb1 HL q0 q1 q2 q3 b0 b1;have HL:=HLx;clear HLx;obtain⟨⟨b0,b1⟩,-⟩:=hq1.k2;clear hq1;have HI1:Hid (T.data.toList++Prn.ext (Id.iL::rn::Id.bF::(rf.flatMap Prn.iZ++Id.aJ::((x.services.drop (k+1)).flatMap Prn.dn++x.sagas.flatMap Prn.bW)))=F):=hid (by have h:=HI.out;rw[HDk.out,yJ]at h;simpa only[Prn.dn,xU,List.cons_append,yI]using h);clear HI;have HT1:Hid ((T++(⟨#[32,115,101,114,118,105,99,101,32]⟩:ByteArray)++rn++(⟨#[32,123]⟩:ByteArray)).data.toList++Prn.ext (rf.flatMap Prn.iZ++Id.aJ::((x.services.drop (k+1)).flatMap Prn.dn++x.sagas.flatMap Prn.bW))=F):=hid (by
     rw[<-HI1.out];simp[Prn.ext,Id.iL,Id.bF])
    have jc:T.size+9+rn.size+2<=9830799099:=by
     have h:=Prn.kT HT1.out;have e:(T++(⟨#[32,115,101,114,118,105,99,101,32]⟩:ByteArray)++rn++(⟨#[32,123]⟩:ByteArray)).size=T.size+9+rn.size+2:=by simp only[ByteArray.size_append];rfl
     have:=HFL.out;omega
    have z2:(9223372036854775807<T.size+9)=False:=by simp;omega
    have z3:(9223372036854775807<T.size+9+rn.size)=False:=by simp;omega
    have z4:(9223372036854775807<T.size+9+rn.size+2)=False:=by simp;omega
    clear jc;go_wp2_with fail;clear z2 z3 z4;go_loopw [12,6] (λi s wr=>∃(j:Nat)(T:ByteArray),j<=n5/\i=.int .i64 j/\.string T=s/\Hid (T.data.toList++Prn.ext ((rf.drop j).flatMap Prn.iZ++Id.aJ::((x.services.drop (k+1)).flatMap Prn.dn++x.sagas.flatMap Prn.bW))=F)/\Hid (Bk wr V1.heap.size 101 #[.string rn,.slice A5 n5 c5])/\Hid (Chk.Lx w wr #[.string x.name,.slice A1 n1 c1,.slice (some ⟨g1,off1,none⟩) n2 c2,.slice A3 n3 c3])) (λi _ _=>n5 - (intOf i).toNat)
    case atStart=>exact⟨0,_,by omega,rfl,rfl,HT1,HQ,HL⟩
    case round =>
     clear HL HQ HT1 b0 b1;obtain⟨j,T,hj,rfl,rfl,HJ,HQ,HL⟩:=hrel;obtain⟨V2,rfl⟩:∃ w',w'=wr:=⟨_,rfl⟩;have ij0:(0:Int)<=(j:Int):=by omega
     obtain⟨⟨b0,b1⟩,-⟩:=HQ.out.k2;by_cases hlj:j<n5
     case neg =>
      have HJ1:Hid (T.data.toList++Prn.ext (Id.aJ::((x.services.drop (k+1)).flatMap Prn.dn++x.sagas.flatMap Prn.bW))=F):=hid (by have h:=HJ.out;rw[xP (by have:=HN5.out;omega)]at h;exact h);clear HJ;have HT2:Hid ((T++(⟨#[32,125]⟩:ByteArray)).data.toList++Prn.ext ((x.services.drop (k+1)).flatMap Prn.dn++x.sagas.flatMap Prn.bW)=F):=hid (by
       rw[<-HJ1.out];simp[Prn.ext,Id.aJ])
      have jc:T.size+2<=9830799099:=by
       have h:=Prn.kT HT2.out;have e:(T++(⟨#[32,125]⟩:ByteArray)).size=T.size+2:=by simp only[ByteArray.size_append];rfl
       have:=HFL.out;omega
      have z2:(9223372036854775807<T.size+2)=False:=by simp;omega
      clear jc;go_wp2_with fail;go_roundw
      case rel=>exact⟨k+1,_,by omega,by go_num,rfl,HT2,HL⟩
      case measure=>simp[intOf]<;>omega
     have dL:j<rf.length:=by rw[<-HN5.out];exact hlj
     obtain⟨g2,off2,cs,rfl,-,he,hc⟩:=ah.get H5.out dL (by omega);obtain⟨r,Hr⟩:∃ r,Hid (rf[j]=r):=⟨_,hid rfl⟩;rw[Hr.out]at he;obtain⟨m0,m1,m2,m3,m4⟩:=r;unfold Id.dV Id.Mth.cells at he;subst he;have HDj:Hid (rf.drop j=⟨m0,m1,m2,m3,m4⟩::rf.drop (j+1)):=hid (by rw[xQ dL,Hr.out]);have a0:=hc 0 _ rfl;have a1:=hc 1 _ rfl;have a2:=hc 2 _ rfl;have a3:=hc 3 _ rfl;have a4:=hc 4 _ rfl;simp only[xK]at a0;have aH:g2<w.heap.size:=xH w _ a0;have a0:=(HL.out.bel.cell aH).trans a0;have a1:=(HL.out.bel.cell aH).trans a1;have a2:=(HL.out.bel.cell aH).trans a2;have a3:=(HL.out.bel.cell aH).trans a3;have a4:=(HL.out.bel.cell aH).trans a4;have i21:(j:Int)<(n5:Int):=by omega
     clear hc Hr;have Uo:¬g2=V2.heap.size:=by have:=HL.out.bel.size;omega
     go_upto_region 26 with(fail)
     refine aj (λW3 hW3=>?_);obtain⟨hb3,hq3,-⟩:=au hW3;have HM:=hid hq3;have HLx:=hid (HL.out.below hb3);have HQx:=hid (HQ.out.below hb3 HQ.out.lt);clear hW3 hb3 hq3 HL HQ a0 a1 a2 a3 a4 b0 b1;obtain⟨B,HBy⟩:∃ B,Hid (Prn.bH ⟨m2,⟨#[]⟩⟩=B):=⟨_,hid rfl⟩;have HJ1:Hid (T.data.toList++Prn.ext (m3::m0::Id.iJ::m1::Id.gu::Id.jw::B::(Prn.kR ⟨m0,m1,m2,m3,m4⟩++Id.aQ::((rf.drop (j+1)).flatMap Prn.iZ++Id.aJ::((x.services.drop (k+1)).flatMap Prn.dn++x.sagas.flatMap Prn.bW))))=F):=hid (by have h:=HJ.out;rw[HDj.out,yJ]at h;rw[<-HBy.out];simpa only[Prn.iZ,xU,List.cons_append,yI]using h);clear HJ;have HT2:Hid ((T++(⟨#[32]⟩:ByteArray)++m3++(⟨#[32]⟩:ByteArray)++m0++(⟨#[32,40,32]⟩:ByteArray)++m1++(⟨#[32,41,32,45,62,32]⟩:ByteArray)++B).data.toList++Prn.ext (Prn.kR ⟨m0,m1,m2,m3,m4⟩++Id.aQ::((rf.drop (j+1)).flatMap Prn.iZ++Id.aJ::((x.services.drop (k+1)).flatMap Prn.dn++x.sagas.flatMap Prn.bW)))=F):=hid (by
      rw[<-HJ1.out];simp[Prn.ext,Id.iJ,Id.gu,Id.jw])
     have jc:T.size+1+m3.size+1+m0.size+3+m1.size+6+B.size<=9830799099:=by
      have h:=Prn.kT HT2.out;have e:(T++(⟨#[32]⟩:ByteArray)++m3++(⟨#[32]⟩:ByteArray)++m0++(⟨#[32,40,32]⟩:ByteArray)++m1++(⟨#[32,41,32,45,62,32]⟩:ByteArray)++B).size=T.size+1+m3.size+1+m0.size+3+m1.size+6+B.size:=by simp only[ByteArray.size_append];rfl
      have:=HFL.out;omega
     have z2:(9223372036854775807<T.size+1)=False:=by simp;omega
     have z3:(9223372036854775807<T.size+1+m3.size)=False:=by simp;omega
     have z4:(9223372036854775807<T.size+1+m3.size+1)=False:=by simp;omega
     have z5:(9223372036854775807<T.size+1+m3.size+1+m0.size)=False:=by simp;omega
     have z6:(9223372036854775807<T.size+1+m3.size+1+m0.size+3)=False:=by simp;omega
     have z7:(9223372036854775807<T.size+1+m3.size+1+m0.size+3+m1.size)=False:=by simp;omega
     have z8:(9223372036854775807<T.size+1+m3.size+1+m0.size+3+m1.size+6)=False:=by simp;omega
     have z9:(9223372036854775807<T.size+1+m3.size+1+m0.size+3+m1.size+6+B.size)=False:=by simp;omega
     clear jc;have hcall:∀ W,Bl W3 W->Calls Tryz.prog 244 #[.agg #[.int .u8 m2,.string ⟨#[]⟩]] W λe w'=>e=.returned (.string B)/\Bl W3 w':=λW hW=>by have h:=fG hW (CG m2 ⟨#[]⟩ W);rw[HBy.out]at h;exact h
     have HC:=hid hcall;clear hcall;have d0:=λ(w':World) (hb:Bl W3 w')=>(Bk.k5 (HM.out.below hb HM.out.lt)).1.1
     have d1:=λ(w':World) (hb:Bl W3 w')=>(Bk.k5 (HM.out.below hb HM.out.lt)).1.2.1
     have d2:=λ(w':World) (hb:Bl W3 w')=>(Bk.k5 (HM.out.below hb HM.out.lt)).1.2.2.1
     have d3:=λ(w':World) (hb:Bl W3 w')=>(Bk.k5 (HM.out.below hb HM.out.lt)).1.2.2.2.1
     have d4:=λ(w':World) (hb:Bl W3 w')=>(Bk.k5 (HM.out.below hb HM.out.lt)).1.2.2.2.2
     refine dI W3 (by kernel_rfl) (by kernel_rfl) (Bl.refl _) ?_;repeat(first|go_big_quiet_step((intro hb;exact HC.out _ hb))|(refine wpQuiet_step (λK hK=>?_);rw[if_pos (by rfl)];refine Lst.aF _ _ rfl _ rfl _ (by assumption) _ Tryz.underlying9 rfl ?_;go_simp;refine hK _ ?_;clear hK K)|(refine wpQuiet_step (λK hK=>?_);rw[if_pos (by rfl)];refine Lst.aF _ _ rfl _ rfl _ (by assumption) _ Tryz.underlying5 rfl ?_;go_simp;refine hK _ ?_;clear hK K)|(refine wpQuiet_step (λK hK=>?_);go_simp;refine⟨_,λ_ _=>rfl,hK _ ?_⟩;clear hK K))
     refine wpQuiet_nil ?_;intro w9 hw9;clear d0 d1 d2 d3 d4;have HLy:=hid (HLx.out.below hw9);have HQy:=hid (HQx.out.below hw9 HQx.out.lt);obtain⟨⟨a0,a1,a2,a3,a4⟩,-⟩:=(HM.out.below hw9 HM.out.lt).k5;clear z2 z3 z4 z5 z6 z7 z8 z9;generalize hT9:T++(⟨#[32]⟩:ByteArray)++m3++(⟨#[32]⟩:ByteArray)++m0++(⟨#[32,40,32]⟩:ByteArray)++m1++(⟨#[32,41,32,45,62,32]⟩:ByteArray)++B=T9 at HT2 ⊢;clear hT9 HM;cases hu:m4.toList.isEmpty
     case true =>
      have HT3:Hid (T9.data.toList++Prn.ext (Id.aQ::((rf.drop (j+1)).flatMap Prn.iZ++Id.aJ::((x.services.drop (k+1)).flatMap Prn.dn++x.sagas.flatMap Prn.bW)))=F):=hid (by have h:=HT2.out;unfold Prn.kR at h;rw[if_pos hu]at h;exact h);have HT4:Hid ((T9++(⟨#[32,59]⟩:ByteArray)).data.toList++Prn.ext ((rf.drop (j+1)).flatMap Prn.iZ++Id.aJ::((x.services.drop (k+1)).flatMap Prn.dn++x.sagas.flatMap Prn.bW))=F):=hid (by
       rw[<-HT3.out];simp[Prn.ext,Id.aQ])
      have jc:T9.size+2<=9830799099:=by
       have h:=Prn.kT HT4.out;have e:(T9++(⟨#[32,59]⟩:ByteArray)).size=T9.size+2:=by simp only[ByteArray.size_append];rfl
       have:=HFL.out;omega
      have z2:(9223372036854775807<T9.size+2)=False:=by simp;omega
      clear jc;go_wp2_with fail;go_roundw
      case rel=>exact⟨j+1,_,by omega,by go_num,rfl,HT4,HQy,HLy⟩
      case measure=>simp[intOf]<;>omega
     have HT3:Hid (T9.data.toList++Prn.ext (Id.iI::m4::Id.aQ::((rf.drop (j+1)).flatMap Prn.iZ++Id.aJ::((x.services.drop (k+1)).flatMap Prn.dn++x.sagas.flatMap Prn.bW)))=F):=hid (by have h:=HT2.out;unfold Prn.kR at h;rw[if_neg (by rw[hu];decide)]at h;exact h);have HT4:Hid ((T9++(⟨#[32,117,110,100,111,32]⟩:ByteArray)++m4++(⟨#[32,59]⟩:ByteArray)).data.toList++Prn.ext ((rf.drop (j+1)).flatMap Prn.iZ++Id.aJ::((x.services.drop (k+1)).flatMap Prn.dn++x.sagas.flatMap Prn.bW))=F):=hid (by
      rw[<-HT3.out];simp[Prn.ext,Id.aQ,Id.iI])
     have jc:T9.size+6+m4.size+2<=9830799099:=by
      have h:=Prn.kT HT4.out;have e:(T9++(⟨#[32,117,110,100,111,32]⟩:ByteArray)++m4++(⟨#[32,59]⟩:ByteArray)).size=T9.size+6+m4.size+2:=by simp only[ByteArray.size_append];rfl
      have:=HFL.out;omega
     have z2:(9223372036854775807<T9.size+6)=False:=by simp;omega
     have z3:(9223372036854775807<T9.size+6+m4.size)=False:=by simp;omega
     have z4:(9223372036854775807<T9.size+6+m4.size+2)=False:=by simp;omega
     clear jc;go_wp2_with fail;go_roundw
     case rel=>exact⟨j+1,_,by omega,by go_num,rfl,HT4,HQy,HLy⟩
     case measure=>simp[intOf]<;>omega
  have aX:k<x.records.length:=by rw[<-HN1.out];exact hlt
  obtain⟨g1,off1,cs,rfl,-,⟨u,he,HU⟩,hc⟩:=ah.get H1.out aX (by omega);obtain⟨r,Hr⟩:∃ r,Hid (x.records[k]=r):=⟨_,hid rfl⟩;rw[Hr.out]at he HU;obtain⟨rn,rc,rf⟩:=r;subst he;simp only at HU hc;obtain⟨A5,n5,c5,rfl⟩:=ah.is HU;have HN5:Hid (n5=rf.length):=hid (by obtain⟨_,_,e,_⟩:=ah.slice HU;injection e);have hm5:n5<=9223372036854775807:=by obtain⟨_,_,e,_,_⟩:=ah.slice HU;injection e;omega
  have H5:=hid HU;have HDk:Hid (x.records.drop k=⟨rn,rc,rf⟩::x.records.drop (k+1)):=hid (by rw[xQ aX,Hr.out]);have b0:=hc 0 _ rfl;have b1:=hc 1 _ rfl;have b2:=hc 2 _ rfl;simp only[xK]at b0;have aC:g1<w.heap.size:=xH w _ b0;have b0:=(HL.out.bel.cell aC).trans b0;have b1:=(HL.out.bel.cell aC).trans b1;have b2:=(HL.out.bel.cell aC).trans b2;have i11:(k:Int)<(n1:Int):=by omega
  clear hc HU Hr;have qP:¬g1=V1.heap.size:=by have:=HL.out.bel.size;omega
  go_upto_region 9 with(fail)
  refine aj (λW1 hW1=>?_);obtain⟨hb1,hq1,-⟩:=au hW1;have HQ:=hid hq1;have HLx:=hid (HL.out.below hb1);clear hW1 hb1 HL q0 q1 q2 q3 b0 b1 b2;have HL:=HLx;clear HLx;obtain⟨⟨b0,b1,b2⟩,-⟩:=hq1.k3;clear hq1;have hmem:(⟨rn,rc,rf⟩:Id.Rec)∈x.records:=by rw[<-aP aX HDk.out];exact xR _
  have HSF:=hid (HSZ.out _ hmem);clear hmem;cases rc
  case false =>
   have HI1:Hid (T.data.toList++Prn.ext (Id.jm::rn::Id.bF::(rf.flatMap Prn.fF++Id.aJ::((x.records.drop (k+1)).flatMap Prn.eu++(x.services.flatMap Prn.dn++x.sagas.flatMap Prn.bW))))=F):=hid (by have h:=HI.out;rw[HDk.out,yJ]at h;simpa only[Prn.eu,xU,List.cons_append,yI,Bool.false_eq_true,if_false,if_true]using h);clear HI;have HT1:Hid ((T++(⟨#[32,114,101,99,111,114,100,32]⟩:ByteArray)++rn++(⟨#[32,123]⟩:ByteArray)).data.toList++Prn.ext (rf.flatMap Prn.fF++Id.aJ::((x.records.drop (k+1)).flatMap Prn.eu++(x.services.flatMap Prn.dn++x.sagas.flatMap Prn.bW)))=F):=hid (by
    rw[<-HI1.out];simp[Prn.ext,Id.jm,Id.bF])
   have jc:T.size+8+rn.size+2<=9830799099:=by
    have h:=Prn.kT HT1.out;have e:(T++(⟨#[32,114,101,99,111,114,100,32]⟩:ByteArray)++rn++(⟨#[32,123]⟩:ByteArray)).size=T.size+8+rn.size+2:=by simp only[ByteArray.size_append];rfl
    have:=HFL.out;omega
   have z2:(9223372036854775807<T.size+8)=False:=by simp;omega
   have z3:(9223372036854775807<T.size+8+rn.size)=False:=by simp;omega
   have z4:(9223372036854775807<T.size+8+rn.size+2)=False:=by simp;omega
   clear jc;go_wp2_with fail;clear z2 z3 z4;go_loopw [9,6] (λi s wr=>∃(j:Nat)(T:ByteArray),j<=n5/\i=.int .i64 j/\.string T=s/\Hid (T.data.toList++Prn.ext ((rf.drop j).flatMap Prn.fF++Id.aJ::((x.records.drop (k+1)).flatMap Prn.eu++(x.services.flatMap Prn.dn++x.sagas.flatMap Prn.bW)))=F)/\Hid (Bk wr V1.heap.size 42 #[.string rn,.bool false,.slice A5 n5 c5])/\Hid (Chk.Lx w wr #[.string x.name,.slice (some ⟨g1,off1,none⟩) n1 c1,.slice A2 n2 c2,.slice A3 n3 c3])) (λi _ _=>n5 - (intOf i).toNat)
   case atStart=>exact⟨0,_,by omega,rfl,rfl,HT1,HQ,HL⟩
   case round =>
    clear HL HQ HT1 b0 b1 b2;obtain⟨j,T,hj,rfl,rfl,HJ,HQ,HL⟩:=hrel;obtain⟨V2,rfl⟩:∃ w',w'=wr:=⟨_,rfl⟩;have ij0:(0:Int)<=(j:Int):=by omega
    obtain⟨⟨b0,b1,b2⟩,-⟩:=HQ.out.k3;by_cases hlj:j<n5
    case neg =>
     have HJ1:Hid (T.data.toList++Prn.ext (Id.aJ::((x.records.drop (k+1)).flatMap Prn.eu++(x.services.flatMap Prn.dn++x.sagas.flatMap Prn.bW)))=F):=hid (by have h:=HJ.out;rw[xP (by have:=HN5.out;omega)]at h;exact h);clear HJ;have HT2:Hid ((T++(⟨#[32,125]⟩:ByteArray)).data.toList++Prn.ext ((x.records.drop (k+1)).flatMap Prn.eu++(x.services.flatMap Prn.dn++x.sagas.flatMap Prn.bW))=F):=hid (by
      rw[<-HJ1.out];simp[Prn.ext,Id.aJ])
     have jc:T.size+2<=9830799099:=by
      have h:=Prn.kT HT2.out;have e:(T++(⟨#[32,125]⟩:ByteArray)).size=T.size+2:=by simp only[ByteArray.size_append];rfl
      have:=HFL.out;omega
     have z2:(9223372036854775807<T.size+2)=False:=by simp;omega
     clear jc;go_wp2_with fail;go_roundw
     case rel=>exact⟨k+1,_,by omega,by go_num,rfl,HT2,HL⟩
     case measure=>simp[intOf]<;>omega
    have dL:j<rf.length:=by rw[<-HN5.out];exact hlj
    obtain⟨g2,off2,cs,rfl,-,⟨u,he,HU⟩,hc⟩:=ah.get H5.out dL (by omega);obtain⟨r,Hr⟩:∃ r,Hid (rf[j]=r):=⟨_,hid rfl⟩;rw[Hr.out]at he HU;obtain⟨yn,yt⟩:=r;subst he;simp only at HU hc;obtain⟨A7,n7,c7,rfl⟩:=ah.is HU;have HN7:Hid (n7=yt.length):=hid (by obtain⟨_,_,e,_⟩:=ah.slice HU;injection e);have hm7:n7<=9223372036854775807:=by obtain⟨_,_,e,_,_⟩:=ah.slice HU;injection e;omega
    have H7:=hid HU;clear HU;have HDj:Hid (rf.drop j=⟨yn,yt⟩::rf.drop (j+1)):=hid (by rw[xQ dL,Hr.out]);have a0:=hc 0 _ rfl;have a1:=hc 1 _ rfl;simp only[xK]at a0;have aH:g2<w.heap.size:=xH w _ a0;have a0:=(HL.out.bel.cell aH).trans a0;have a1:=(HL.out.bel.cell aH).trans a1;have i21:(j:Int)<(n5:Int):=by omega
    clear hc Hr;have hsf:=HSF.out ⟨yn,yt⟩ (by rw[<-aP dL HDj.out];exact xR _);simp only at hsf;have HSY:=hid hsf;clear hsf;obtain⟨B,HBy⟩:∃ B,Hid (Prn.spB yt=B):=⟨_,hid rfl⟩;have HJ1:Hid (T.data.toList++Prn.ext (yn::Id.iU::(yt.map Prn.bH++Id.aQ::((rf.drop (j+1)).flatMap Prn.fF++Id.aJ::((x.records.drop (k+1)).flatMap Prn.eu++(x.services.flatMap Prn.dn++x.sagas.flatMap Prn.bW)))))=F):=hid (by have h:=HJ.out;rw[HDj.out,yJ]at h;simpa only[Prn.fF,xU,List.cons_append,yI]using h);clear HJ;have HT2:Hid ((T++(⟨#[32]⟩:ByteArray)++yn++(⟨#[32,58,32]⟩:ByteArray)++B++(⟨#[59]⟩:ByteArray)).data.toList++Prn.ext ((rf.drop (j+1)).flatMap Prn.fF++Id.aJ::((x.records.drop (k+1)).flatMap Prn.eu++(x.services.flatMap Prn.dn++x.sagas.flatMap Prn.bW)))=F):=hid (by
     rw[<-HJ1.out];exact Prn.Iy T yn B yt HBy.out _)
    have jc:T.size+1+yn.size+3+B.size+1<=9830799099:=by
     have h:=Prn.kT HT2.out;have e:(T++(⟨#[32]⟩:ByteArray)++yn++(⟨#[32,58,32]⟩:ByteArray)++B++(⟨#[59]⟩:ByteArray)).size=T.size+1+yn.size+3+B.size+1:=by simp only[ByteArray.size_append];rfl
     have:=HFL.out;omega
    have z2:(9223372036854775807<T.size+1)=False:=by simp;omega
    have z3:(9223372036854775807<T.size+1+yn.size)=False:=by simp;omega
    have z4:(9223372036854775807<T.size+1+yn.size+3)=False:=by simp;omega
    have z5:(9223372036854775807<T.size+1+yn.size+3+B.size)=False:=by simp;omega
    have z6:(9223372036854775807<T.size+1+yn.size+3+B.size+1)=False:=by simp;omega
    clear jc;have hS7:Id.bG V2 none (.slice A7 n7 c7) yt:=ah.below H7.out HL.out.bel (λ_ _ h=>h);have HS7:=hid hS7;clear hS7;have hcall:∀ W,Bl V2 W->Calls Tryz.prog 243 #[.slice A7 n7 c7] W λe w'=>e=.returned (.string B)/\Bl V2 w':=λW hW=>by have h:=fG hW (wI _ yt HSY.out.1 HSY.out.2 W (ah.below HS7.out hW (λ_ _ h=>h)));rw[HBy.out]at h;exact h
    have HC:=hid hcall;clear hcall;go_wp2_with fail;have dB2:=λ(w':World) (hb:Bl V2 w')=>(Bk.k3 (HQ.out.below hb HQ.out.lt)).1.2.2
    have dA0:∀ w',Bl V2 w'->w'.cell? _=_:=λw' hb=>(hb.cell (Nat.lt_of_lt_of_le aH HL.out.bel.size)).trans a0
    have dA1:∀ w',Bl V2 w'->w'.cell? _=_:=λw' hb=>(hb.cell (Nat.lt_of_lt_of_le aH HL.out.bel.size)).trans a1
    clear a0 a1 b0 b1 b2;refine dI V2 (by kernel_rfl) (by kernel_rfl) (Bl.refl _) ?_;repeat(first|go_big_quiet_step((intro hb;exact HC.out _ hb))|(refine wpQuiet_step (λK hK=>?_);rw[if_pos (by rfl)];refine Lst.aF _ _ rfl _ rfl _ (by assumption) _ Tryz.underlying40 rfl ?_;go_simp;refine hK _ ?_;clear hK K)|(refine wpQuiet_step (λK hK=>?_);rw[if_pos (by rfl)];refine Lst.aF _ _ rfl _ rfl _ (by assumption) _ Tryz.underlying9 rfl ?_;go_simp;refine hK _ ?_;clear hK K)|(refine wpQuiet_step (λK hK=>?_);rw[if_pos (by rfl)];refine Lst.aF _ _ rfl _ rfl _ (by assumption) _ Tryz.underlying45 rfl ?_;go_simp;refine hK _ ?_;clear hK K)|(refine wpQuiet_step (λK hK=>?_);go_simp;refine⟨_,λ_ _=>rfl,hK _ ?_⟩;clear hK K))
    refine wpQuiet_nil ?_;intro w9 hw9;clear dB2 dA0 dA1;have HLx:=hid (HL.out.below hw9);have HQx:=hid (HQ.out.below hw9 HQ.out.lt);go_wp2_with fail;go_roundw
    case rel=>exact⟨j+1,_,by omega,by go_num,rfl,HT2,HQx,HLx⟩
    case measure=>simp[intOf]<;>omega
  case true =>
   have HI1:Hid (T.data.toList++Prn.ext (Id.jo::rn::Id.bF::(rf.flatMap Prn.fF++Id.aJ::((x.records.drop (k+1)).flatMap Prn.eu++(x.services.flatMap Prn.dn++x.sagas.flatMap Prn.bW))))=F):=hid (by have h:=HI.out;rw[HDk.out,yJ]at h;simpa only[Prn.eu,xU,List.cons_append,yI,Bool.false_eq_true,if_false,if_true]using h);clear HI;have HT1:Hid ((T++(⟨#[32,99,104,111,105,99,101,32]⟩:ByteArray)++rn++(⟨#[32,123]⟩:ByteArray)).data.toList++Prn.ext (rf.flatMap Prn.fF++Id.aJ::((x.records.drop (k+1)).flatMap Prn.eu++(x.services.flatMap Prn.dn++x.sagas.flatMap Prn.bW)))=F):=hid (by
    rw[<-HI1.out];simp[Prn.ext,Id.jo,Id.bF])
   have jc:T.size+8+rn.size+2<=9830799099:=by
    have h:=Prn.kT HT1.out;have e:(T++(⟨#[32,99,104,111,105,99,101,32]⟩:ByteArray)++rn++(⟨#[32,123]⟩:ByteArray)).size=T.size+8+rn.size+2:=by simp only[ByteArray.size_append];rfl
    have:=HFL.out;omega
   have z2:(9223372036854775807<T.size+8)=False:=by simp;omega
   have z3:(9223372036854775807<T.size+8+rn.size)=False:=by simp;omega
   have z4:(9223372036854775807<T.size+8+rn.size+2)=False:=by simp;omega
   clear jc;go_wp2_with fail;clear z2 z3 z4;go_loopw [9,6] (λi s wr=>∃(j:Nat)(T:ByteArray),j<=n5/\i=.int .i64 j/\.string T=s/\Hid (T.data.toList++Prn.ext ((rf.drop j).flatMap Prn.fF++Id.aJ::((x.records.drop (k+1)).flatMap Prn.eu++(x.services.flatMap Prn.dn++x.sagas.flatMap Prn.bW)))=F)/\Hid (Bk wr V1.heap.size 42 #[.string rn,.bool true,.slice A5 n5 c5])/\Hid (Chk.Lx w wr #[.string x.name,.slice (some ⟨g1,off1,none⟩) n1 c1,.slice A2 n2 c2,.slice A3 n3 c3])) (λi _ _=>n5 - (intOf i).toNat)
   case atStart=>exact⟨0,_,by omega,rfl,rfl,HT1,HQ,HL⟩
   case round =>
    clear HL HQ HT1 b0 b1 b2;obtain⟨j,T,hj,rfl,rfl,HJ,HQ,HL⟩:=hrel;obtain⟨V2,rfl⟩:∃ w',w'=wr:=⟨_,rfl⟩;have ij0:(0:Int)<=(j:Int):=by omega
    obtain⟨⟨b0,b1,b2⟩,-⟩:=HQ.out.k3;by_cases hlj:j<n5
    case neg =>
     have HJ1:Hid (T.data.toList++Prn.ext (Id.aJ::((x.records.drop (k+1)).flatMap Prn.eu++(x.services.flatMap Prn.dn++x.sagas.flatMap Prn.bW)))=F):=hid (by have h:=HJ.out;rw[xP (by have:=HN5.out;omega)]at h;exact h);clear HJ;have HT2:Hid ((T++(⟨#[32,125]⟩:ByteArray)).data.toList++Prn.ext ((x.records.drop (k+1)).flatMap Prn.eu++(x.services.flatMap Prn.dn++x.sagas.flatMap Prn.bW))=F):=hid (by
      rw[<-HJ1.out];simp[Prn.ext,Id.aJ])
     have jc:T.size+2<=9830799099:=by
      have h:=Prn.kT HT2.out;have e:(T++(⟨#[32,125]⟩:ByteArray)).size=T.size+2:=by simp only[ByteArray.size_append];rfl
      have:=HFL.out;omega
     have z2:(9223372036854775807<T.size+2)=False:=by simp;omega
     clear jc;go_wp2_with fail;go_roundw
     case rel=>exact⟨k+1,_,by omega,by go_num,rfl,HT2,HL⟩
     case measure=>simp[intOf]<;>omega
    have dL:j<rf.length:=by rw[<-HN5.out];exact hlj
    obtain⟨g2,off2,cs,rfl,-,⟨u,he,HU⟩,hc⟩:=ah.get H5.out dL (by omega);obtain⟨r,Hr⟩:∃ r,Hid (rf[j]=r):=⟨_,hid rfl⟩;rw[Hr.out]at he HU;obtain⟨yn,yt⟩:=r;subst he;simp only at HU hc;obtain⟨A7,n7,c7,rfl⟩:=ah.is HU;have HN7:Hid (n7=yt.length):=hid (by obtain⟨_,_,e,_⟩:=ah.slice HU;injection e);have hm7:n7<=9223372036854775807:=by obtain⟨_,_,e,_,_⟩:=ah.slice HU;injection e;omega
    have H7:=hid HU;clear HU;have HDj:Hid (rf.drop j=⟨yn,yt⟩::rf.drop (j+1)):=hid (by rw[xQ dL,Hr.out]);have a0:=hc 0 _ rfl;have a1:=hc 1 _ rfl;simp only[xK]at a0;have aH:g2<w.heap.size:=xH w _ a0;have a0:=(HL.out.bel.cell aH).trans a0;have a1:=(HL.out.bel.cell aH).trans a1;have i21:(j:Int)<(n5:Int):=by omega
    clear hc Hr;have hsf:=HSF.out ⟨yn,yt⟩ (by rw[<-aP dL HDj.out];exact xR _);simp only at hsf;have HSY:=hid hsf;clear hsf;obtain⟨B,HBy⟩:∃ B,Hid (Prn.spB yt=B):=⟨_,hid rfl⟩;have HJ1:Hid (T.data.toList++Prn.ext (yn::Id.iU::(yt.map Prn.bH++Id.aQ::((rf.drop (j+1)).flatMap Prn.fF++Id.aJ::((x.records.drop (k+1)).flatMap Prn.eu++(x.services.flatMap Prn.dn++x.sagas.flatMap Prn.bW)))))=F):=hid (by have h:=HJ.out;rw[HDj.out,yJ]at h;simpa only[Prn.fF,xU,List.cons_append,yI]using h);clear HJ;have HT2:Hid ((T++(⟨#[32]⟩:ByteArray)++yn++(⟨#[32,58,32]⟩:ByteArray)++B++(⟨#[59]⟩:ByteArray)).data.toList++Prn.ext ((rf.drop (j+1)).flatMap Prn.fF++Id.aJ::((x.records.drop (k+1)).flatMap Prn.eu++(x.services.flatMap Prn.dn++x.sagas.flatMap Prn.bW)))=F):=hid (by
     rw[<-HJ1.out];exact Prn.Iy T yn B yt HBy.out _)
    have jc:T.size+1+yn.size+3+B.size+1<=9830799099:=by
     have h:=Prn.kT HT2.out;have e:(T++(⟨#[32]⟩:ByteArray)++yn++(⟨#[32,58,32]⟩:ByteArray)++B++(⟨#[59]⟩:ByteArray)).size=T.size+1+yn.size+3+B.size+1:=by simp only[ByteArray.size_append];rfl
     have:=HFL.out;omega
    have z2:(9223372036854775807<T.size+1)=False:=by simp;omega
    have z3:(9223372036854775807<T.size+1+yn.size)=False:=by simp;omega
    have z4:(9223372036854775807<T.size+1+yn.size+3)=False:=by simp;omega
    have z5:(9223372036854775807<T.size+1+yn.size+3+B.size)=False:=by simp;omega
    have z6:(9223372036854775807<T.size+1+yn.size+3+B.size+1)=False:=by simp;omega
    clear jc;have hS7:Id.bG V2 none (.slice A7 n7 c7) yt:=ah.below H7.out HL.out.bel (λ_ _ h=>h);have HS7:=hid hS7;clear hS7;have hcall:∀ W,Bl V2 W->Calls Tryz.prog 243 #[.slice A7 n7 c7] W λe w'=>e=.returned (.string B)/\Bl V2 w':=λW hW=>by have h:=fG hW (wI _ yt HSY.out.1 HSY.out.2 W (ah.below HS7.out hW (λ_ _ h=>h)));rw[HBy.out]at h;exact h
    have HC:=hid hcall;clear hcall;go_wp2_with fail;have dB2:=λ(w':World) (hb:Bl V2 w')=>(Bk.k3 (HQ.out.below hb HQ.out.lt)).1.2.2
    have dA0:∀ w',Bl V2 w'->w'.cell? _=_:=λw' hb=>(hb.cell (Nat.lt_of_lt_of_le aH HL.out.bel.size)).trans a0
    have dA1:∀ w',Bl V2 w'->w'.cell? _=_:=λw' hb=>(hb.cell (Nat.lt_of_lt_of_le aH HL.out.bel.size)).trans a1
    clear a0 a1 b0 b1 b2;refine dI V2 (by kernel_rfl) (by kernel_rfl) (Bl.refl _) ?_;repeat(first|go_big_quiet_step((intro hb;exact HC.out _ hb))|(refine wpQuiet_step (λK hK=>?_);rw[if_pos (by rfl)];refine Lst.aF _ _ rfl _ rfl _ (by assumption) _ Tryz.underlying40 rfl ?_;go_simp;refine hK _ ?_;clear hK K)|(refine wpQuiet_step (λK hK=>?_);rw[if_pos (by rfl)];refine Lst.aF _ _ rfl _ rfl _ (by assumption) _ Tryz.underlying9 rfl ?_;go_simp;refine hK _ ?_;clear hK K)|(refine wpQuiet_step (λK hK=>?_);rw[if_pos (by rfl)];refine Lst.aF _ _ rfl _ rfl _ (by assumption) _ Tryz.underlying45 rfl ?_;go_simp;refine hK _ ?_;clear hK K)|(refine wpQuiet_step (λK hK=>?_);go_simp;refine⟨_,λ_ _=>rfl,hK _ ?_⟩;clear hK K))
    refine wpQuiet_nil ?_;intro w9 hw9;clear dB2 dA0 dA1;have HLx:=hid (HL.out.below hw9);have HQx:=hid (HQ.out.below hw9 HQ.out.lt);go_wp2_with fail;go_roundw
    case rel=>exact⟨j+1,_,by omega,by go_num,rfl,HT2,HQx,HLx⟩
    case measure=>simp[intOf]<;>omega
theorem Ak(v:Value)(x:Id.Sch)(hF:Chk.Fine x)(w:World)(hv:Id.ay w none v x) :
  Calls Tryz.prog 190 #[v] w λe w'=>e=.returned (.tuple #[.int .u64 (Prn.print x).1,.int .i64 (Prn.print x).2])/\Below w.heap.size w w':=by
 obtain⟨R,HR⟩:∃ R,Hid (Prn.print x=R):=⟨_,hid rfl⟩;rw[HR.out];have HF:=hid hF;have HV:=hid hv;obtain⟨A1,n1,c1,A2,n2,c2,A3,n3,c3,rfl,r1,r2,r3⟩:=hv;clear r1 r2 r3 hF;go_enter Tryz.func190,Tryz.ntmps190;go_upto_region 1 with(fail)
 refine aj (λV hV=>?_);have HL:=hid (Chk.Lx.start hV);clear hV;obtain⟨⟨q0,q1,q2,q3⟩,-⟩:=HL.out.box.k4;have hts:=Prn.text_size x;obtain⟨p,Hp⟩:∃ p,Hid (Prn.text x=p):=⟨_,hid rfl⟩;rw[Hp.out]at hts;go_wp2_with fail;refine(LQ _ x HF.out _ (Id.ay.below HL.out.bel HV.out)).mono ?_;rw[Hp.out];unfold Chk.zK;rintro e W1⟨rfl,hb⟩;have HB:=hid (HL.out.bel.trans (hb.mono HL.out.bel.size));clear HL hb q0 q1 q2 q3;obtain⟨ps,pe⟩:=p;simp only at hts ⊢;by_cases hpe:pe=0
 case neg =>
  have HE:Hid (R=(0,pe)):=hid (by rw[<-HR.out];unfold Prn.print;rw[Hp.out,if_pos hpe]);have t1:((pe:Int) != 0)=true:=by rw[bne_iff_ne];omega
  have t2:¬(pe:Int)=0:=by omega
  have t3:((pe:Int)==0)=false:=by rw[xG];omega
  clear hpe;go_wp2_with fail;go_ret2;exact⟨by rw[HE.out];rfl,HB.out⟩
 subst hpe;have HE:Hid (R=(Sm.print ps.data.toList,0)):=hid (by rw[<-HR.out];unfold Prn.print;rw[Hp.out,if_neg (by simp)]);go_wp2_with fail;refine(Gs ps (by unfold maxLen;omega) _).mono ?_;rintro e W2⟨rfl,rfl⟩;go_wp2_with fail;go_ret2;exact⟨by rw[HE.out];rfl,HB.out⟩
