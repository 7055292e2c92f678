import Derived.Test.YtogijkhenihaaaaGreatDoorGB27
set_option linter.all false
set_option maxRecDepth 100000
set_option maxHeartbeats 0
namespace Go.Proofs.YtogijkhenihaaaaGreatDoor
open Lib (hid)
open Go.BigFrame Go.RowKit
theorem DU(v:Value)(x:Id.Sch)(hF:Chk.Fine x)(w:World)(hv:Id.ay w none v x) :
  Calls Tryz.prog 250 #[v,.int .i64 4] w λe w'=>e=.returned (Chk.kL (Chk.ak (x.services.flatMap Chk.bZ)))/\Below w.heap.size w w':=by
 have HV:=hid hv;obtain⟨A1,n1,c1,A2,n2,c2,A3,n3,c3,rfl,r1,r2,r3⟩:=hv;have HN1:Hid (n1=x.records.length):=hid (by obtain⟨_,_,e,_⟩:=ah.slice r1;injection e);have hm1:n1<=9223372036854775807:=by obtain⟨_,_,e,_,_⟩:=ah.slice r1;injection e;omega
 have H1:=hid r1;have HN2:Hid (n2=x.services.length):=hid (by obtain⟨_,_,e,_⟩:=ah.slice r2;injection e);have hm2:n2<=9223372036854775807:=by obtain⟨_,_,e,_,_⟩:=ah.slice r2;injection e;omega
 have H2:=hid r2;have HN3:Hid (n3=x.sagas.length):=hid (by obtain⟨_,_,e,_⟩:=ah.slice r3;injection e);have hm3:n3<=9223372036854775807:=by obtain⟨_,_,e,_,_⟩:=ah.slice r3;injection e;omega
 have H3:=hid r3;clear r1 r2 r3;have HF:=hid hF;obtain⟨R,HR⟩:∃ R,Hid (Chk.ak (x.services.flatMap Chk.bZ)=R):=⟨_,hid rfl⟩;rw[HR.out];clear hF;go_enter Tryz.func250,Tryz.ntmps250;go_upto_region 1 with(fail)
 refine aj (λV hV=>?_);have HL:=hid (Chk.Lx.start hV);clear hV;obtain⟨⟨q0,q1,q2,q3⟩,-⟩:=HL.out.box.k4;go_wp2_with fail;go_loopw [6] (λi wr=>∃(k:Nat),k<=n2/\i=.int .i64 k/\Hid (Chk.ak ((x.services.drop k).flatMap (Chk.bZ))=R)/\Hid (Chk.Lx w wr #[.string x.name,.slice A1 n1 c1,.slice A2 n2 c2,.slice A3 n3 c3])) (λi _=>n2 - (intOf i).toNat)
 case atStart=>exact⟨0,by omega,rfl,HR,HL⟩
 case round =>
  clear HL HR q0 q1 q2 q3;obtain⟨k,hk,rfl,HI,HL⟩:=hrel;obtain⟨V1,rfl⟩:∃ w',w'=wr:=⟨_,rfl⟩;have ik0:(0:Int)<=(k:Int):=by omega
  obtain⟨⟨q0,q1,q2,q3⟩,-⟩:=HL.out.box.k4;by_cases hlt:k<n2
  case neg =>
   have HE:Hid (R=none):=hid (by have h:=HI.out;rw[xP (by have:=HN2.out;omega)]at h;exact h.symm);clear HI;go_wp2_with fail;go_ret2;exact⟨by rw[HE.out];rfl,HL.out.bel⟩
  have hok0:=λh:k<x.services.length=>HF.out.sv _ (xR h)
  have HOK:=hid hok0;clear hok0;have aX:k<x.services.length:=by rw[<-HN2.out];exact hlt
  obtain⟨g1,off1,cs,rfl,-,⟨u,he,HU⟩,hc⟩:=ah.get H2.out aX (by omega);obtain⟨r,Hr⟩:∃ r,Hid (x.services[k]=r):=⟨_,hid rfl⟩;rw[Hr.out]at he HU;obtain⟨rn,rf⟩:=r;subst he;simp only at HU hc;obtain⟨A5,n5,c5,rfl⟩:=ah.is HU;have HN5:Hid (n5=rf.length):=hid (by obtain⟨_,_,e,_⟩:=ah.slice HU;injection e);have hm5:n5<=9223372036854775807:=by obtain⟨_,_,e,_,_⟩:=ah.slice HU;injection e;omega
  have H5:=hid HU;have HDk:Hid (x.services.drop k=⟨rn,rf⟩::x.services.drop (k+1)):=hid (by rw[xQ aX,Hr.out]);have b0:=hc 0 _ rfl;have b1:=hc 1 _ rfl;simp only[xK]at b0;have aC:g1<w.heap.size:=xH w _ b0;have b0:=(HL.out.bel.cell aC).trans b0;have b1:=(HL.out.bel.cell aC).trans b1;have i11:(k:Int)<(n2:Int):=by omega
  clear hc HU Hr;have hok:=HOK.out aX;rw[aP aX HDk.out]at hok;simp only at hok;have HIk:Hid (Chk.ak ((Chk.bZ) ⟨rn,rf⟩++(x.services.drop (k+1)).flatMap (Chk.bZ))=R):=hid (by have h:=HI.out;rw[HDk.out,yJ]at h;exact h);clear HI HOK;obtain⟨hrn,rX,hms⟩:=hok;have HMS:=hid hms;clear hms;go_upto_region 5 with(fail)
  refine aj (λW1 hW1=>?_);obtain⟨hb1,hq1,-⟩:=au hW1;clear hW1;have HB1:=hid hq1;clear q0 q1 q2 q3 b0 b1;replace HL:=hid (HL.out.below hb1);clear hb1 hq1;go_wp2_with fail;have h5:n5<=99:=by rw[HN5.out];exact rX
  have HIj:Hid (Chk.ak ((rf.drop 0).flatMap (Chk.jW rn)++(x.services.drop (k+1)).flatMap (Chk.bZ))=R):=HIk;go_loopw [8] (λi wr=>∃(j:Nat),j<=n5/\i=.int .i64 j/\Hid (Chk.ak ((rf.drop j).flatMap (Chk.jW rn)++(x.services.drop (k+1)).flatMap (Chk.bZ))=R)/\Hid (Bk wr V1.heap.size 101 #[.string rn,.slice A5 n5 c5])/\Hid (Chk.Lx w wr #[.string x.name,.slice A1 n1 c1,.slice (some ⟨g1,off1,none⟩) n2 c2,.slice A3 n3 c3])) (λi _=>n5 - (intOf i).toNat)
  case atStart=>exact⟨0,by omega,rfl,HIj,HB1,HL⟩
  case round =>
   clear HL HB1 HIj HIk;obtain⟨j,hj,rfl,HJ,HB1,HL⟩:=hrel;obtain⟨V2,rfl⟩:∃ w',w'=wr:=⟨_,rfl⟩;have ij0:(0:Int)<=(j:Int):=by omega
   obtain⟨⟨b0,b1⟩,-⟩:=HB1.out.k2;by_cases hlj:j<n5
   case neg =>
    have HI3:Hid (Chk.ak ((x.services.drop (k+1)).flatMap (Chk.bZ))=R):=hid (by have h:=HJ.out;rw[xP (by have:=HN5.out;omega)]at h;exact h);clear HJ;go_wp2_with fail;go_roundw
    case rel=>exact⟨k+1,by omega,by go_num,HI3,HL⟩
    case measure=>simp[intOf]<;>omega
   have dL:j<rf.length:=by rw[<-HN5.out];exact hlj
   obtain⟨g2,off2,cs,rfl,-,he,hc⟩:=ah.get H5.out dL (by omega);obtain⟨r,Hr⟩:∃ r,Hid (rf[j]=r):=⟨_,hid rfl⟩;rw[Hr.out]at he;obtain⟨m0,m1,m2,m3,m4⟩:=r;unfold Id.dV Id.Mth.cells at he;subst he;have HDj:Hid (rf.drop j=⟨m0,m1,m2,m3,m4⟩::rf.drop (j+1)):=hid (by rw[xQ dL,Hr.out]);have a0:=hc 0 _ rfl;have a1:=hc 1 _ rfl;have a2:=hc 2 _ rfl;have a3:=hc 3 _ rfl;have a4:=hc 4 _ rfl;simp only[xK]at a0;have aH:g2<w.heap.size:=xH w _ a0;have a0:=(HL.out.bel.cell aH).trans a0;have a1:=(HL.out.bel.cell aH).trans a1;have a2:=(HL.out.bel.cell aH).trans a2;have a3:=(HL.out.bel.cell aH).trans a3;have a4:=(HL.out.bel.cell aH).trans a4;have i21:(j:Int)<(n5:Int):=by omega
   clear hc Hr;have wV:=HMS.out ⟨m0,m1,m2,m3,m4⟩ (by rw[<-aP dL HDj.out];exact xR _);simp only at wV;obtain⟨hm0,hm1,hm3,hm4⟩:=wV;have HJ1:Hid (Chk.ak (((m2==3||m2==1),Chk.part rn m0)::((rf.drop (j+1)).flatMap (Chk.jW rn)++(x.services.drop (k+1)).flatMap (Chk.bZ)))=R):=hid (by have h:=HJ.out;rw[HDj.out,yJ,xU]at h;exact h);clear HJ;have hne2:¬g2=V2.heap.size:=by have:=HL.out.bel.size;omega
   go_upto_region 9 with(fail)
   refine aj (λW3 hW3=>?_);obtain⟨hb3,hq3,-⟩:=au hW3;clear hW3 a0 a1 a2 a3 a4 b0 b1;have HM:=hid hq3;replace HL:=hid (HL.out.below hb3);replace HB1:=hid (HB1.out.below hb3 HB1.out.lt);clear hb3 hq3;obtain⟨T,HT⟩:∃ T,Hid ((m2==3||m2==1)=T):=⟨_,hid rfl⟩;rw[HT.out]at HJ1;have YES:T=true->Hid (Chk.ak ((rf.drop (j+1)).flatMap (Chk.jW rn)++(x.services.drop (k+1)).flatMap (Chk.bZ))=R):=λh=>hid ((Chk.gV h).symm.trans HJ1.out)
   have NO:T=false->Hid (R=some (Chk.part rn m0)):=λh=>hid (HJ1.out.symm.trans (Chk.fQ h))
   have fJ:=hid YES;have HNO:=hid NO;clear YES NO HJ1;obtain⟨⟨a0,a1,a2,a3,a4⟩,-⟩:=HM.out.k5;obtain⟨⟨b0,b1⟩,-⟩:=HB1.out.k2;by_cases h1:m2=1
   case pos =>
    subst h1;have HI4:=fJ.out (by rw[<-HT.out];rfl);clear fJ HNO;go_wp2_with fail;go_roundw
    case rel=>exact⟨j+1,by omega,by go_num,HI4,HB1,HL⟩
    case measure=>simp[intOf]<;>omega
   by_cases h3:m2=3
   case pos =>
    subst h3;have HI4:=fJ.out (by rw[<-HT.out];rfl);clear fJ HNO;go_wp2_with fail;go_roundw
    case rel=>exact⟨j+1,by omega,by go_num,HI4,HB1,HL⟩
    case measure=>simp[intOf]<;>omega
   have t1:((m2:Int)==1)=false:=by rw[xG];omega
   have t3:((m2:Int)==3)=false:=by rw[xG];omega
   have hT:T=false:=by rw[<-HT.out];simp[h1,h3]
   have HTF:=hid hT;clear h1 h3 hT;have HE:=HNO.out (HTF.out);clear fJ HNO;have z1:(9223372036854775807<rn.size+1)=False:=by simp;omega
   have z2:(9223372036854775807<rn.size+1+m0.size)=False:=by simp;omega
   go_wp2_with fail;go_ret2;exact⟨by rw[HE.out];rfl,HL.out.bel⟩
theorem DR(v:Value)(x:Id.Sch)(hF:Chk.Fine x)(w:World)(hv:Id.ay w none v x) :
  Calls Tryz.prog 250 #[v,.int .i64 6] w λe w'=>e=.returned (Chk.kL (Chk.ak (Chk.bU x)))/\Below w.heap.size w w':=by
 have HV:=hid hv;obtain⟨A1,n1,c1,A2,n2,c2,A3,n3,c3,rfl,r1,r2,r3⟩:=hv;have HN1:Hid (n1=x.records.length):=hid (by obtain⟨_,_,e,_⟩:=ah.slice r1;injection e);have hm1:n1<=9223372036854775807:=by obtain⟨_,_,e,_,_⟩:=ah.slice r1;injection e;omega
 have H1:=hid r1;have HN2:Hid (n2=x.services.length):=hid (by obtain⟨_,_,e,_⟩:=ah.slice r2;injection e);have hm2:n2<=9223372036854775807:=by obtain⟨_,_,e,_,_⟩:=ah.slice r2;injection e;omega
 have H2:=hid r2;have HN3:Hid (n3=x.sagas.length):=hid (by obtain⟨_,_,e,_⟩:=ah.slice r3;injection e);have hm3:n3<=9223372036854775807:=by obtain⟨_,_,e,_,_⟩:=ah.slice r3;injection e;omega
 have H3:=hid r3;clear r1 r2 r3;have HF:=hid hF;obtain⟨R,HR⟩:∃ R,Hid (Chk.ak (Chk.bU x)=R):=⟨_,hid rfl⟩;rw[HR.out];clear hF;go_enter Tryz.func250,Tryz.ntmps250;go_upto_region 1 with(fail)
 refine aj (λV hV=>?_);have HL:=hid (Chk.Lx.start hV);clear hV;obtain⟨⟨q0,q1,q2,q3⟩,-⟩:=HL.out.box.k4;go_wp2_with fail;go_loopw [6] (λi wr=>∃(k:Nat),k<=n2/\i=.int .i64 k/\Hid (Chk.ak ((x.services.drop k).flatMap (Chk.fU x))=R)/\Hid (Chk.Lx w wr #[.string x.name,.slice A1 n1 c1,.slice A2 n2 c2,.slice A3 n3 c3])) (λi _=>n2 - (intOf i).toNat)
 case atStart=>exact⟨0,by omega,rfl,HR,HL⟩
 case round =>
  clear HL HR q0 q1 q2 q3;obtain⟨k,hk,rfl,HI,HL⟩:=hrel;obtain⟨V1,rfl⟩:∃ w',w'=wr:=⟨_,rfl⟩;have ik0:(0:Int)<=(k:Int):=by omega
  obtain⟨⟨q0,q1,q2,q3⟩,-⟩:=HL.out.box.k4;by_cases hlt:k<n2
  case neg =>
   have HE:Hid (R=none):=hid (by have h:=HI.out;rw[xP (by have:=HN2.out;omega)]at h;exact h.symm);clear HI;go_wp2_with fail;go_ret2;exact⟨by rw[HE.out];rfl,HL.out.bel⟩
  have hok0:=λh:k<x.services.length=>HF.out.sv _ (xR h)
  have HOK:=hid hok0;clear hok0;have aX:k<x.services.length:=by rw[<-HN2.out];exact hlt
  obtain⟨g1,off1,cs,rfl,-,⟨u,he,HU⟩,hc⟩:=ah.get H2.out aX (by omega);obtain⟨r,Hr⟩:∃ r,Hid (x.services[k]=r):=⟨_,hid rfl⟩;rw[Hr.out]at he HU;obtain⟨rn,rf⟩:=r;subst he;simp only at HU hc;obtain⟨A5,n5,c5,rfl⟩:=ah.is HU;have HN5:Hid (n5=rf.length):=hid (by obtain⟨_,_,e,_⟩:=ah.slice HU;injection e);have hm5:n5<=9223372036854775807:=by obtain⟨_,_,e,_,_⟩:=ah.slice HU;injection e;omega
  have H5:=hid HU;have HDk:Hid (x.services.drop k=⟨rn,rf⟩::x.services.drop (k+1)):=hid (by rw[xQ aX,Hr.out]);have b0:=hc 0 _ rfl;have b1:=hc 1 _ rfl;simp only[xK]at b0;have aC:g1<w.heap.size:=xH w _ b0;have b0:=(HL.out.bel.cell aC).trans b0;have b1:=(HL.out.bel.cell aC).trans b1;have i11:(k:Int)<(n2:Int):=by omega
  clear hc HU Hr;have hok:=HOK.out aX;rw[aP aX HDk.out]at hok;simp only at hok;have HIk:Hid (Chk.ak ((Chk.fU x) ⟨rn,rf⟩++(x.services.drop (k+1)).flatMap (Chk.fU x))=R):=hid (by have h:=HI.out;rw[HDk.out,yJ]at h;exact h);clear HI HOK;obtain⟨hrn,rX,hms⟩:=hok;have HMS:=hid hms;clear hms;go_upto_region 5 with(fail)
  refine aj (λW1 hW1=>?_);obtain⟨hb1,hq1,-⟩:=au hW1;clear hW1;have HB1:=hid hq1;clear q0 q1 q2 q3 b0 b1;replace HL:=hid (HL.out.below hb1);clear hb1 hq1;go_wp2_with fail;have h5:n5<=99:=by rw[HN5.out];exact rX
  have HIj:Hid (Chk.ak ((rf.drop 0).flatMap (Chk.jd x rn)++(x.services.drop (k+1)).flatMap (Chk.fU x))=R):=HIk;go_loopw [8] (λi wr=>∃(j:Nat),j<=n5/\i=.int .i64 j/\Hid (Chk.ak ((rf.drop j).flatMap (Chk.jd x rn)++(x.services.drop (k+1)).flatMap (Chk.fU x))=R)/\Hid (Bk wr V1.heap.size 101 #[.string rn,.slice A5 n5 c5])/\Hid (Chk.Lx w wr #[.string x.name,.slice A1 n1 c1,.slice (some ⟨g1,off1,none⟩) n2 c2,.slice A3 n3 c3])) (λi _=>n5 - (intOf i).toNat)
  case atStart=>exact⟨0,by omega,rfl,HIj,HB1,HL⟩
  case round =>
   clear HL HB1 HIj HIk;obtain⟨j,hj,rfl,HJ,HB1,HL⟩:=hrel;obtain⟨V2,rfl⟩:∃ w',w'=wr:=⟨_,rfl⟩;have ij0:(0:Int)<=(j:Int):=by omega
   obtain⟨⟨b0,b1⟩,-⟩:=HB1.out.k2;by_cases hlj:j<n5
   case neg =>
    have HI3:Hid (Chk.ak ((x.services.drop (k+1)).flatMap (Chk.fU x))=R):=hid (by have h:=HJ.out;rw[xP (by have:=HN5.out;omega)]at h;exact h);clear HJ;go_wp2_with fail;go_roundw
    case rel=>exact⟨k+1,by omega,by go_num,HI3,HL⟩
    case measure=>simp[intOf]<;>omega
   have dL:j<rf.length:=by rw[<-HN5.out];exact hlj
   obtain⟨g2,off2,cs,rfl,-,he,hc⟩:=ah.get H5.out dL (by omega);obtain⟨r,Hr⟩:∃ r,Hid (rf[j]=r):=⟨_,hid rfl⟩;rw[Hr.out]at he;obtain⟨m0,m1,m2,m3,m4⟩:=r;unfold Id.dV Id.Mth.cells at he;subst he;have HDj:Hid (rf.drop j=⟨m0,m1,m2,m3,m4⟩::rf.drop (j+1)):=hid (by rw[xQ dL,Hr.out]);have a0:=hc 0 _ rfl;have a1:=hc 1 _ rfl;have a2:=hc 2 _ rfl;have a3:=hc 3 _ rfl;have a4:=hc 4 _ rfl;simp only[xK]at a0;have aH:g2<w.heap.size:=xH w _ a0;have a0:=(HL.out.bel.cell aH).trans a0;have a1:=(HL.out.bel.cell aH).trans a1;have a2:=(HL.out.bel.cell aH).trans a2;have a3:=(HL.out.bel.cell aH).trans a3;have a4:=(HL.out.bel.cell aH).trans a4;have i21:(j:Int)<(n5:Int):=by omega
   clear hc Hr;have wV:=HMS.out ⟨m0,m1,m2,m3,m4⟩ (by rw[<-aP dL HDj.out];exact xR _);simp only at wV;obtain⟨hm0,hm1,hm3,hm4⟩:=wV;have HJ1:Hid (Chk.ak (((!(Chk.contrary m3).toList.isEmpty&&Chk.order x m1),Chk.part rn m0)::((rf.drop (j+1)).flatMap (Chk.jd x rn)++(x.services.drop (k+1)).flatMap (Chk.fU x)))=R):=hid (by have h:=HJ.out;rw[HDj.out,yJ,xU]at h;exact h);clear HJ;have hne2:¬g2=V2.heap.size:=by have:=HL.out.bel.size;omega
   go_upto_region 9 with(fail)
   refine aj (λW3 hW3=>?_);obtain⟨hb3,hq3,-⟩:=au hW3;clear hW3 a0 a1 a2 a3 a4 b0 b1;have HM:=hid hq3;replace HL:=hid (HL.out.below hb3);replace HB1:=hid (HB1.out.below hb3 HB1.out.lt);clear hb3 hq3;obtain⟨T,HT⟩:∃ T,Hid ((!(Chk.contrary m3).toList.isEmpty&&Chk.order x m1)=T):=⟨_,hid rfl⟩;rw[HT.out]at HJ1;have YES:T=true->Hid (Chk.ak ((rf.drop (j+1)).flatMap (Chk.jd x rn)++(x.services.drop (k+1)).flatMap (Chk.fU x))=R):=λh=>hid ((Chk.gV h).symm.trans HJ1.out)
   have NO:T=false->Hid (R=some (Chk.part rn m0)):=λh=>hid (HJ1.out.symm.trans (Chk.fQ h))
   have fJ:=hid YES;have HNO:=hid NO;clear YES NO HJ1;obtain⟨⟨a0,a1,a2,a3,a4⟩,-⟩:=HM.out.k5;obtain⟨⟨b0,b1⟩,-⟩:=HB1.out.k2;obtain⟨⟨q0,q1,q2,q3⟩,-⟩:=HL.out.box.k4;have he:=Chk.xu (e:=m3);unfold Chk.yh at he;rw[show Id.fO.toList=[103,105,118,101]by decide +kernel,show Id.fK.toList=[116,97,107,101]by decide +kernel,show Id.fM.toList=[110,111,116,101]by decide +kernel]at he;have HEF:=hid he;clear he;cases e1:(m3.toList==[103,105,118,101])<;>cases e2:(m3.toList==[116,97,107,101])<;>cases e3:(m3.toList==[110,111,116,101])<;>rw[e1,e2,e3]at HEF
   case false.false.false =>
    have HE:=HNO.out (by rw[<-HT.out,<-HEF.out];rfl);clear fJ HNO;have z1:(9223372036854775807<rn.size+1)=False:=by simp;omega
    have z2:(9223372036854775807<rn.size+1+m0.size)=False:=by simp;omega
    go_wp2_with fail;go_ret2;exact⟨by rw[HE.out];rfl,HL.out.bel⟩
   all_goals
    have HT2:Hid (Chk.order x m1=T):=hid (by rw[<-HT.out,<-HEF.out];rfl);clear HT HEF;go_wp2_with fail;refine(Ah _ x m1 _ (Id.ay.below HL.out.bel HV.out)).mono ?_;rw[HT2.out];rintro e W4⟨rfl,hb4⟩;clear a0 a1 a2 a3 a4 b0 b1 q0 q1 q2 q3;have HLx:=hid (HL.out.below hb4);have eY:=hid (HB1.out.below hb4 HB1.out.lt);have HMx:=hid (HM.out.below hb4 HM.out.lt);clear HL HB1 HM;have HL:=HLx;have HB1:=eY;have HM:=HMx;clear HLx eY HMx;clear hb4;obtain⟨⟨a0,a1,a2,a3,a4⟩,-⟩:=HM.out.k5;obtain⟨⟨b0,b1⟩,-⟩:=HB1.out.k2;cases T
    case true =>
     have HI4:=fJ.out (rfl);clear fJ HNO;go_wp2_with fail;go_roundw
     case rel=>exact⟨j+1,by omega,by go_num,HI4,HB1,HL⟩
     case measure=>simp[intOf]<;>omega
    have HE:=HNO.out (rfl);clear fJ HNO;have z1:(9223372036854775807<rn.size+1)=False:=by simp;omega
    have z2:(9223372036854775807<rn.size+1+m0.size)=False:=by simp;omega
    go_wp2_with fail;go_ret2;exact⟨by rw[HE.out];rfl,HL.out.bel⟩
theorem DN(v:Value)(x:Id.Sch)(hF:Chk.Fine x)(w:World)(hv:Id.ay w none v x) :
  Calls Tryz.prog 250 #[v,.int .i64 7] w λe w'=>e=.returned (Chk.kL (Chk.ak (Chk.iE x)))/\Below w.heap.size w w':=by
 have HV:=hid hv;obtain⟨A1,n1,c1,A2,n2,c2,A3,n3,c3,rfl,r1,r2,r3⟩:=hv;have HN1:Hid (n1=x.records.length):=hid (by obtain⟨_,_,e,_⟩:=ah.slice r1;injection e);have hm1:n1<=9223372036854775807:=by obtain⟨_,_,e,_,_⟩:=ah.slice r1;injection e;omega
 have H1:=hid r1;have HN2:Hid (n2=x.services.length):=hid (by obtain⟨_,_,e,_⟩:=ah.slice r2;injection e);have hm2:n2<=9223372036854775807:=by obtain⟨_,_,e,_,_⟩:=ah.slice r2;injection e;omega
 have H2:=hid r2;have HN3:Hid (n3=x.sagas.length):=hid (by obtain⟨_,_,e,_⟩:=ah.slice r3;injection e);have hm3:n3<=9223372036854775807:=by obtain⟨_,_,e,_,_⟩:=ah.slice r3;injection e;omega
 have H3:=hid r3;clear r1 r2 r3;have HF:=hid hF;obtain⟨R,HR⟩:∃ R,Hid (Chk.ak (Chk.iE x)=R):=⟨_,hid rfl⟩;rw[HR.out];clear hF;go_enter Tryz.func250,Tryz.ntmps250;go_upto_region 1 with(fail)
 refine aj (λV hV=>?_);have HL:=hid (Chk.Lx.start hV);clear hV;obtain⟨⟨q0,q1,q2,q3⟩,-⟩:=HL.out.box.k4;go_wp2_with fail;go_loopw [6] (λi wr=>∃(k:Nat),k<=n2/\i=.int .i64 k/\Hid (Chk.ak ((x.services.drop k).flatMap (Chk.mZ x))=R)/\Hid (Chk.Lx w wr #[.string x.name,.slice A1 n1 c1,.slice A2 n2 c2,.slice A3 n3 c3])) (λi _=>n2 - (intOf i).toNat)
 case atStart=>exact⟨0,by omega,rfl,HR,HL⟩
 case round =>
  clear HL HR q0 q1 q2 q3;obtain⟨k,hk,rfl,HI,HL⟩:=hrel;obtain⟨V1,rfl⟩:∃ w',w'=wr:=⟨_,rfl⟩;have ik0:(0:Int)<=(k:Int):=by omega
  obtain⟨⟨q0,q1,q2,q3⟩,-⟩:=HL.out.box.k4;by_cases hlt:k<n2
  case neg =>
   have HE:Hid (R=none):=hid (by have h:=HI.out;rw[xP (by have:=HN2.out;omega)]at h;exact h.symm);clear HI;go_wp2_with fail;go_ret2;exact⟨by rw[HE.out];rfl,HL.out.bel⟩
  have hok0:=λh:k<x.services.length=>HF.out.sv _ (xR h)
  have HOK:=hid hok0;clear hok0;have aX:k<x.services.length:=by rw[<-HN2.out];exact hlt
  obtain⟨g1,off1,cs,rfl,-,⟨u,he,HU⟩,hc⟩:=ah.get H2.out aX (by omega);obtain⟨r,Hr⟩:∃ r,Hid (x.services[k]=r):=⟨_,hid rfl⟩;rw[Hr.out]at he HU;obtain⟨rn,rf⟩:=r;subst he;simp only at HU hc;obtain⟨A5,n5,c5,rfl⟩:=ah.is HU;have HN5:Hid (n5=rf.length):=hid (by obtain⟨_,_,e,_⟩:=ah.slice HU;injection e);have hm5:n5<=9223372036854775807:=by obtain⟨_,_,e,_,_⟩:=ah.slice HU;injection e;omega
  have H5:=hid HU;have HDk:Hid (x.services.drop k=⟨rn,rf⟩::x.services.drop (k+1)):=hid (by rw[xQ aX,Hr.out]);have b0:=hc 0 _ rfl;have b1:=hc 1 _ rfl;simp only[xK]at b0;have aC:g1<w.heap.size:=xH w _ b0;have b0:=(HL.out.bel.cell aC).trans b0;have b1:=(HL.out.bel.cell aC).trans b1;have i11:(k:Int)<(n2:Int):=by omega
  clear hc HU Hr;have hok:=HOK.out aX;rw[aP aX HDk.out]at hok;simp only at hok;have HIk:Hid (Chk.ak ((Chk.mZ x) ⟨rn,rf⟩++(x.services.drop (k+1)).flatMap (Chk.mZ x))=R):=hid (by have h:=HI.out;rw[HDk.out,yJ]at h;exact h);clear HI HOK;obtain⟨hrn,rX,hms⟩:=hok;have HMS:=hid hms;clear hms;go_upto_region 5 with(fail)
  refine aj (λW1 hW1=>?_);obtain⟨hb1,hq1,-⟩:=au hW1;clear hW1;have HB1:=hid hq1;clear q0 q1 q2 q3 b0 b1;replace HL:=hid (HL.out.below hb1);clear hb1 hq1;go_wp2_with fail;have h5:n5<=99:=by rw[HN5.out];exact rX
  have HIj:Hid (Chk.ak ((rf.drop 0).flatMap (Chk.ru x rn)++(x.services.drop (k+1)).flatMap (Chk.mZ x))=R):=HIk;go_loopw [8] (λi wr=>∃(j:Nat),j<=n5/\i=.int .i64 j/\Hid (Chk.ak ((rf.drop j).flatMap (Chk.ru x rn)++(x.services.drop (k+1)).flatMap (Chk.mZ x))=R)/\Hid (Bk wr V1.heap.size 101 #[.string rn,.slice A5 n5 c5])/\Hid (Chk.Lx w wr #[.string x.name,.slice A1 n1 c1,.slice (some ⟨g1,off1,none⟩) n2 c2,.slice A3 n3 c3])) (λi _=>n5 - (intOf i).toNat)
  case atStart=>exact⟨0,by omega,rfl,HIj,HB1,HL⟩
  case round =>
   clear HL HB1 HIj HIk;obtain⟨j,hj,rfl,HJ,HB1,HL⟩:=hrel;obtain⟨V2,rfl⟩:∃ w',w'=wr:=⟨_,rfl⟩;have ij0:(0:Int)<=(j:Int):=by omega
   obtain⟨⟨b0,b1⟩,-⟩:=HB1.out.k2;by_cases hlj:j<n5
   case neg =>
    have HI3:Hid (Chk.ak ((x.services.drop (k+1)).flatMap (Chk.mZ x))=R):=hid (by have h:=HJ.out;rw[xP (by have:=HN5.out;omega)]at h;exact h);clear HJ;go_wp2_with fail;go_roundw
    case rel=>exact⟨k+1,by omega,by go_num,HI3,HL⟩
    case measure=>simp[intOf]<;>omega
   have dL:j<rf.length:=by rw[<-HN5.out];exact hlj
   obtain⟨g2,off2,cs,rfl,-,he,hc⟩:=ah.get H5.out dL (by omega);obtain⟨r,Hr⟩:∃ r,Hid (rf[j]=r):=⟨_,hid rfl⟩;rw[Hr.out]at he;obtain⟨m0,m1,m2,m3,m4⟩:=r;unfold Id.dV Id.Mth.cells at he;subst he;have HDj:Hid (rf.drop j=⟨m0,m1,m2,m3,m4⟩::rf.drop (j+1)):=hid (by rw[xQ dL,Hr.out]);have a0:=hc 0 _ rfl;have a1:=hc 1 _ rfl;have a2:=hc 2 _ rfl;have a3:=hc 3 _ rfl;have a4:=hc 4 _ rfl;simp only[xK]at a0;have aH:g2<w.heap.size:=xH w _ a0;have a0:=(HL.out.bel.cell aH).trans a0;have a1:=(HL.out.bel.cell aH).trans a1;have a2:=(HL.out.bel.cell aH).trans a2;have a3:=(HL.out.bel.cell aH).trans a3;have a4:=(HL.out.bel.cell aH).trans a4;have i21:(j:Int)<(n5:Int):=by omega
   clear hc Hr;have wV:=HMS.out ⟨m0,m1,m2,m3,m4⟩ (by rw[<-aP dL HDj.out];exact xR _);simp only at wV;obtain⟨hm0,hm1,hm3,hm4⟩:=wV;have HJ1:Hid (Chk.ak (((m4.toList.isEmpty||Chk.rC x rn ⟨m0,m1,m2,m3,m4⟩),Chk.part rn m0)::((rf.drop (j+1)).flatMap (Chk.ru x rn)++(x.services.drop (k+1)).flatMap (Chk.mZ x)))=R):=hid (by have h:=HJ.out;rw[HDj.out,yJ,xU]at h;exact h);clear HJ;have hne2:¬g2=V2.heap.size:=by have:=HL.out.bel.size;omega
   go_upto_region 9 with(fail)
   refine aj (λW3 hW3=>?_);obtain⟨hb3,hq3,-⟩:=au hW3;clear hW3 a0 a1 a2 a3 a4 b0 b1;have HM:=hid hq3;replace HL:=hid (HL.out.below hb3);replace HB1:=hid (HB1.out.below hb3 HB1.out.lt);clear hb3 hq3;obtain⟨T,HT⟩:∃ T,Hid ((m4.toList.isEmpty||Chk.rC x rn ⟨m0,m1,m2,m3,m4⟩)=T):=⟨_,hid rfl⟩;rw[HT.out]at HJ1;have YES:T=true->Hid (Chk.ak ((rf.drop (j+1)).flatMap (Chk.ru x rn)++(x.services.drop (k+1)).flatMap (Chk.mZ x))=R):=λh=>hid ((Chk.gV h).symm.trans HJ1.out)
   have NO:T=false->Hid (R=some (Chk.part rn m0)):=λh=>hid (HJ1.out.symm.trans (Chk.fQ h))
   have fJ:=hid YES;have HNO:=hid NO;clear YES NO HJ1;obtain⟨⟨a0,a1,a2,a3,a4⟩,-⟩:=HM.out.k5;obtain⟨⟨b0,b1⟩,-⟩:=HB1.out.k2;obtain⟨⟨q0,q1,q2,q3⟩,-⟩:=HL.out.box.k4;cases hu:m4.toList.isEmpty
   case true =>
    have HI4:=fJ.out (by rw[<-HT.out,hu];rfl);clear fJ HNO;go_wp2_with fail;go_roundw
    case rel=>exact⟨j+1,by omega,by go_num,HI4,HB1,HL⟩
    case measure=>simp[intOf]<;>omega
   have HT2:Hid (Chk.rC x rn ⟨m0,m1,m2,m3,m4⟩=T):=hid (by rw[<-HT.out,hu];rfl);unfold Chk.rC at HT2;clear HT;go_wp2_with fail;refine(qh _ x rn m4 _ (Id.ay.below HL.out.bel HV.out)).mono ?_;rintro e W4⟨rfl,hb4⟩;clear a0 a1 a2 a3 a4 b0 b1 q0 q1 q2 q3;have HLx:=hid (HL.out.below hb4);have eY:=hid (HB1.out.below hb4 HB1.out.lt);have HMx:=hid (HM.out.below hb4 HM.out.lt);clear HL HB1 HM;have HL:=HLx;have HB1:=eY;have HM:=HMx;clear HLx eY HMx;clear hb4;obtain⟨mo,HMO⟩:∃ mo,Hid (Chk.meth x rn m4=mo):=⟨_,hid rfl⟩;rw[HMO.out];simp only[HMO.out]at HT2;obtain⟨⟨a0,a1,a2,a3,a4⟩,-⟩:=HM.out.k5;obtain⟨⟨b0,b1⟩,-⟩:=HB1.out.k2;cases mo
   case none =>
    have HTF:Hid (T=false):=hid HT2.out.symm;clear HT2 HMO;simp only[Option.getD_none,Option.isSome_none,Chk.rV,Chk.oz];go_upto_region 18 with(fail)
    refine aj (λW5 hW5=>?_);obtain⟨hb5,hq5,-⟩:=au hW5;clear hW5 a0 a1 a2 a3 a4 b0 b1;have HLx:=hid (HL.out.below hb5);have eY:=hid (HB1.out.below hb5 HB1.out.lt);have HMx:=hid (HM.out.below hb5 HM.out.lt);clear HL HB1 HM;have HL:=HLx;have HB1:=eY;have HM:=HMx;clear HLx eY HMx;clear hb5 hq5;obtain⟨⟨a0,a1,a2,a3,a4⟩,-⟩:=HM.out.k5;obtain⟨⟨b0,b1⟩,-⟩:=HB1.out.k2;have HE:=HNO.out (HTF.out);clear fJ HNO;have z1:(9223372036854775807<rn.size+1)=False:=by simp;omega
    have z2:(9223372036854775807<rn.size+1+m0.size)=False:=by simp;omega
    go_wp2_with fail;go_ret2;exact⟨by rw[HE.out];rfl,HL.out.bel⟩
   rename_i u
   obtain⟨u0,u1,u2,u3,u4⟩:=u;have HT3:Hid ((u1.toList==m1.toList&&u4.toList.isEmpty&&u2==1&&Chk.mQ m3 u3)=T):=hid HT2.out;clear HT2 HMO;simp only[Option.getD_some,Option.isSome_some,Chk.rV];go_upto_region 18 with(fail)
   refine aj (λW5 hW5=>?_);obtain⟨hb5,hq5,-⟩:=au hW5;clear hW5 a0 a1 a2 a3 a4 b0 b1;have HLx:=hid (HL.out.below hb5);have eY:=hid (HB1.out.below hb5 HB1.out.lt);have HMx:=hid (HM.out.below hb5 HM.out.lt);clear HL HB1 HM;have HL:=HLx;have HB1:=eY;have HM:=HMx;clear HLx eY HMx;have HU:=hid hq5;clear hb5 hq5;obtain⟨⟨a0,a1,a2,a3,a4⟩,-⟩:=HM.out.k5;obtain⟨⟨b0,b1⟩,-⟩:=HB1.out.k2;obtain⟨⟨u0c,u1c,u2c,u3c,u4c⟩,-⟩:=HU.out.k5;cases e1:(u1.toList==m1.toList)
   case false =>
    have HE:=HNO.out (by rw[<-HT3.out,e1];rfl);clear fJ HNO;have z1:(9223372036854775807<rn.size+1)=False:=by simp;omega
    have z2:(9223372036854775807<rn.size+1+m0.size)=False:=by simp;omega
    go_wp2_with fail;go_ret2;exact⟨by rw[HE.out];rfl,HL.out.bel⟩
   cases e2:u4.toList.isEmpty
   case false =>
    have HE:=HNO.out (by rw[<-HT3.out,e1,e2];rfl);clear fJ HNO;have z1:(9223372036854775807<rn.size+1)=False:=by simp;omega
    have z2:(9223372036854775807<rn.size+1+m0.size)=False:=by simp;omega
    go_wp2_with fail;go_ret2;exact⟨by rw[HE.out];rfl,HL.out.bel⟩
   by_cases e3:u2=1
   case neg =>
    have t1:((u2:Int)==1)=false:=by rw[xG];omega
    have HTF:Hid (T=false):=hid (by rw[<-HT3.out,beq_eq_false_iff_ne.2 e3];simp);clear e3;have HE:=HNO.out (HTF.out);clear fJ HNO;have z1:(9223372036854775807<rn.size+1)=False:=by simp;omega
    have z2:(9223372036854775807<rn.size+1+m0.size)=False:=by simp;omega
    go_wp2_with fail;go_ret2;exact⟨by rw[HE.out];rfl,HL.out.bel⟩
   subst e3;have HT4:Hid (Chk.mQ m3 u3=T):=hid (by rw[<-HT3.out,e1,e2];rfl);clear HT3;go_wp2_with fail;refine(DV m3 u3 _).mono ?_;rw[HT4.out];rintro e W6⟨rfl,rfl⟩;cases T
   case true =>
    have HI4:=fJ.out (rfl);clear fJ HNO;go_wp2_with fail;go_roundw
    case rel=>exact⟨j+1,by omega,by go_num,HI4,HB1,HL⟩
    case measure=>simp[intOf]<;>omega
   have HE:=HNO.out (rfl);clear fJ HNO;have z1:(9223372036854775807<rn.size+1)=False:=by simp;omega
   have z2:(9223372036854775807<rn.size+1+m0.size)=False:=by simp;omega
   go_wp2_with fail;go_ret2;exact⟨by rw[HE.out];rfl,HL.out.bel⟩
theorem DL(v:Value)(x:Id.Sch)(hF:Chk.Fine x)(w:World)(hv:Id.ay w none v x) :
  Calls Tryz.prog 249 #[v,.int .i64 4] w λe w'=>e=.returned (Chk.kL (Chk.ak (x.records.flatMap (Chk.eH x))))/\Below w.heap.size w w':=by
 have HV:=hid hv;obtain⟨A1,n1,c1,A2,n2,c2,A3,n3,c3,rfl,r1,r2,r3⟩:=hv;have HN1:Hid (n1=x.records.length):=hid (by obtain⟨_,_,e,_⟩:=ah.slice r1;injection e);have hm1:n1<=9223372036854775807:=by obtain⟨_,_,e,_,_⟩:=ah.slice r1;injection e;omega
 have H1:=hid r1;have HN2:Hid (n2=x.services.length):=hid (by obtain⟨_,_,e,_⟩:=ah.slice r2;injection e);have hm2:n2<=9223372036854775807:=by obtain⟨_,_,e,_,_⟩:=ah.slice r2;injection e;omega
 have H2:=hid r2;have HN3:Hid (n3=x.sagas.length):=hid (by obtain⟨_,_,e,_⟩:=ah.slice r3;injection e);have hm3:n3<=9223372036854775807:=by obtain⟨_,_,e,_,_⟩:=ah.slice r3;injection e;omega
 have H3:=hid r3;clear r1 r2 r3;have HF:=hid hF;obtain⟨R,HR⟩:∃ R,Hid (Chk.ak (x.records.flatMap (Chk.eH x))=R):=⟨_,hid rfl⟩;rw[HR.out];clear hF;go_enter Tryz.func249,Tryz.ntmps249;go_upto_region 1 with(fail)
 refine aj (λV hV=>?_);have HL:=hid (Chk.Lx.start hV);clear hV;obtain⟨⟨q0,q1,q2,q3⟩,-⟩:=HL.out.box.k4;go_wp2_with fail;go_loopw [7] (λi wr=>∃(k:Nat),k<=n1/\i=.int .i64 k/\Hid (Chk.ak ((x.records.drop k).flatMap (Chk.eH x))=R)/\Hid (Chk.Lx w wr #[.string x.name,.slice A1 n1 c1,.slice A2 n2 c2,.slice A3 n3 c3])) (λi _=>n1 - (intOf i).toNat)
 case atStart=>exact⟨0,by omega,rfl,HR,HL⟩
 case round =>
  clear HL HR q0 q1 q2 q3;obtain⟨k,hk,rfl,HI,HL⟩:=hrel;obtain⟨V1,rfl⟩:∃ w',w'=wr:=⟨_,rfl⟩;have ik0:(0:Int)<=(k:Int):=by omega
  obtain⟨⟨q0,q1,q2,q3⟩,-⟩:=HL.out.box.k4;by_cases hlt:k<n1
  case neg =>
   have HE:Hid (R=none):=hid (by have h:=HI.out;rw[xP (by have:=HN1.out;omega)]at h;exact h.symm);clear HI;go_wp2_with fail;go_ret2;exact⟨by rw[HE.out];rfl,HL.out.bel⟩
  have hok0:=λh:k<x.records.length=>HF.out.re _ (xR h)
  have HOK:=hid hok0;clear hok0;have aX:k<x.records.length:=by rw[<-HN1.out];exact hlt
  obtain⟨g1,off1,cs,rfl,-,⟨u,he,HU⟩,hc⟩:=ah.get H1.out aX (by omega);obtain⟨r,Hr⟩:∃ r,Hid (x.records[k]=r):=⟨_,hid rfl⟩;rw[Hr.out]at he HU;obtain⟨rn,rc,rf⟩:=r;subst he;simp only at HU hc;obtain⟨A5,n5,c5,rfl⟩:=ah.is HU;have HN5:Hid (n5=rf.length):=hid (by obtain⟨_,_,e,_⟩:=ah.slice HU;injection e);have hm5:n5<=9223372036854775807:=by obtain⟨_,_,e,_,_⟩:=ah.slice HU;injection e;omega
  have H5:=hid HU;have HDk:Hid (x.records.drop k=⟨rn,rc,rf⟩::x.records.drop (k+1)):=hid (by rw[xQ aX,Hr.out]);have b0:=hc 0 _ rfl;have b1:=hc 1 _ rfl;have b2:=hc 2 _ rfl;simp only[xK]at b0;have aC:g1<w.heap.size:=xH w _ b0;have b0:=(HL.out.bel.cell aC).trans b0;have b1:=(HL.out.bel.cell aC).trans b1;have b2:=(HL.out.bel.cell aC).trans b2;have i11:(k:Int)<(n1:Int):=by omega
  clear hc HU Hr;have hok:=HOK.out aX;rw[aP aX HDk.out]at hok;simp only at hok;have HIk:Hid (Chk.ak ((Chk.eH x) ⟨rn,rc,rf⟩++(x.records.drop (k+1)).flatMap (Chk.eH x))=R):=hid (by have h:=HI.out;rw[HDk.out,yJ]at h;exact h);clear HI HOK;obtain⟨hrn,rX,hms⟩:=hok;have HMS:=hid hms;clear hms;go_upto_region 8 with(fail)
  refine aj (λW1 hW1=>?_);obtain⟨hb1,hq1,-⟩:=au hW1;clear hW1;have HB1:=hid hq1;clear q0 q1 q2 q3 b0 b1 b2;replace HL:=hid (HL.out.below hb1);clear hb1 hq1;go_wp2_with fail;have h5:n5<=99:=by rw[HN5.out];exact rX
  have HIj:Hid (Chk.ak ((rf.drop 0).flatMap (Chk.nN x rn)++(x.records.drop (k+1)).flatMap (Chk.eH x))=R):=HIk;go_loopw [9] (λi wr=>∃(j:Nat),j<=n5/\i=.int .i64 j/\Hid (Chk.ak ((rf.drop j).flatMap (Chk.nN x rn)++(x.records.drop (k+1)).flatMap (Chk.eH x))=R)/\Hid (Bk wr V1.heap.size 42 #[.string rn,.bool rc,.slice A5 n5 c5])/\Hid (Chk.Lx w wr #[.string x.name,.slice (some ⟨g1,off1,none⟩) n1 c1,.slice A2 n2 c2,.slice A3 n3 c3])) (λi _=>n5 - (intOf i).toNat)
  case atStart=>exact⟨0,by omega,rfl,HIj,HB1,HL⟩
  case round =>
   clear HL HB1 HIj HIk;obtain⟨j,hj,rfl,HJ,HB1,HL⟩:=hrel;obtain⟨V2,rfl⟩:∃ w',w'=wr:=⟨_,rfl⟩;have ij0:(0:Int)<=(j:Int):=by omega
   obtain⟨⟨b0,b1,b2⟩,-⟩:=HB1.out.k3;by_cases hlj:j<n5
   case neg =>
    have HI3:Hid (Chk.ak ((x.records.drop (k+1)).flatMap (Chk.eH x))=R):=hid (by have h:=HJ.out;rw[xP (by have:=HN5.out;omega)]at h;exact h);clear HJ;go_wp2_with fail;go_roundw
    case rel=>exact⟨k+1,by omega,by go_num,HI3,HL⟩
    case measure=>simp[intOf]<;>omega
   have dL:j<rf.length:=by rw[<-HN5.out];exact hlj
   obtain⟨g2,off2,cs,rfl,-,⟨u,he,HU⟩,hc⟩:=ah.get H5.out dL (by omega);obtain⟨r,Hr⟩:∃ r,Hid (rf[j]=r):=⟨_,hid rfl⟩;rw[Hr.out]at he HU;obtain⟨yn,yt⟩:=r;subst he;simp only at HU hc;obtain⟨A7,n7,c7,rfl⟩:=ah.is HU;have HN7:Hid (n7=yt.length):=hid (by obtain⟨_,_,e,_⟩:=ah.slice HU;injection e);have hm7:n7<=9223372036854775807:=by obtain⟨_,_,e,_,_⟩:=ah.slice HU;injection e;omega
   have H7:=hid HU;clear HU;have HDj:Hid (rf.drop j=⟨yn,yt⟩::rf.drop (j+1)):=hid (by rw[xQ dL,Hr.out]);have a0:=hc 0 _ rfl;have a1:=hc 1 _ rfl;simp only[xK]at a0;have aH:g2<w.heap.size:=xH w _ a0;have a0:=(HL.out.bel.cell aH).trans a0;have a1:=(HL.out.bel.cell aH).trans a1;have i21:(j:Int)<(n5:Int):=by omega
   clear hc Hr;have OQ:=HMS.out ⟨yn,yt⟩ (by rw[<-aP dL HDj.out];exact xR _);simp only at OQ;have hyn:=OQ.1;clear OQ;obtain⟨T,HT⟩:∃ T,Hid (Chk.right x yt=T):=⟨_,hid rfl⟩;have HJ1:Hid (Chk.ak ((T,Chk.part rn yn)::((rf.drop (j+1)).flatMap (Chk.nN x rn)++(x.records.drop (k+1)).flatMap (Chk.eH x)))=R):=hid (by have h:=HJ.out;rw[HDj.out,yJ,xU]at h;rw[<-HT.out];exact h);clear HJ;obtain⟨⟨q0,q1,q2,q3⟩,-⟩:=HL.out.box.k4;have hS7:Id.bG V2 none (.slice A7 n7 c7) yt:=ah.below H7.out HL.out.bel (λ_ _ h=>h);have HS7:=hid hS7;clear hS7;have HVV:=hid (Id.ay.below HL.out.bel HV.out);have hcall:∀ W,Bl V2 W->Calls Tryz.prog 218 #[.agg #[.string x.name,.slice (some ⟨g1,off1,none⟩) n1 c1,.slice A2 n2 c2,.slice A3 n3 c3],.slice A7 n7 c7] W λe w'=>e=.returned (.bool T)/\Bl V2 w':=λW hW=>by have h:=fG hW (Ag _ x _ yt W (Id.ay.below hW HVV.out) (ah.below HS7.out hW (λ_ _ h=>h)));rw[HT.out]at h;exact h
   have HC:=hid hcall;clear hcall;go_wp2_with fail;have dB2:=λ(w':World) (hb:Bl V2 w')=>(Bk.k3 (HB1.out.below hb HB1.out.lt)).1.2.2
   have dS:∀ w',Bl V2 w'->Bk w' w.heap.size 28 #[.string x.name,.slice (some ⟨g1,off1,none⟩) n1 c1,.slice A2 n2 c2,.slice A3 n3 c3]:=λw' hb=>HL.out.box.below hb HL.out.box.lt
   have dA1:∀ w',Bl V2 w'->w'.cell? _=_:=λw' hb=>(hb.cell (Nat.lt_of_lt_of_le aH HL.out.bel.size)).trans a1
   clear a0 a1 b0 b1 b2 q0 q1 q2 q3;refine dI V2 (by kernel_rfl) (by kernel_rfl) (Bl.refl _) ?_;repeat(first|go_big_quiet_step((intro hb;exact HC.out _ hb))|(refine wpQuiet_step (λK hK=>?_);rw[if_pos (by rfl)];refine dw _ _ rfl _ rfl _ _ _ (by assumption) Tryz.underlying28 rfl (by kernel_rfl) ?_;go_simp;refine hK _ ?_;clear hK K)|(refine wpQuiet_step (λK hK=>?_);rw[if_pos (by rfl)];refine Lst.aF _ _ rfl _ rfl _ (by assumption) _ Tryz.underlying40 rfl ?_;go_simp;refine hK _ ?_;clear hK K)|(refine wpQuiet_step (λK hK=>?_);rw[if_pos (by rfl)];refine Lst.aF _ _ rfl _ rfl _ (by assumption) _ Tryz.underlying45 rfl ?_;go_simp;refine hK _ ?_;clear hK K)|(refine wpQuiet_step (λK hK=>?_);go_simp;refine⟨_,λ_ _=>rfl,hK _ ?_⟩;clear hK K))
   refine wpQuiet_nil ?_;intro w9 hw9;clear dB2 dS dA1;replace HL:=hid (HL.out.below hw9);replace HB1:=hid (HB1.out.below hw9 HB1.out.lt);cases T
   case true =>
    have HI4:Hid (Chk.ak ((rf.drop (j+1)).flatMap (Chk.nN x rn)++(x.records.drop (k+1)).flatMap (Chk.eH x))=R):=HJ1;go_wp2_with fail;go_roundw
    case rel=>exact⟨j+1,by omega,by go_num,HI4,HB1,HL⟩
    case measure=>simp[intOf]<;>omega
   have HE:Hid (R=some (Chk.part rn yn)):=hid HJ1.out.symm;obtain⟨⟨b0,b1,b2⟩,-⟩:=HB1.out.k3;obtain⟨g8,TD,cs,e8,-,⟨u8,he8,-⟩,hc⟩:=ah.get H5.out dL (by omega);injection e8 with e8
   injection e8 with e8 e9
   subst e8 e9;rw[aP dL HDj.out]at he8;subst he8;have a0:=hc 0 _ rfl;simp only[xK]at a0;have a0:=(HL.out.bel.cell aH).trans a0;clear hc;have z1:(9223372036854775807<rn.size+1)=False:=by simp;omega
   have z2:(9223372036854775807<rn.size+1+yn.size)=False:=by simp;omega
   go_wp2_with fail;go_quiet (fail);go_wp2_with fail;go_ret2;exact⟨by rw[HE.out];rfl,below_drewN HL.out.bel _⟩
