import Derived.Test.YtogijkhenihaaaaGreatDoorGB29
import Derived.Test.YtogijkhenihaaaaGreatDoorGB28
import Derived.Test.YtogijkhenihaaaaGreatDoorGB30
set_option linter.all false
set_option maxRecDepth 100000
set_option maxHeartbeats 0
namespace Go.Proofs.YtogijkhenihaaaaGreatDoor
open Lib (hid)
open Go.BigFrame Go.RowKit
theorem Gv(v:Value)(x:Id.Sch)(w:World)(hv:Id.ay w none v x) :
  Calls Tryz.prog 247 #[v] w λe w'=>e=.returned (Chk.kL (Chk.ak (Chk.gQ x)))/\Below w.heap.size w w':=by
 have HV:=hid hv;obtain⟨A1,n1,c1,A2,n2,c2,A3,n3,c3,rfl,r1,r2,r3⟩:=hv;have HN1:Hid (n1=x.records.length):=hid (by obtain⟨_,_,e,_⟩:=ah.slice r1;injection e);have hm1:n1<=9223372036854775807:=by obtain⟨_,_,e,_,_⟩:=ah.slice r1;injection e;omega
 have H1:=hid r1;have HN2:Hid (n2=x.services.length):=hid (by obtain⟨_,_,e,_⟩:=ah.slice r2;injection e);have hm2:n2<=9223372036854775807:=by obtain⟨_,_,e,_,_⟩:=ah.slice r2;injection e;omega
 have H2:=hid r2;have HN3:Hid (n3=x.sagas.length):=hid (by obtain⟨_,_,e,_⟩:=ah.slice r3;injection e);have hm3:n3<=9223372036854775807:=by obtain⟨_,_,e,_,_⟩:=ah.slice r3;injection e;omega
 have H3:=hid r3;clear r1 r2 r3;obtain⟨R,HR⟩:∃ R,Hid (Chk.ak (Chk.gQ x)=R):=⟨_,hid rfl⟩;rw[HR.out];unfold Chk.gQ at HR;rw[<-HN1.out,<-HN2.out,<-HN3.out]at HR;go_enter Tryz.func247,Tryz.ntmps247;go_upto_region 1 with(fail)
 refine aj (λV hV=>?_);have HL:=hid (Chk.Lx.start hV);clear hV;obtain⟨⟨q0,q1,q2,q3⟩,-⟩:=HL.out.box.k4;by_cases h64:n1+n2+n3<=64
 case neg =>
  have HE:Hid (R=some ⟨#[]⟩):=hid (by rw[<-HR.out];exact Chk.fQ (decide_eq_false (by omega)));by_cases h1:64<n1
  case pos =>
   have h1i:(64:Int)<(n1:Int):=by omega
   go_wp2_with fail;go_ret2;exact⟨by rw[HE.out];rfl,HL.out.bel⟩
  have h1i:¬(64:Int)<(n1:Int):=by omega
  by_cases h2:64<n2
  case pos =>
   have h2i:(64:Int)<(n2:Int):=by omega
   go_wp2_with fail;go_ret2;exact⟨by rw[HE.out];rfl,HL.out.bel⟩
  have h2i:¬(64:Int)<(n2:Int):=by omega
  by_cases h3:64<n3
  case pos =>
   have h3i:(64:Int)<(n3:Int):=by omega
   go_wp2_with fail;go_ret2;exact⟨by rw[HE.out];rfl,HL.out.bel⟩
  have h3i:¬(64:Int)<(n3:Int):=by omega
  have h4i:(64:Int)<(n1:Int)+(n2:Int)+(n3:Int):=by omega
  have h4:64<n1+n2+n3:=by omega
  clear h64;go_wp2_with fail;go_ret2;exact⟨by rw[HE.out];rfl,HL.out.bel⟩
 have HR0:Hid (Chk.ak (x.records.flatMap Chk.nH++(x.services.flatMap Chk.je++x.sagas.flatMap Chk.dG))=R):=hid ((Chk.gV (decide_eq_true (by omega))).symm.trans HR.out);have h1:¬64<n1:=by omega
 have h1i:¬(64:Int)<(n1:Int):=by omega
 have h2:¬64<n2:=by omega
 have h2i:¬(64:Int)<(n2:Int):=by omega
 have h3:¬64<n3:=by omega
 have h3i:¬(64:Int)<(n3:Int):=by omega
 have h4:¬64<n1+n2+n3:=by omega
 have h4i:¬(64:Int)<(n1:Int)+(n2:Int)+(n3:Int):=by omega
 go_wp2_with fail;clear h64 h1 h1i h2 h2i h3 h3i h4 h4i;go_loopw [4] (λi wr=>∃(z:Nat),z<=n1/\i=.int .i64 z/\V=wr/\Hid (Chk.ak ((x.records.drop z).flatMap Chk.nH++(x.services.flatMap Chk.je++x.sagas.flatMap Chk.dG))=R)) (λi _=>n1 - (intOf i).toNat)
 case atStart=>exact⟨0,by omega,rfl,rfl,hid (HR0.out)⟩
 case round =>
  obtain⟨k,hkk,rfl,rfl,HI⟩:=hrel;have ik0:(0:Int)<=(k:Int):=by omega
  by_cases hlt:k<n1
  case neg =>
   have HI1:Hid (Chk.ak ((x.services.flatMap Chk.je++x.sagas.flatMap Chk.dG))=R):=hid (by have h:=HI.out;rw[xP (by have:=HN1.out;omega)]at h;exact h);clear HI;go_wp2_with fail;go_loopw [5] (λi wr=>∃(z:Nat),z<=n2/\i=.int .i64 z/\V=wr/\Hid (Chk.ak ((x.services.drop z).flatMap Chk.je++x.sagas.flatMap Chk.dG)=R)) (λi _=>n2 - (intOf i).toNat)
   case atStart=>exact⟨0,by omega,rfl,rfl,hid (HI1.out)⟩
   case round =>
    obtain⟨k,hkk,rfl,rfl,HI⟩:=hrel;have ik0:(0:Int)<=(k:Int):=by omega
    by_cases hlt:k<n2
    case neg =>
     have HI1:Hid (Chk.ak (x.sagas.flatMap Chk.dG)=R):=hid (by have h:=HI.out;rw[xP (by have:=HN2.out;omega)]at h;exact h);clear HI;go_wp2_with fail;have HI0:=HI1;clear HI1;go_loopw [6] (λi wr=>∃(z:Nat),z<=n3/\i=.int .i64 z/\V=wr/\Hid (Chk.ak ((x.sagas.drop z).flatMap Chk.dG++[])=R)) (λi _=>n3 - (intOf i).toNat)
     case atStart=>exact⟨0,by omega,rfl,rfl,hid (by have h:=HI0.out;rw[<-List.append_nil (List.flatMap _ _)]at h;exact h)⟩
     case round =>
      obtain⟨k,hkk,rfl,rfl,HI⟩:=hrel;have ik0:(0:Int)<=(k:Int):=by omega
      by_cases hlt:k<n3
      case neg =>
       have HI1:Hid (Chk.ak ([])=R):=hid (by have h:=HI.out;rw[xP (by have:=HN3.out;omega)]at h;exact h);clear HI;have HE:Hid (R=none):=hid HI1.out.symm;go_wp2_with fail;go_ret2;exact⟨by rw[HE.out];rfl,HL.out.bel⟩
      have aX:k<x.sagas.length:=by rw[<-HN3.out];exact hlt
      obtain⟨g1,off1,cs,rfl,-,⟨u,he,HU⟩,hc⟩:=ah.get H3.out aX (by omega);obtain⟨r,Hr⟩:∃ r,Hid (x.sagas[k]=r):=⟨_,hid rfl⟩;rw[Hr.out]at he HU;obtain⟨rn,ra,rf⟩:=r;subst he;simp only at HU hc;obtain⟨A5,n5,c5,rfl⟩:=ah.is HU;have HN5:Hid (n5=rf.length):=hid (by obtain⟨_,_,e,_⟩:=ah.slice HU;injection e);have hm5:n5<=9223372036854775807:=by obtain⟨_,_,e,_,_⟩:=ah.slice HU;injection e;omega
      have H5:=hid HU;have HDk:Hid (x.sagas.drop k=⟨rn,ra,rf⟩::x.sagas.drop (k+1)):=hid (by rw[xQ aX,Hr.out]);have b0:=hc 0 _ rfl;have b1:=hc 1 _ rfl;have b2:=hc 2 _ rfl;simp only[xK]at b0;have aC:g1<w.heap.size:=xH w _ b0;have b0:=(HL.out.bel.cell aC).trans b0;have b1:=(HL.out.bel.cell aC).trans b1;have b2:=(HL.out.bel.cell aC).trans b2;have i11:(k:Int)<(n3:Int):=by omega
      clear hc HU Hr;have HT0:Hid (Chk.ak (((decide (1<=(rf.length:Int))&&decide ((rf.length:Int)<=8)),rn)::((x.sagas.drop (k+1)).flatMap Chk.dG++[]))=R):=hid (by have h:=HI.out;rw[HDk.out,yJ]at h;exact h);clear HI;rw[<-HN5.out]at HT0;have i50:(0:Int)<=(n5:Int):=by omega
      by_cases h1:1<=n5
      case neg =>
       obtain rfl:n5=0:=by omega
       try simp only[xY]at b2
       have HE:Hid (R=some rn):=hid (by rw[<-HT0.out];exact Chk.fQ (by decide));go_wp2_with fail;go_ret2;exact⟨by rw[HE.out];rfl,HL.out.bel⟩
      have a0:¬n5<1:=by omega
      have a0i:¬(n5:Int)<1:=by omega
      have a0j:0<n5:=by omega
      by_cases h8:n5<=8
      case pos =>
       have a1:¬8<n5:=by omega
       have a2:¬(8:Int)<(n5:Int):=by omega
       have HT:Hid (Chk.ak ((x.sagas.drop (k+1)).flatMap Chk.dG++[])=R):=hid ((Chk.gV (by rw[decide_eq_true (show 1<=(n5:Int)by omega),decide_eq_true (show(n5:Int)<=8 by omega)];rfl)).symm.trans HT0.out);clear HT0;go_wp2_with fail;go_roundw
       case rel=>exact⟨k+1,by omega,by go_num,by first|rfl|trivial,hid (HT.out)⟩
       case measure=>simp[intOf];omega
      have a1:8<n5:=by omega
      have a2:(8:Int)<(n5:Int):=by omega
      have HE:Hid (R=some rn):=hid (by rw[<-HT0.out];exact Chk.fQ (by rw[decide_eq_false (show ¬(n5:Int)<=8 by omega)];simp));go_wp2_with fail;go_ret2;exact⟨by rw[HE.out];rfl,HL.out.bel⟩
    have aX:k<x.services.length:=by rw[<-HN2.out];exact hlt
    obtain⟨g1,off1,cs,rfl,-,⟨u,he,HU⟩,hc⟩:=ah.get H2.out aX (by omega);obtain⟨r,Hr⟩:∃ r,Hid (x.services[k]=r):=⟨_,hid rfl⟩;rw[Hr.out]at he HU;obtain⟨rn,rf⟩:=r;subst he;simp only at HU hc;obtain⟨A5,n5,c5,rfl⟩:=ah.is HU;have HN5:Hid (n5=rf.length):=hid (by obtain⟨_,_,e,_⟩:=ah.slice HU;injection e);have hm5:n5<=9223372036854775807:=by obtain⟨_,_,e,_,_⟩:=ah.slice HU;injection e;omega
    have H5:=hid HU;have HDk:Hid (x.services.drop k=⟨rn,rf⟩::x.services.drop (k+1)):=hid (by rw[xQ aX,Hr.out]);have b0:=hc 0 _ rfl;have b1:=hc 1 _ rfl;simp only[xK]at b0;have aC:g1<w.heap.size:=xH w _ b0;have b0:=(HL.out.bel.cell aC).trans b0;have b1:=(HL.out.bel.cell aC).trans b1;have i11:(k:Int)<(n2:Int):=by omega
    clear hc HU Hr;have HT0:Hid (Chk.ak ((decide ((rf.length:Int)<=16),rn)::((x.services.drop (k+1)).flatMap Chk.je++x.sagas.flatMap Chk.dG))=R):=hid (by have h:=HI.out;rw[HDk.out,yJ]at h;exact h);clear HI;rw[<-HN5.out]at HT0;have i50:(0:Int)<=(n5:Int):=by omega
    by_cases h16:n5<=16
    case pos =>
     have a1:¬16<n5:=by omega
     have a2:¬(16:Int)<(n5:Int):=by omega
     have HT:Hid (Chk.ak ((x.services.drop (k+1)).flatMap Chk.je++x.sagas.flatMap Chk.dG)=R):=hid ((Chk.gV (decide_eq_true (by omega))).symm.trans HT0.out);clear HT0;go_wp2_with fail;go_roundw
     case rel=>exact⟨k+1,by omega,by go_num,by first|rfl|trivial,hid (HT.out)⟩
     case measure=>simp[intOf];omega
    have a1:16<n5:=by omega
    have a2:(16:Int)<(n5:Int):=by omega
    have HE:Hid (R=some rn):=hid (by rw[<-HT0.out];exact Chk.fQ (decide_eq_false (by omega)));go_wp2_with fail;go_ret2;exact⟨by rw[HE.out];rfl,HL.out.bel⟩
  have aX:k<x.records.length:=by rw[<-HN1.out];exact hlt
  obtain⟨g1,off1,cs,rfl,-,⟨u,he,HU⟩,hc⟩:=ah.get H1.out aX (by omega);obtain⟨r,Hr⟩:∃ r,Hid (x.records[k]=r):=⟨_,hid rfl⟩;rw[Hr.out]at he HU;obtain⟨rn,rc,rf⟩:=r;subst he;simp only at HU hc;obtain⟨A5,n5,c5,rfl⟩:=ah.is HU;have HN5:Hid (n5=rf.length):=hid (by obtain⟨_,_,e,_⟩:=ah.slice HU;injection e);have hm5:n5<=9223372036854775807:=by obtain⟨_,_,e,_,_⟩:=ah.slice HU;injection e;omega
  have H5:=hid HU;have HDk:Hid (x.records.drop k=⟨rn,rc,rf⟩::x.records.drop (k+1)):=hid (by rw[xQ aX,Hr.out]);have b0:=hc 0 _ rfl;have b1:=hc 1 _ rfl;have b2:=hc 2 _ rfl;simp only[xK]at b0;have aC:g1<w.heap.size:=xH w _ b0;have b0:=(HL.out.bel.cell aC).trans b0;have b1:=(HL.out.bel.cell aC).trans b1;have b2:=(HL.out.bel.cell aC).trans b2;have i11:(k:Int)<(n1:Int):=by omega
  clear hc HU Hr;have HT0:Hid (Chk.ak ((decide ((rf.length:Int)<=16),rn)::((x.records.drop (k+1)).flatMap Chk.nH++(x.services.flatMap Chk.je++x.sagas.flatMap Chk.dG)))=R):=hid (by have h:=HI.out;rw[HDk.out,yJ]at h;exact h);clear HI;rw[<-HN5.out]at HT0;have i50:(0:Int)<=(n5:Int):=by omega
  by_cases h16:n5<=16
  case pos =>
   have a1:¬16<n5:=by omega
   have a2:¬(16:Int)<(n5:Int):=by omega
   have HT:Hid (Chk.ak ((x.records.drop (k+1)).flatMap Chk.nH++(x.services.flatMap Chk.je++x.sagas.flatMap Chk.dG))=R):=hid ((Chk.gV (decide_eq_true (by omega))).symm.trans HT0.out);clear HT0;go_wp2_with fail;go_roundw
   case rel=>exact⟨k+1,by omega,by go_num,by first|rfl|trivial,hid (HT.out)⟩
   case measure=>simp[intOf];omega
  have a1:16<n5:=by omega
  have a2:(16:Int)<(n5:Int):=by omega
  have HE:Hid (R=some rn):=hid (by rw[<-HT0.out];exact Chk.fQ (decide_eq_false (by omega)));go_wp2_with fail;go_ret2;exact⟨by rw[HE.out];rfl,HL.out.bel⟩
theorem Aj(v:Value)(x:Id.Sch)(hF:Chk.Fine x)(w:World)(hv:Id.ay w none v x) :
  Calls Tryz.prog 217 #[v] w λe w'=>e=.returned (Chk.zK (Chk.doc x))/\Below w.heap.size w w':=by
 have HV:=hid hv;obtain⟨A1,n1,c1,A2,n2,c2,A3,n3,c3,rfl,r1,r2,r3⟩:=hv;have HN1:Hid (n1=x.records.length):=hid (by obtain⟨_,_,e,_⟩:=ah.slice r1;injection e);have hm1:n1<=9223372036854775807:=by obtain⟨_,_,e,_,_⟩:=ah.slice r1;injection e;omega
 have H1:=hid r1;have HN2:Hid (n2=x.services.length):=hid (by obtain⟨_,_,e,_⟩:=ah.slice r2;injection e);have hm2:n2<=9223372036854775807:=by obtain⟨_,_,e,_,_⟩:=ah.slice r2;injection e;omega
 have H2:=hid r2;have HN3:Hid (n3=x.sagas.length):=hid (by obtain⟨_,_,e,_⟩:=ah.slice r3;injection e);have hm3:n3<=9223372036854775807:=by obtain⟨_,_,e,_,_⟩:=ah.slice r3;injection e;omega
 have H3:=hid r3;clear r1 r2 r3;have HF:=hid hF;clear hF;obtain⟨R,HR⟩:∃ R,Hid (Chk.dB (Chk.JG x)=R):=⟨_,hid rfl⟩;unfold Chk.doc;rw[HR.out];unfold Chk.JG at HR;go_enter Tryz.func217,Tryz.ntmps217;go_upto_region 1 with(fail)
 refine aj (λV hV=>?_);have HL:=hid (Chk.Lx.start hV);clear hV;obtain⟨⟨q0,q1,q2,q3⟩,-⟩:=HL.out.box.k4;have HRR:=HR;clear HR;obtain⟨o,Ho⟩:∃ o,Hid (Chk.ak (Chk.namesT x)=o):=⟨_,hid rfl⟩;have HRo:Hid (Chk.dB ((o,120)::[(Chk.ak (Chk.gQ x),135),(Chk.ak (Chk.eX x),130),(Chk.ak (x.records.flatMap (Chk.eH x)),131),(Chk.ak (x.services.flatMap Chk.bZ),131),(Chk.ak (Chk.jV x.records (Chk.lvI x.records (x.records.length+2))),132),(Chk.ak (Chk.bU x),134),(Chk.ak (Chk.iE x),133),(Chk.ak (Chk.eU x),240),(Chk.ak (Chk.cZ x),241),(Chk.ak (Chk.dH x),133)])=R):=hid (by rw[<-Ho.out];exact HRR.out);clear HRR;go_wp2_with fail;refine(Jk _ x _ (Id.ay.below HL.out.bel HV.out)).mono ?_;rw[Ho.out];unfold Chk.kL;rintro e W1⟨rfl,hb⟩;have HLx:=hid (HL.out.below hb);clear HL hb q0 q1 q2 q3;have HL:=HLx;clear HLx;obtain⟨⟨q0,q1,q2,q3⟩,-⟩:=HL.out.box.k4;cases o
 case some s =>
  have HE:Hid (R=(s,120)):=hid HRo.out.symm;simp only[Option.getD_some,Option.isNone_some];go_wp2_with fail;go_ret2;exact⟨by rw[HE.out];rfl,HL.out.bel⟩
 have HRR:Hid (Chk.dB [(Chk.ak (Chk.gQ x),135),(Chk.ak (Chk.eX x),130),(Chk.ak (x.records.flatMap (Chk.eH x)),131),(Chk.ak (x.services.flatMap Chk.bZ),131),(Chk.ak (Chk.jV x.records (Chk.lvI x.records (x.records.length+2))),132),(Chk.ak (Chk.bU x),134),(Chk.ak (Chk.iE x),133),(Chk.ak (Chk.eU x),240),(Chk.ak (Chk.cZ x),241),(Chk.ak (Chk.dH x),133)]=R):=HRo;clear HRo Ho;simp only[Option.getD_none,Option.isNone_none];obtain⟨o,Ho⟩:∃ o,Hid (Chk.ak (Chk.gQ x)=o):=⟨_,hid rfl⟩;have HRo:Hid (Chk.dB ((o,135)::[(Chk.ak (Chk.eX x),130),(Chk.ak (x.records.flatMap (Chk.eH x)),131),(Chk.ak (x.services.flatMap Chk.bZ),131),(Chk.ak (Chk.jV x.records (Chk.lvI x.records (x.records.length+2))),132),(Chk.ak (Chk.bU x),134),(Chk.ak (Chk.iE x),133),(Chk.ak (Chk.eU x),240),(Chk.ak (Chk.cZ x),241),(Chk.ak (Chk.dH x),133)])=R):=hid (by rw[<-Ho.out];exact HRR.out);clear HRR;go_wp2_with fail;refine(Gv _ x _ (Id.ay.below HL.out.bel HV.out)).mono ?_;rw[Ho.out];unfold Chk.kL;rintro e W2⟨rfl,hb⟩;have HLx:=hid (HL.out.below hb);clear HL hb q0 q1 q2 q3;have HL:=HLx;clear HLx;obtain⟨⟨q0,q1,q2,q3⟩,-⟩:=HL.out.box.k4;cases o
 case some s =>
  have HE:Hid (R=(s,135)):=hid HRo.out.symm;simp only[Option.getD_some,Option.isNone_some];go_wp2_with fail;go_ret2;exact⟨by rw[HE.out];rfl,HL.out.bel⟩
 have HRR:Hid (Chk.dB [(Chk.ak (Chk.eX x),130),(Chk.ak (x.records.flatMap (Chk.eH x)),131),(Chk.ak (x.services.flatMap Chk.bZ),131),(Chk.ak (Chk.jV x.records (Chk.lvI x.records (x.records.length+2))),132),(Chk.ak (Chk.bU x),134),(Chk.ak (Chk.iE x),133),(Chk.ak (Chk.eU x),240),(Chk.ak (Chk.cZ x),241),(Chk.ak (Chk.dH x),133)]=R):=HRo;clear HRo Ho;simp only[Option.getD_none,Option.isNone_none];obtain⟨o,Ho⟩:∃ o,Hid (Chk.ak (Chk.eX x)=o):=⟨_,hid rfl⟩;have HRo:Hid (Chk.dB ((o,130)::[(Chk.ak (x.records.flatMap (Chk.eH x)),131),(Chk.ak (x.services.flatMap Chk.bZ),131),(Chk.ak (Chk.jV x.records (Chk.lvI x.records (x.records.length+2))),132),(Chk.ak (Chk.bU x),134),(Chk.ak (Chk.iE x),133),(Chk.ak (Chk.eU x),240),(Chk.ak (Chk.cZ x),241),(Chk.ak (Chk.dH x),133)])=R):=hid (by rw[<-Ho.out];exact HRR.out);clear HRR;go_wp2_with fail;refine(EP _ x HF.out _ (Id.ay.below HL.out.bel HV.out)).mono ?_;rw[Ho.out];unfold Chk.kL;rintro e W3⟨rfl,hb⟩;have HLx:=hid (HL.out.below hb);clear HL hb q0 q1 q2 q3;have HL:=HLx;clear HLx;obtain⟨⟨q0,q1,q2,q3⟩,-⟩:=HL.out.box.k4;cases o
 case some s =>
  have HE:Hid (R=(s,130)):=hid HRo.out.symm;simp only[Option.getD_some,Option.isNone_some];go_wp2_with fail;go_ret2;exact⟨by rw[HE.out];rfl,HL.out.bel⟩
 have HRR:Hid (Chk.dB [(Chk.ak (x.records.flatMap (Chk.eH x)),131),(Chk.ak (x.services.flatMap Chk.bZ),131),(Chk.ak (Chk.jV x.records (Chk.lvI x.records (x.records.length+2))),132),(Chk.ak (Chk.bU x),134),(Chk.ak (Chk.iE x),133),(Chk.ak (Chk.eU x),240),(Chk.ak (Chk.cZ x),241),(Chk.ak (Chk.dH x),133)]=R):=HRo;clear HRo Ho;simp only[Option.getD_none,Option.isNone_none];obtain⟨o,Ho⟩:∃ o,Hid (Chk.ak (x.records.flatMap (Chk.eH x))=o):=⟨_,hid rfl⟩;have HRo:Hid (Chk.dB ((o,131)::[(Chk.ak (x.services.flatMap Chk.bZ),131),(Chk.ak (Chk.jV x.records (Chk.lvI x.records (x.records.length+2))),132),(Chk.ak (Chk.bU x),134),(Chk.ak (Chk.iE x),133),(Chk.ak (Chk.eU x),240),(Chk.ak (Chk.cZ x),241),(Chk.ak (Chk.dH x),133)])=R):=hid (by rw[<-Ho.out];exact HRR.out);clear HRR;go_wp2_with fail;refine(DL _ x HF.out _ (Id.ay.below HL.out.bel HV.out)).mono ?_;rw[Ho.out];unfold Chk.kL;rintro e W4⟨rfl,hb⟩;have HLx:=hid (HL.out.below hb);clear HL hb q0 q1 q2 q3;have HL:=HLx;clear HLx;obtain⟨⟨q0,q1,q2,q3⟩,-⟩:=HL.out.box.k4;cases o
 case some s =>
  have HE:Hid (R=(s,131)):=hid HRo.out.symm;simp only[Option.getD_some,Option.isNone_some];go_wp2_with fail;go_ret2;exact⟨by rw[HE.out];rfl,HL.out.bel⟩
 have HRR:Hid (Chk.dB [(Chk.ak (x.services.flatMap Chk.bZ),131),(Chk.ak (Chk.jV x.records (Chk.lvI x.records (x.records.length+2))),132),(Chk.ak (Chk.bU x),134),(Chk.ak (Chk.iE x),133),(Chk.ak (Chk.eU x),240),(Chk.ak (Chk.cZ x),241),(Chk.ak (Chk.dH x),133)]=R):=HRo;clear HRo Ho;simp only[Option.getD_none,Option.isNone_none];obtain⟨o,Ho⟩:∃ o,Hid (Chk.ak (x.services.flatMap Chk.bZ)=o):=⟨_,hid rfl⟩;have HRo:Hid (Chk.dB ((o,131)::[(Chk.ak (Chk.jV x.records (Chk.lvI x.records (x.records.length+2))),132),(Chk.ak (Chk.bU x),134),(Chk.ak (Chk.iE x),133),(Chk.ak (Chk.eU x),240),(Chk.ak (Chk.cZ x),241),(Chk.ak (Chk.dH x),133)])=R):=hid (by rw[<-Ho.out];exact HRR.out);clear HRR;go_wp2_with fail;refine(DU _ x HF.out _ (Id.ay.below HL.out.bel HV.out)).mono ?_;rw[Ho.out];unfold Chk.kL;rintro e W5⟨rfl,hb⟩;have HLx:=hid (HL.out.below hb);clear HL hb q0 q1 q2 q3;have HL:=HLx;clear HLx;obtain⟨⟨q0,q1,q2,q3⟩,-⟩:=HL.out.box.k4;cases o
 case some s =>
  have HE:Hid (R=(s,131)):=hid HRo.out.symm;simp only[Option.getD_some,Option.isNone_some];go_wp2_with fail;go_ret2;exact⟨by rw[HE.out];rfl,HL.out.bel⟩
 have HRR:Hid (Chk.dB [(Chk.ak (Chk.jV x.records (Chk.lvI x.records (x.records.length+2))),132),(Chk.ak (Chk.bU x),134),(Chk.ak (Chk.iE x),133),(Chk.ak (Chk.eU x),240),(Chk.ak (Chk.cZ x),241),(Chk.ak (Chk.dH x),133)]=R):=HRo;clear HRo Ho;simp only[Option.getD_none,Option.isNone_none];obtain⟨o,Ho⟩:∃ o,Hid (Chk.ak (Chk.jV x.records (Chk.lvI x.records (x.records.length+2)))=o):=⟨_,hid rfl⟩;have HRo:Hid (Chk.dB ((o,132)::[(Chk.ak (Chk.bU x),134),(Chk.ak (Chk.iE x),133),(Chk.ak (Chk.eU x),240),(Chk.ak (Chk.cZ x),241),(Chk.ak (Chk.dH x),133)])=R):=hid (by rw[<-Ho.out];exact HRR.out);clear HRR;go_wp2_with fail;refine(DK _ x HF.out _ (Id.ay.below HL.out.bel HV.out)).mono ?_;rw[Ho.out];unfold Chk.kL;rintro e W6⟨rfl,hb⟩;have HLx:=hid (HL.out.below hb);clear HL hb q0 q1 q2 q3;have HL:=HLx;clear HLx;obtain⟨⟨q0,q1,q2,q3⟩,-⟩:=HL.out.box.k4;cases o
 case some s =>
  have HE:Hid (R=(s,132)):=hid HRo.out.symm;simp only[Option.getD_some,Option.isNone_some];go_wp2_with fail;go_ret2;exact⟨by rw[HE.out];rfl,HL.out.bel⟩
 have HRR:Hid (Chk.dB [(Chk.ak (Chk.bU x),134),(Chk.ak (Chk.iE x),133),(Chk.ak (Chk.eU x),240),(Chk.ak (Chk.cZ x),241),(Chk.ak (Chk.dH x),133)]=R):=HRo;clear HRo Ho;simp only[Option.getD_none,Option.isNone_none];obtain⟨o,Ho⟩:∃ o,Hid (Chk.ak (Chk.bU x)=o):=⟨_,hid rfl⟩;have HRo:Hid (Chk.dB ((o,134)::[(Chk.ak (Chk.iE x),133),(Chk.ak (Chk.eU x),240),(Chk.ak (Chk.cZ x),241),(Chk.ak (Chk.dH x),133)])=R):=hid (by rw[<-Ho.out];exact HRR.out);clear HRR;go_wp2_with fail;refine(DR _ x HF.out _ (Id.ay.below HL.out.bel HV.out)).mono ?_;rw[Ho.out];unfold Chk.kL;rintro e W7⟨rfl,hb⟩;have HLx:=hid (HL.out.below hb);clear HL hb q0 q1 q2 q3;have HL:=HLx;clear HLx;obtain⟨⟨q0,q1,q2,q3⟩,-⟩:=HL.out.box.k4;cases o
 case some s =>
  have HE:Hid (R=(s,134)):=hid HRo.out.symm;simp only[Option.getD_some,Option.isNone_some];go_wp2_with fail;go_ret2;exact⟨by rw[HE.out];rfl,HL.out.bel⟩
 have HRR:Hid (Chk.dB [(Chk.ak (Chk.iE x),133),(Chk.ak (Chk.eU x),240),(Chk.ak (Chk.cZ x),241),(Chk.ak (Chk.dH x),133)]=R):=HRo;clear HRo Ho;simp only[Option.getD_none,Option.isNone_none];obtain⟨o,Ho⟩:∃ o,Hid (Chk.ak (Chk.iE x)=o):=⟨_,hid rfl⟩;have HRo:Hid (Chk.dB ((o,133)::[(Chk.ak (Chk.eU x),240),(Chk.ak (Chk.cZ x),241),(Chk.ak (Chk.dH x),133)])=R):=hid (by rw[<-Ho.out];exact HRR.out);clear HRR;go_wp2_with fail;refine(DN _ x HF.out _ (Id.ay.below HL.out.bel HV.out)).mono ?_;rw[Ho.out];unfold Chk.kL;rintro e W8⟨rfl,hb⟩;have HLx:=hid (HL.out.below hb);clear HL hb q0 q1 q2 q3;have HL:=HLx;clear HLx;obtain⟨⟨q0,q1,q2,q3⟩,-⟩:=HL.out.box.k4;cases o
 case some s =>
  have HE:Hid (R=(s,133)):=hid HRo.out.symm;simp only[Option.getD_some,Option.isNone_some];go_wp2_with fail;go_ret2;exact⟨by rw[HE.out];rfl,HL.out.bel⟩
 have HRR:Hid (Chk.dB [(Chk.ak (Chk.eU x),240),(Chk.ak (Chk.cZ x),241),(Chk.ak (Chk.dH x),133)]=R):=HRo;clear HRo Ho;simp only[Option.getD_none,Option.isNone_none];go_wp2_with fail;have HR2:Hid (Chk.dB ((Chk.ak ((x.sagas.drop 0).flatMap λg=>[(Chk.order x g.arg,g.name)]),240)::[(Chk.ak (Chk.cZ x),241),(Chk.ak (Chk.dH x),133)])=R):=HRR;clear HRR;go_loopw [6] (λi wr=>∃(k:Nat),k<=n3/\i=.int .i64 k/\Hid (Chk.dB ((Chk.ak ((x.sagas.drop k).flatMap λg=>[(Chk.order x g.arg,g.name)]),240)::[(Chk.ak (Chk.cZ x),241),(Chk.ak (Chk.dH x),133)])=R)/\Hid (Chk.Lx w wr #[.string x.name,.slice A1 n1 c1,.slice A2 n2 c2,.slice A3 n3 c3])) (λi _=>n3 - (intOf i).toNat)
 case atStart=>exact⟨0,by omega,rfl,HR2,HL⟩
 case round =>
  clear HR2 HL q0 q1 q2 q3;obtain⟨k,hk,rfl,HI,HL⟩:=hrel;obtain⟨V1,rfl⟩:∃ w',w'=wr:=⟨_,rfl⟩;have ik0:(0:Int)<=(k:Int):=by omega
  obtain⟨⟨q0,q1,q2,q3⟩,-⟩:=HL.out.box.k4;by_cases hlt:k<n3
  case pos =>
   have aX:k<x.sagas.length:=by rw[<-HN3.out];exact hlt
   obtain⟨g1,off1,cs,rfl,-,⟨u,he,HU⟩,hc⟩:=ah.get H3.out aX (by omega);obtain⟨r,Hr⟩:∃ r,Hid (x.sagas[k]=r):=⟨_,hid rfl⟩;rw[Hr.out]at he HU;obtain⟨rn,ra,rf⟩:=r;subst he;simp only at HU hc;obtain⟨A5,n5,c5,rfl⟩:=ah.is HU;have HN5:Hid (n5=rf.length):=hid (by obtain⟨_,_,e,_⟩:=ah.slice HU;injection e);have hm5:n5<=9223372036854775807:=by obtain⟨_,_,e,_,_⟩:=ah.slice HU;injection e;omega
   have H5:=hid HU;have HDk:Hid (x.sagas.drop k=⟨rn,ra,rf⟩::x.sagas.drop (k+1)):=hid (by rw[xQ aX,Hr.out]);have b0:=hc 0 _ rfl;have b1:=hc 1 _ rfl;have b2:=hc 2 _ rfl;simp only[xK]at b0;have aC:g1<w.heap.size:=xH w _ b0;have b0:=(HL.out.bel.cell aC).trans b0;have b1:=(HL.out.bel.cell aC).trans b1;have b2:=(HL.out.bel.cell aC).trans b2;have i11:(k:Int)<(n3:Int):=by omega
   clear hc HU Hr;obtain⟨T,HT⟩:∃ T,Hid (Chk.order x ra=T):=⟨_,hid rfl⟩;have HI1:Hid (Chk.dB ((Chk.ak ((T,rn)::((x.sagas.drop (k+1)).flatMap λg=>[(Chk.order x g.arg,g.name)])),240)::[(Chk.ak (Chk.cZ x),241),(Chk.ak (Chk.dH x),133)])=R):=hid (by have h:=HI.out;rw[HDk.out,yJ]at h;rw[<-HT.out];exact h);clear HI;have dS:∀ w',Bl V1 w'->Bk w' w.heap.size 28 #[.string x.name,.slice A1 n1 c1,.slice A2 n2 c2,.slice (some ⟨g1,off1,none⟩) n3 c3]:=λw' hb=>HL.out.box.below hb HL.out.box.lt
   have dQ3:=λ(w':World) (hb:Bl V1 w')=>(Bk.k4 (HL.out.box.below hb HL.out.box.lt)).1.2.2.2
   have dA1:∀ w',Bl V1 w'->w'.cell? _=_:=λw' hb=>(hb.cell (Nat.lt_of_lt_of_le aC HL.out.bel.size)).trans b1
   have HVV:=hid (Id.ay.below HL.out.bel HV.out);have hcall:∀ W,Bl V1 W->Calls Tryz.prog 251 #[.agg #[.string x.name,.slice A1 n1 c1,.slice A2 n2 c2,.slice (some ⟨g1,off1,none⟩) n3 c3],.string ra] W λe w'=>e=.returned (.bool T)/\Bl V1 w':=λW hW=>by have h:=fG hW (Ah _ x ra W (Id.ay.below hW HVV.out));rw[HT.out]at h;exact h
   have HC:=hid hcall;clear hcall;go_wp2_with fail;clear b0 b1 b2 q0 q1 q2 q3;refine dI V1 (by kernel_rfl) (by kernel_rfl) (Bl.refl _) ?_;repeat(first|go_big_quiet_step((intro hb;exact HC.out _ hb))|(refine wpQuiet_step (λK hK=>?_);rw[if_pos (by rfl)];refine dw _ _ rfl _ rfl _ _ _ (by assumption) Tryz.underlying28 rfl (by kernel_rfl) ?_;go_simp;refine hK _ ?_;clear hK K)|(refine wpQuiet_step (λK hK=>?_);rw[if_pos (by rfl)];refine Lst.aF _ _ rfl _ rfl _ (by assumption) _ Tryz.underlying26 rfl ?_;go_simp;refine hK _ ?_;clear hK K)|(refine wpQuiet_step (λK hK=>?_);rw[if_pos (by rfl)];refine Lst.aF _ _ rfl _ rfl _ (by assumption) _ Tryz.underlying9 rfl ?_;go_simp;refine hK _ ?_;clear hK K)|(refine wpQuiet_step (λK hK=>?_);go_simp;refine⟨_,λ_ _=>rfl,hK _ ?_⟩;clear hK K))
   refine wpQuiet_nil ?_;intro w9 hw9;clear dS dQ3 dA1;have HLx:=hid (HL.out.below hw9);cases T
   case false =>
    have HE:Hid (R=(rn,240)):=hid HI1.out.symm;obtain⟨g9,Rx,cs,e9,-,⟨u9,he9,-⟩,hc9⟩:=ah.get H3.out aX (by omega);injection e9 with e9
    injection e9 with e9 e8
    subst e9 e8;rw[aP aX HDk.out]at he9;subst he9;have b0:=hc9 0 _ rfl;simp only[xK]at b0;have b0:=(HLx.out.bel.cell aC).trans b0;obtain⟨⟨q0,q1,q2,q3⟩,-⟩:=HLx.out.box.k4;clear hc9;go_wp2_with fail;go_ret2;exact⟨by rw[HE.out];rfl,HLx.out.bel⟩
   have HI2:Hid (Chk.dB ((Chk.ak ((x.sagas.drop (k+1)).flatMap λg=>[(Chk.order x g.arg,g.name)]),240)::[(Chk.ak (Chk.cZ x),241),(Chk.ak (Chk.dH x),133)])=R):=HI1;go_wp2_with fail;go_roundw
   case rel=>exact⟨k+1,by omega,by go_num,HI2,HLx⟩
   case measure=>simp[intOf]<;>omega
  have HRR:Hid (Chk.dB [(Chk.ak (Chk.cZ x),241),(Chk.ak (Chk.dH x),133)]=R):=hid (by have h:=HI.out;rw[xP (by have:=HN3.out;omega)]at h;exact h);clear HI;obtain⟨o,Ho⟩:∃ o,Hid (Chk.ak (Chk.cZ x)=o):=⟨_,hid rfl⟩;have HRo:Hid (Chk.dB ((o,241)::[(Chk.ak (Chk.dH x),133)])=R):=hid (by rw[<-Ho.out];exact HRR.out);clear HRR;go_wp2_with fail;refine(Gj _ x HF.out _ (Id.ay.below HL.out.bel HV.out)).mono ?_;rw[Ho.out];unfold Chk.kL;rintro e W10⟨rfl,hb⟩;have HLx:=hid (HL.out.below hb);clear HL hb q0 q1 q2 q3;have HL:=HLx;clear HLx;obtain⟨⟨q0,q1,q2,q3⟩,-⟩:=HL.out.box.k4;cases o
  case some s =>
   have HE:Hid (R=(s,241)):=hid HRo.out.symm;simp only[Option.getD_some,Option.isNone_some];go_wp2_with fail;go_ret2;exact⟨by rw[HE.out];rfl,HL.out.bel⟩
  have HRR:Hid (Chk.dB [(Chk.ak (Chk.dH x),133)]=R):=HRo;clear HRo Ho;simp only[Option.getD_none,Option.isNone_none];obtain⟨o,Ho⟩:∃ o,Hid (Chk.ak (Chk.dH x)=o):=⟨_,hid rfl⟩;have HRo:Hid (Chk.dB ((o,133)::[])=R):=hid (by rw[<-Ho.out];exact HRR.out);clear HRR;go_wp2_with fail;refine(EH _ x HF.out _ (Id.ay.below HL.out.bel HV.out)).mono ?_;rw[Ho.out];unfold Chk.kL;rintro e W11⟨rfl,hb⟩;have HLx:=hid (HL.out.below hb);clear HL hb q0 q1 q2 q3;have HL:=HLx;clear HLx;obtain⟨⟨q0,q1,q2,q3⟩,-⟩:=HL.out.box.k4;cases o
  case some s =>
   have HE:Hid (R=(s,133)):=hid HRo.out.symm;simp only[Option.getD_some,Option.isNone_some];go_wp2_with fail;go_ret2;exact⟨by rw[HE.out];rfl,HL.out.bel⟩
  have HRR:Hid (Chk.dB []=R):=HRo;clear HRo Ho;simp only[Option.getD_none,Option.isNone_none];have HE:Hid (R=(⟨#[]⟩,0)):=hid HRR.out.symm;go_wp2_with fail;go_ret2;exact⟨by rw[HE.out];rfl,HL.out.bel⟩
theorem Jj(n:Nat)(hn:n<100)(w:World) :
  Calls Tryz.prog 245 #[.int .i64 n] w λe w'=>e=.returned (.string ⟨(Lib.decDigits n).toArray⟩)/\Below w.heap.size w w':=by
 have i0:(0:Int)<=(n:Int):=by omega
 have i1:(n:Int)<100:=by omega
 have hrun0:=uO (n % 10) (by omega) w;have e0:48+((n % 10:Nat):Int)=48+(n:Int) % 10:=by omega
 rw[e0]at hrun0;obtain⟨c0,Hc0⟩:∃ c,Hid (UInt8.ofNat (48+n % 10)=c):=⟨_,hid rfl⟩;rw[Hc0.out]at hrun0;clear e0;go_enter Tryz.func245,Tryz.ntmps245;go_wp2_with fail;clear hrun0;go_loopw [0,3] (λz b wr=>∃(m:Nat)(S:ByteArray),m<100/\z=.int .i64 m/\b=.string S/\S.size<=2/\Hid ((if m<10 then[]else Lib.decDigits (m / 10))++S.data.toList=Lib.decDigits n)/\Below w.heap.size w wr) (λz _ _=>(intOf z).toNat)
 case atStart=>exact⟨n,_,hn,rfl,rfl,show 1<=2 by decide,hid (by rw[uj n,Hc0.out]),by first|exact(Below.refl _ _).alloc (xB _) _⟩
 case round =>
  obtain⟨m,S,hm,rfl,rfl,hS,HP,hb⟩:=hrel;obtain⟨W1,rfl⟩:∃ w',w'=wr:=⟨_,rfl⟩;have j0:(0:Int)<=(m:Int):=by omega
  have j1:(m:Int)<100:=by omega
  have hz:=hb.size;by_cases h9:9<m
  case neg =>
   have HE:Hid (S=⟨(Lib.decDigits n).toArray⟩):=hid (by
    have h:=HP.out;rw[if_pos (by omega),yI]at h;rw[<-h])
   have j2:¬(9:Int)<(m:Int):=by omega
   go_wp2_with fail;go_ret;exact⟨by rw[HE.out];rfl,hb⟩
  have j2:(9:Int)<(m:Int):=by omega
  have hrun1:=uO (m / 10 % 10) (by omega) W1;have e1:48+((m / 10 % 10:Nat):Int)=48+(m:Int) / 10 % 10:=by omega
  rw[e1]at hrun1;obtain⟨c1,Hc1⟩:∃ c,Hid (UInt8.ofNat (48+m / 10 % 10)=c):=⟨_,hid rfl⟩;rw[Hc1.out]at hrun1;clear e1;have hsz:(9223372036854775807<(⟨#[c1]⟩:ByteArray).size+S.size)=False:=by
   rw[show(⟨#[c1]⟩:ByteArray).size=1 from rfl];simp;omega
  have hsz2:(9223372036854775807<1+S.size)=False:=by simp;omega
  have HP2:Hid ((if m / 10<10 then[]else Lib.decDigits (m / 10 / 10))++((⟨#[c1]⟩:ByteArray)++S).data.toList=Lib.decDigits n):=hid (by
   have h:=HP.out;rw[if_neg (by omega),uj (m / 10),Hc1.out]at h;rw[<-h];simp)
  have hS2:((⟨#[c1]⟩:ByteArray)++S).size<=2:=by
   have h:=congrArg List.length HP2.out;rw[xI]at h;have:=kZ hn;simp only[ByteArray.size]at *;simp at h ⊢;omega
  have e2:((m / 10:Nat):Int)=(m:Int) / 10:=by omega
  have HP3:=HP2;clear HP2 HP;go_wp2_with fail;go_roundw
  case rel=>exact⟨m / 10,_,by omega,by rw[e2],rfl,hS2,HP3,hb.alloc hz _⟩
  case measure=>simp[intOf]<;>omega
theorem CG(k:Nat)(nm:ByteArray)(w:World) :
  Calls Tryz.prog 244 #[.agg #[.int .u8 k,.string nm]] w λe w'=>e=.returned (.string (Prn.bH ⟨k,nm⟩))/\Below w.heap.size w w':=by
 have hb:=(Below.refl w.heap.size w).alloc (xB _) (.cells #[.int .u8 k,.string nm] 44);by_cases h1:k=1
 ·subst h1
  go_enter Tryz.func244,Tryz.ntmps244;go_wp2_with fail;go_ret;exact⟨rfl,hb⟩
 have t1:((k:Int)==1)=false:=by rw[xG];omega
 by_cases h2:k=2
 ·subst h2
  go_enter Tryz.func244,Tryz.ntmps244;go_wp2_with fail;go_ret;exact⟨rfl,hb⟩
 have t2:((k:Int)==2)=false:=by rw[xG];omega
 by_cases h3:k=3
 ·subst h3
  go_enter Tryz.func244,Tryz.ntmps244;go_wp2_with fail;go_ret;exact⟨rfl,hb⟩
 have t3:((k:Int)==3)=false:=by rw[xG];omega
 by_cases h4:k=4
 ·subst h4
  go_enter Tryz.func244,Tryz.ntmps244;go_wp2_with fail;go_ret;exact⟨rfl,hb⟩
 have t4:((k:Int)==4)=false:=by rw[xG];omega
 by_cases h5:k=5
 ·subst h5
  go_enter Tryz.func244,Tryz.ntmps244;go_wp2_with fail;go_ret;exact⟨rfl,hb⟩
 have t5:((k:Int)==5)=false:=by rw[xG];omega
 by_cases h6:k=6
 ·subst h6
  go_enter Tryz.func244,Tryz.ntmps244;go_wp2_with fail;go_ret;exact⟨rfl,hb⟩
 have t6:((k:Int)==6)=false:=by rw[xG];omega
 have HE:Hid (Prn.bH ⟨k,nm⟩=nm):=hid (by unfold Prn.bH;simp only[h1,h2,h3,h4,h5,h6,if_false]);clear h1 h2 h3 h4 h5 h6;go_enter Tryz.func244,Tryz.ntmps244;go_wp2_with fail;go_ret;exact⟨by rw[HE.out];rfl,hb⟩
namespace Prn
open Id Chk
def spL(t:List Srt):List UInt8:=t.flatMap λx=>(bH x).data.toList++[32]
def spB(t:List Srt):ByteArray:=⟨(spL t).toArray⟩
def ext(ws:List ByteArray):List UInt8:=ws.flatMap λu=>32::u.data.toList
theorem Qv(a b:List ByteArray):ext (a++b)=ext a++ext b:=by simp[ext]
theorem ext_cons(a:ByteArray)(b:List ByteArray):ext (a::b)=32::a.data.toList++ext b:=rfl
theorem Na(t:List Srt):ext (t.map bH)++[32]=32::spL t:=by
 unfold ext spL;induction t with
 |nil=>rfl
 |cons x t ih =>
  rw[List.map_cons,yJ,yJ,xU,ih];simp
theorem kT{T:ByteArray}{m:List UInt8}{F:List UInt8}(h:T.data.toList++m=F):T.size+m.length=F.length:=by
 rw[<-h,xI];simp
end Prn
theorem toL(a b:ByteArray):(a++b).data.toList=a.data.toList++b.data.toList:=by simp
theorem wI(v:Value)(t:List Id.Srt)(h12:t.length<=1000)(hsz:∀ x∈t,(Prn.bH x).size<=1000)(w:World)(hv:Id.bG w none v t) :
  Calls Tryz.prog 243 #[v] w λe w'=>e=.returned (.string (Prn.spB t))/\Below w.heap.size w w':=by
 obtain⟨A,n,c,rfl⟩:=ah.is hv;have HN:Hid (n=t.length):=hid (by obtain⟨_,_,e,_⟩:=ah.slice hv;injection e);have hn:n<=1000:=by rw[HN.out];exact h12
 have HV:=hid hv;have HZ:=hid hsz;clear hv hsz h12;go_enter Tryz.func243,Tryz.ntmps243;go_wp2_with fail;go_loopw [4,3] (λi s wr=>∃(k:Nat)(S:ByteArray),k<=n/\i=.int .i64 k/\.string S=s/\S.size<=k * 1001/\Hid (S.data.toList=Prn.spL (t.take k))/\Hid (Below w.heap.size w wr)) (λi _ _=>n - (intOf i).toNat)
 case atStart=>exact⟨0,⟨#[]⟩,by omega,rfl,rfl,Nat.zero_le _,hid rfl,hid (Below.refl _ _)⟩
 case round =>
  obtain⟨k,S,hk,rfl,rfl,hS,HS,HB⟩:=hrel;obtain⟨V,rfl⟩:∃ w',w'=wr:=⟨_,rfl⟩;have ik0:(0:Int)<=(k:Int):=by omega
  by_cases hlt:k<n
  case neg =>
   have HE:Hid (S=Prn.spB t):=hid (by
    have h:=HS.out;rw[yE (by have:=HN.out;omega)]at h;unfold Prn.spB;rw[<-h])
   go_wp2_with fail;go_ret;exact⟨by rw[HE.out];rfl,HB.out⟩
  have hka:k<t.length:=by rw[<-HN.out];exact hlt
  obtain⟨g,off,cs,rfl,-,e1,hc⟩:=ah.get HV.out hka (by omega);have hz:=HZ.out _ (xR hka);have HTK:Hid (Prn.spL (t.take (k+1))=Prn.spL (t.take k)++((Prn.bH t[k]).data.toList++[32])):=hid (by
   unfold Prn.spL;rw[List.take_succ_eq_append_getElem hka,List.flatMap_append];simp)
  obtain⟨⟨xk,xn⟩,Hx⟩:∃ y,Hid (t[k]=y):=⟨_,hid rfl⟩;rw[Hx.out]at e1 hz HTK;unfold Id.gU Id.Srt.cells at e1;subst e1;have a0:=hc 0 _ rfl;have a1:=hc 1 _ rfl;simp only[xK]at a0;have hgl:g<w.heap.size:=xH w _ a0;have a0:=(HB.out.cell hgl).trans a0;have a1:=(HB.out.cell hgl).trans a1;have ik1:(k:Int)<(n:Int):=by omega
  obtain⟨wd,HW⟩:∃ wd,Hid (Prn.bH ⟨xk,xn⟩=wd):=⟨_,hid rfl⟩;rw[HW.out]at hz HTK;have hk3:k * 1001<=1000 * 1001:=Nat.mul_le_mul_right _ (by omega);have z1:(9223372036854775807<S.size+wd.size)=False:=by simp;omega
  have z2:(9223372036854775807<S.size+wd.size+1)=False:=by simp;omega
  have hS2:(S++wd++⟨#[32]⟩).size<=(k+1) * 1001:=by
   have h1:(S++wd++⟨#[32]⟩:ByteArray).size=S.size+wd.size+1:=by simp[ByteArray.size_append];rfl
   rw[h1,Nat.succ_mul];omega
  have HS2:Hid ((S++wd++⟨#[32]⟩:ByteArray).data.toList=Prn.spL (t.take (k+1))):=hid (by
   rw[HTK.out,<-HS.out,toL,toL,xU])
  clear hc Hx hka HS hz hk3;go_wp2_with fail;refine(CG xk xn _).mono ?_;rw[HW.out];rintro e V2⟨rfl,hb⟩;have HB2:=hid (HB.out.trans (hb.mono HB.out.size));clear hb a0 a1;go_wp2_with fail;go_roundw
  case rel=>exact⟨k+1,_,by omega,by go_num,rfl,hS2,HS2,HB2⟩
  case measure=>simp[intOf]<;>omega
