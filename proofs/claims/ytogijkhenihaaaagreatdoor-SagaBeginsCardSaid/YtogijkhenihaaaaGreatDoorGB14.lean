import Derived.Test.YtogijkhenihaaaaGreatDoorGB07
set_option linter.all false
set_option maxRecDepth 100000
set_option maxHeartbeats 0
namespace Go.Proofs.YtogijkhenihaaaaGreatDoor
open Lib (hid)
open Go.BigFrame Go.RowKit
theorem FV(v:Value)(x:Id.Sch)(hF:Chk.Mid x)(f:Nat)(cur:Chk.Flt)(w0 w:World)(hkw:Tk.KW w0)(hv:Id.ay w0 none v x)(hb:Below w0.heap.size w0 w)(hlo:w0.heap.size<=f)(hf:Chk.Fb w f cur) :
  Calls Tryz.prog 42 #[v,.pointer (some ⟨f,0,none⟩)] w λe w'=>e=.returned (.tuple #[])/\w.grownBy w' (some f)/\Chk.Fb w' f (Chk.run 132 (Chk.jE x) cur):=by
 obtain⟨R,HR⟩:∃ R,Hid (Chk.run 132 (Chk.jE x) cur=R):=⟨_,hid rfl⟩;rw[HR.out];have HS:Hid ((Chk.run 132 (x.records.flatMap (Chk.lF x)) cur)=R):=hid (by rw[<-HR.out];unfold Chk.jE;simp only[Chk.run,Chk.jq]);have HV:=hid hv;have HKW:=hid hkw;have dA:=hid hF;obtain⟨A1,n1,c1,A2,n2,c2,A3,n3,c3,rfl,r1,r2,r3⟩:=hv;have hn1:n1=x.records.length:=by obtain⟨_,_,e,_⟩:=ah.slice r1;injection e
 have hn2:n2=x.services.length:=by obtain⟨_,_,e,_⟩:=ah.slice r2;injection e
 have hn3:n3=x.sagas.length:=by obtain⟨_,_,e,_⟩:=ah.slice r3;injection e
 have hm1:n1<=10000:=by rw[hn1];exact hF.recs
 have hm2:n2<=10000:=by rw[hn2];exact hF.kU
 have hm3:n3<=10000:=by rw[hn3];exact hF.kV
 have HN1:=hid hn1;have H1:=hid r1;have HN2:=hid hn2;have H2:=hid r2;have HN3:=hid hn3;have H3:=hid r3;have HF0:=hid hf;have HB0:=hid hb;clear r1 r2 r3 hn1 hn2 hn3 hf hb hkw hF HR;go_enter Tryz.func42,Tryz.ntmps42;go_upto_region 1 with(fail)
 refine aj (λW0 hW0=>?_);have HI:=hid (Chk.In.start HB0.out hlo (Bk.lt HF0.out) hW0);have HFb:=hid (Chk.Fb.start HF0.out hW0);clear hW0;obtain⟨S,bf⟩:∃ S:Array Value,Hid (S=#[.string x.name,.slice A1 n1 c1,.slice A2 n2 c2,.slice A3 n3 c3]):=⟨_,hid rfl⟩;rw[<-bf.out]at HI;obtain⟨⟨q0,q1,q2,q3⟩,-⟩:=(Chk.fC bf.out HI.out _ (Bl.refl _)).k4;go_wp2_with fail;refine(GV _ x (λr hr=>⟨(dA.out.re r hr).1,λf hf=>((dA.out.re r hr).2.2 f hf).2.2⟩) dA.out.recs _ (Id.ay.below HI.out.b0 HV.out)).mono ?_;rintro e X⟨mb,mo,rfl,hbX,hmb,hmk,hvl⟩;have HVL:=hid hvl;have HMK:=hid hmk;have Uz:w0.heap.size<=mb:=xM HI.out.b0.size hmb;have hmf:f<mb:=by have:=HI.out.hi;have:=HI.out.size;omega
 replace HI:=hid (HI.out.below hbX);replace HFb:=hid (HFb.out.below hbX);clear q0 q1 q2 q3 hbX hmk hvl hmb;obtain⟨⟨q0,q1,q2,q3⟩,-⟩:=(Chk.fC bf.out HI.out _ (Bl.refl _)).k4;go_wp2_with fail;clear q0 q1 q2 q3;go_loopw [12] (λi wr=>∃(k:Nat)(cu:Chk.Flt),k<=n1/\i=.int .i64 k/\Hid ((Chk.run 132 (((x.records).drop k).flatMap (Chk.lF x)) cu)=R)/\Hid (Chk.In w0 w wr f S)/\Hid (Chk.Fb wr f cu)/\Hid (Chk.Mrk wr mb mo)) (λi _=>n1 - (intOf i).toNat)
 case atStart=>exact⟨0,_,by omega,rfl,HS,HI,HFb,HMK⟩
 case round =>
  clear HI HFb HMK HS ;obtain⟨k1,cu1,hk1,rfl,HK,HI,HFb,HMK⟩:=hrel;obtain⟨W1,rfl⟩:∃ w',w'=wr:=⟨_,rfl⟩;by_cases hlt1:k1<n1
  case pos =>
   have hka:k1<(x.records).length:=by rw[<-HN1.out];exact hlt1
   obtain⟨g1,off1,cs,rfl,-,he,hc⟩:=ah.get H1.out hka (by omega);have HD:=HK.out;rw[Chk.dY _ _ hka]at HD;have hfi:=dA.out.re _ (xR hka);generalize(x.records)[k1]=r at *;obtain⟨rn,rc,rf⟩:=r;obtain⟨u,rfl,HU⟩:=he;simp only at HU hc HD hfi;obtain⟨A5,n5,c5,rfl⟩:=ah.is HU;have hn5:n5=rf.length:=by obtain⟨_,_,e,_⟩:=ah.slice HU;injection e
   have hm5:n5<=10000:=by rw[hn5];exact xM hfi.2.1 (by decide)
   have HN5:=hid hn5;have H5:=hid HU;clear HU hn5;have bI:=hid hfi;have HD1:=hid HD;have hB:=HI.out.b0;have a0:=hc 0 _ rfl;have a1:=hc 1 _ rfl;have a2:=hc 2 _ rfl;have aC:g1<w0.heap.size:=xH w0 _ a0;have a0:=(hB.cell aC).trans a0;have a1:=(hB.cell aC).trans a1;have a2:=(hB.cell aC).trans a2;simp only[xK]at a0;have i10:(0:Int)<=(k1:Int):=by omega
   have i11:(k1:Int)<(n1:Int):=by omega
   have hbw:=hB.size;have hgw1:¬g1=W1.heap.size:=by omega
   clear hc hB hka HD HK hfi hbw;go_upto_region 5 with(fail)
   refine aj (λV1 hV=>?_);obtain⟨hbV,hqV,-⟩:=au hV;clear hV;replace HI:=hid (HI.out.below hbV);replace HFb:=hid (HFb.out.below hbV);replace HMK:=hid (HMK.out.below hbV);have HQ1:=hid hqV;clear hqV hbV a0 a1 a2;obtain⟨⟨b0,b1,b2⟩,-⟩:=HQ1.out.k3;have hlook:=HMK.out.look rn bI.out.1;rw[HVL.out]at hlook;obtain⟨B,HB⟩:∃ B,Hid (Chk.pz x.records rn=B):=⟨_,hid rfl⟩;rw[HB.out]at hlook;cases B
   case false =>
    go_wp2_with fail;refine(Chk.bP HI.out HFb.out (Below.refl _ _) (_) (_) 132).mono ?_;rintro e X⟨rfl,hg,hi,hf⟩;replace HMK:=hid (HMK.out.kept hg (by intro e;injection e with e;omega));replace HQ1:=hid (Bk.grown HQ1.out hg (Chk.aN HFb.out HQ1.out (by decide)));clear HI HFb;have HI:=hid hi;have HFb:=hid hf;clear hi hf hg;clear b0 b1 b2 hlook;have gX:Hid ((Chk.run 132 (((x.records).drop (k1+1)).flatMap (Chk.lF x)) (Chk.at_ false rn 132 cu1))=R):=hid (by rw[<-HD1.out];unfold Chk.lF;rw[HB.out];rfl);go_wp2_with fail;go_roundw
    case rel=>exact⟨k1+1,_,by omega,by go_num,gX,HI,HFb,HMK⟩
    case measure=>simp[intOf];omega
   case true =>
    go_wp2_with fail;refine(Chk.bP HI.out HFb.out (Below.refl _ _) (_) (_) 132).mono ?_;rintro e X⟨rfl,hg,hi,hf⟩;replace HMK:=hid (HMK.out.kept hg (by intro e;injection e with e;omega));replace HQ1:=hid (Bk.grown HQ1.out hg (Chk.aN HFb.out HQ1.out (by decide)));clear HI HFb;have HI:=hid hi;have HFb:=hid hf;clear hi hf hg;clear b0 b1 b2 hlook;have gX:Hid ((Chk.run 132 (((x.records).drop (k1+1)).flatMap (Chk.lF x)) (Chk.at_ true rn 132 cu1))=R):=hid (by rw[<-HD1.out];unfold Chk.lF;rw[HB.out];rfl);go_wp2_with fail;go_roundw
    case rel=>exact⟨k1+1,_,by omega,by go_num,gX,HI,HFb,HMK⟩
    case measure=>simp[intOf];omega
  have HS1:Hid (cu1=R):=hid (by have h:=HK.out;rw[Chk.dZ _ _ (show(x.records).length<=k1 by rw[<-HN1.out];omega)]at h;exact h);clear HK hk1;go_wp2_with fail;refine bodyPost_end (results_none rfl _ _ _) rfl ?_;exact⟨rfl,HI.out.gb,by rw[<-HS1.out];exact HFb.out⟩
theorem JM(v:Value)(x:Id.Sch)(hF:Chk.Mid x)(f:Nat)(cur:Chk.Flt)(w0 w:World)(hkw:Tk.KW w0)(hv:Id.ay w0 none v x)(hb:Below w0.heap.size w0 w)(hlo:w0.heap.size<=f)(hf:Chk.Fb w f cur) :
  Calls Tryz.prog 46 #[v,.pointer (some ⟨f,0,none⟩)] w λe w'=>e=.returned (.tuple #[])/\w.grownBy w' (some f)/\Chk.Fb w' f (Chk.run 241 (Chk.cZ x) cur):=by
 obtain⟨R,HR⟩:∃ R,Hid (Chk.run 241 (Chk.cZ x) cur=R):=⟨_,hid rfl⟩;rw[HR.out];have HS:Hid ((Chk.run 241 (x.sagas.flatMap (Chk.iT x)) cur)=R):=hid (by rw[<-HR.out];unfold Chk.cZ;simp only[Chk.run,Chk.jq]);have HV:=hid hv;have HKW:=hid hkw;have dA:=hid hF;obtain⟨A1,n1,c1,A2,n2,c2,A3,n3,c3,rfl,r1,r2,r3⟩:=hv;have hn1:n1=x.records.length:=by obtain⟨_,_,e,_⟩:=ah.slice r1;injection e
 have hn2:n2=x.services.length:=by obtain⟨_,_,e,_⟩:=ah.slice r2;injection e
 have hn3:n3=x.sagas.length:=by obtain⟨_,_,e,_⟩:=ah.slice r3;injection e
 have hm1:n1<=10000:=by rw[hn1];exact hF.recs
 have hm2:n2<=10000:=by rw[hn2];exact hF.kU
 have hm3:n3<=10000:=by rw[hn3];exact hF.kV
 have HN1:=hid hn1;have H1:=hid r1;have HN2:=hid hn2;have H2:=hid r2;have HN3:=hid hn3;have H3:=hid r3;have HF0:=hid hf;have HB0:=hid hb;clear r1 r2 r3 hn1 hn2 hn3 hf hb hkw hF HR;go_enter Tryz.func46,Tryz.ntmps46;go_upto_region 1 with(fail)
 refine aj (λW0 hW0=>?_);have HI:=hid (Chk.In.start HB0.out hlo (Bk.lt HF0.out) hW0);have HFb:=hid (Chk.Fb.start HF0.out hW0);clear hW0;obtain⟨S,bf⟩:∃ S:Array Value,Hid (S=#[.string x.name,.slice A1 n1 c1,.slice A2 n2 c2,.slice A3 n3 c3]):=⟨_,hid rfl⟩;rw[<-bf.out]at HI;obtain⟨⟨q0,q1,q2,q3⟩,-⟩:=(Chk.fC bf.out HI.out _ (Bl.refl _)).k4;go_wp2_with fail;clear q0 q1 q2 q3;go_loopw [13] (λi wr=>∃(k:Nat)(cu:Chk.Flt),k<=n3/\i=.int .i64 k/\Hid ((Chk.run 241 (((x.sagas).drop k).flatMap (Chk.iT x)) cu)=R)/\Hid (Chk.In w0 w wr f S)/\Hid (Chk.Fb wr f cu)) (λi _=>n3 - (intOf i).toNat)
 case atStart=>exact⟨0,_,by omega,rfl,HS,HI,HFb⟩
 case round =>
  clear HI HFb HS ;obtain⟨k1,cu1,hk1,rfl,HK,HI,HFb⟩:=hrel;obtain⟨W1,rfl⟩:∃ w',w'=wr:=⟨_,rfl⟩;by_cases hlt1:k1<n3
  case pos =>
   have hka:k1<(x.sagas).length:=by rw[<-HN3.out];exact hlt1
   obtain⟨g1,off1,cs,rfl,-,he,hc⟩:=ah.get H3.out hka (by omega);have HD:=HK.out;rw[Chk.dY _ _ hka]at HD;have hfi:=dA.out.sa _ (xR hka);generalize(x.sagas)[k1]=r at *;obtain⟨rn,ra,rf⟩:=r;obtain⟨u,rfl,HU⟩:=he;simp only at HU hc HD hfi;obtain⟨A5,n5,c5,rfl⟩:=ah.is HU;have hn5:n5=rf.length:=by obtain⟨_,_,e,_⟩:=ah.slice HU;injection e
   have hm5:n5<=10000:=by rw[hn5];exact xM hfi.2.1 (by decide)
   have HN5:=hid hn5;have H5:=hid HU;clear HU hn5;have bI:=hid hfi;have HD1:=hid HD;have hB:=HI.out.b0;have a0:=hc 0 _ rfl;have a1:=hc 1 _ rfl;have a2:=hc 2 _ rfl;have aC:g1<w0.heap.size:=xH w0 _ a0;have a0:=(hB.cell aC).trans a0;have a1:=(hB.cell aC).trans a1;have a2:=(hB.cell aC).trans a2;simp only[xK]at a0;have i10:(0:Int)<=(k1:Int):=by omega
   have i11:(k1:Int)<(n3:Int):=by omega
   have hbw:=hB.size;have hgw1:¬g1=W1.heap.size:=by omega
   clear hc hB hka HD HK hfi hbw;go_upto_region 4 with(fail)
   refine aj (λV1 hV=>?_);obtain⟨hbV,hqV,-⟩:=au hV;clear hV;replace HI:=hid (HI.out.below hbV);replace HFb:=hid (HFb.out.below hbV);have HQ1:=hid hqV;clear hqV hbV a0 a1 a2;obtain⟨⟨b0,b1,b2⟩,-⟩:=HQ1.out.k3;go_wp2_with fail;clear b0 b1 b2;have HSi:Hid ((Chk.run 241 (((x.sagas).drop (k1+1)).flatMap (Chk.iT x)) (Chk.run 241 (rf.zipIdx.flatMap (Chk.iR x rn ra)) cu1))=R):=hid (by first|exact HD1.out|(rw[HN5.out];exact HD1.out));go_loopw [20] (λi wr=>∃(k:Nat)(cu:Chk.Flt),k<=n5/\i=.int .i64 k/\Hid ((Chk.run 241 (((x.sagas).drop (k1+1)).flatMap (Chk.iT x)) (Chk.run 241 (((rf.zipIdx).drop k).flatMap (Chk.iR x rn ra)) cu))=R)/\Hid (Chk.In w0 w wr f S)/\Hid (Chk.Fb wr f cu)/\Hid (Bk wr W1.heap.size 105 #[.string rn,.string ra,.slice A5 n5 c5])) (λi _=>n5 - (intOf i).toNat)
   case atStart=>exact⟨0,_,by omega,rfl,HSi,HI,HFb,HQ1⟩
   case round =>
    clear HI HFb HSi HQ1;obtain⟨k2,cu2,hk2,rfl,HK,HI,HFb,HQ1⟩:=hrel;obtain⟨W2,rfl⟩:∃ w',w'=wr:=⟨_,rfl⟩;by_cases hlt2:k2<n5
    case pos =>
     have hka:k2<(rf).length:=by rw[<-HN5.out];exact hlt2
     obtain⟨g2,off2,cs,rfl,-,he,hc⟩:=ah.get H5.out hka (by omega);have HD:=HK.out;rw[Chk.dY _ _ (show k2<(rf.zipIdx).length by rw[List.length_zipIdx];exact hka),List.getElem_zipIdx,Nat.zero_add]at HD;have hfi:=bI.out.2.2.2 _ (xR hka);generalize(rf)[k2]=r at *;obtain⟨p0,p1,p2⟩:=r;unfold Id.dU Id.Stp.cells at he;subst he;simp only at hc HD hfi;have iQ:=hid hfi;have HD2:=hid HD;have hB:=HI.out.b0;have a0:=hc 0 _ rfl;have a1:=hc 1 _ rfl;have a2:=hc 2 _ rfl;have aH:g2<w0.heap.size:=xH w0 _ a0;have a0:=(hB.cell aH).trans a0;have a1:=(hB.cell aH).trans a1;have a2:=(hB.cell aH).trans a2;simp only[xK]at a0;have i20:(0:Int)<=(k2:Int):=by omega
     have i21:(k2:Int)<(n5:Int):=by omega
     have hbw:=hB.size;have uD:¬g2=W2.heap.size:=by omega
     clear hc hB hka HD HK hfi hbw;go_upto_region 7 with(fail)
     refine aj (λV2 hV=>?_);obtain⟨hbV,hqV,-⟩:=au hV;clear hV;replace HI:=hid (HI.out.below hbV);replace HFb:=hid (HFb.out.below hbV);replace HQ1:=hid (HQ1.out.below hbV HQ1.out.lt);have HQ2:=hid hqV;clear hqV hbV a0 a1 a2;obtain⟨⟨b0,b1,b2⟩,-⟩:=HQ1.out.k3;obtain⟨⟨e0,e1,e2⟩,-⟩:=HQ2.out.k3;obtain⟨⟨q0,q1,q2,q3⟩,-⟩:=(Chk.fC bf.out HI.out _ (Bl.refl _)).k4;go_wp2_with fail;refine(qx _ x p0 p1 _ (Id.ay.below HI.out.b0 HV.out)).mono ?_;rintro e X⟨rfl,hbX⟩;obtain⟨MO,HMO⟩:∃ MO,Hid (Chk.meth x p0 p1=MO):=⟨_,hid rfl⟩;rw[HMO.out];obtain⟨B,HBs⟩:∃ B,Hid (MO.isSome=B):=⟨_,hid rfl⟩;obtain⟨U,HU⟩:∃ U,Hid (MO.getD Chk.oz=U):=⟨_,hid rfl⟩;rw[HBs.out,HU.out];obtain⟨u0,u1,u2,u3,u4⟩:=U;unfold Chk.rV;simp only;replace HI:=hid (HI.out.below hbX);replace HFb:=hid (HFb.out.below hbX);replace HQ1:=hid (HQ1.out.below hbX HQ1.out.lt);replace HQ2:=hid (HQ2.out.below hbX HQ2.out.lt);clear q0 q1 q2 q3 hbX b0 b1 b2 e0 e1 e2;go_upto_region 8 with(fail)
     refine aj (λV3 hV=>?_);obtain⟨hbV,hqV,-⟩:=au hV;clear hV;replace HI:=hid (HI.out.below hbV);replace HFb:=hid (HFb.out.below hbV);replace HQ1:=hid (HQ1.out.below hbV HQ1.out.lt);replace HQ2:=hid (HQ2.out.below hbV HQ2.out.lt);have HQ3:=hid hqV;clear hqV hbV;have HOK:Hid (Chk.ji x ra ⟨p0,p1,p2⟩=(B&&Chk.stepOf ra ⟨p0,p1,p2⟩ ⟨u0,u1,u2,u3,u4⟩)):=hid (by unfold Chk.ji;simp only[HMO.out,<-HU.out,<-HBs.out];cases MO<;>rfl);cases B
     case false =>
      have HLf:Hid (Chk.ji x ra ⟨p0,p1,p2⟩=false):=hid (by rw[HOK.out];simp[Chk.stepOf, *]);have iw:=λ(w':World) (hb:Bl V3 w')=>(Bk.k3 (HQ1.out.below hb HQ1.out.lt)).1.1
      have iq:=λ(w':World) (hb:Bl V3 w')=>(Bk.k3 (HQ1.out.below hb HQ1.out.lt)).1.2.1
      have jB:=λ(w':World) (hb:Bl V3 w')=>(Bk.k3 (HQ1.out.below hb HQ1.out.lt)).1.2.2
      have ig:=λ(w':World) (hb:Bl V3 w')=>(Bk.k3 (HQ2.out.below hb HQ2.out.lt)).1.1
      have gZ:=λ(w':World) (hb:Bl V3 w')=>(Bk.k3 (HQ2.out.below hb HQ2.out.lt)).1.2.1
      have iK:=λ(w':World) (hb:Bl V3 w')=>(Bk.k3 (HQ2.out.below hb HQ2.out.lt)).1.2.2
      have lD:=λ(w':World) (hb:Bl V3 w')=>(Bk.k5 (HQ3.out.below hb HQ3.out.lt)).1.1
      have lC:=λ(w':World) (hb:Bl V3 w')=>(Bk.k5 (HQ3.out.below hb HQ3.out.lt)).1.2.1
      have lu:=λ(w':World) (hb:Bl V3 w')=>(Bk.k5 (HQ3.out.below hb HQ3.out.lt)).1.2.2.1
      have lq:=λ(w':World) (hb:Bl V3 w')=>(Bk.k5 (HQ3.out.below hb HQ3.out.lt)).1.2.2.2.1
      have lg:=λ(w':World) (hb:Bl V3 w')=>(Bk.k5 (HQ3.out.below hb HQ3.out.lt)).1.2.2.2.2
      have hNt:=λ(w':World) (hb:Bl V3 w')=>(show Calls Tryz.prog 114 #[.string rn,.int .i64 k2] w' (λe w''=>e=.returned (.string (Chk.nth rn k2))/\Bl V3 w'')from(mV rn k2 bI.out.1 (by have:=bI.out.2.1;have:=HN5.out;omega) w').mono λ_ _ ⟨he,hw⟩=>⟨he,by rw[hw];exact hb⟩)
      refine Lst.dh V3 (Bl.refl V3) (by simp only[yA,xZ];rfl) (by kernel_rfl) (by kernel_rfl) (by kernel_rfl) rfl ?_;simp only[yC,yB];repeat(first|go_big_quiet_step((intro hb;first|(go_at_call 114;exact hNt _ hb)))  |(refine wpQuiet_step (λK hK=>?_);rw[if_pos (by rfl)];refine Lst.aF _ _ rfl _ rfl _ (by assumption) _ Tryz.underlying9 rfl ?_;go_simp;refine hK _ ?_;clear hK K)|(refine wpQuiet_step (λK hK=>?_);rw[if_pos (by rfl)];refine Lst.aF _ _ rfl _ rfl _ (by assumption) _ Tryz.underlying3 rfl ?_;go_simp;refine hK _ ?_;clear hK K)|(refine wpQuiet_step (λK hK=>?_);go_simp;refine⟨_,λ_ _=>rfl,hK _ ?_⟩;clear hK K))
      refine wpQuiet_nil ?_;intro X1 hX1 K hK;have HAT:=hid (Chk.bP HI.out HFb.out hX1 (false) (Chk.nth rn k2) 241);clear iw iq jB ig gZ iK lD lC lu lq lg hNt;go_simp;refine HAT.out.mono ?_;rintro e X⟨rfl,hg,hi,hf⟩;refine hK _ _ ?_;replace HQ1:=hid (Bk.grown HQ1.out hg (Chk.aN HFb.out HQ1.out (by decide)));replace HQ2:=hid (Bk.grown HQ2.out hg (Chk.aN HFb.out HQ2.out (by decide)));replace HQ3:=hid (Bk.grown HQ3.out hg (Chk.aN HFb.out HQ3.out (by decide)));clear HI HFb;have HI:=hid hi;have HFb:=hid hf;clear hi hf hg;clear hK K HAT;have bV:Hid ((Chk.run 241 (((x.sagas).drop (k1+1)).flatMap (Chk.iT x)) (Chk.run 241 (((rf.zipIdx).drop (k2+1)).flatMap (Chk.iR x rn ra)) (Chk.at_ false (Chk.nth rn k2) 241 cu2)))=R):=hid (by rw[<-HD2.out];unfold Chk.iR;simp only[HLf.out];rfl);go_wp2_with fail;go_roundw
      case rel=>exact⟨k2+1,_,by omega,by go_num,bV,HI,HFb,HQ1⟩
      case measure=>simp[intOf];omega
     case true =>
      cases e1:(u1.toList==ra.toList)
      case false =>
       have HLf:Hid (Chk.ji x ra ⟨p0,p1,p2⟩=false):=hid (by rw[HOK.out];simp[Chk.stepOf, *]);have iw:=λ(w':World) (hb:Bl V3 w')=>(Bk.k3 (HQ1.out.below hb HQ1.out.lt)).1.1
       have iq:=λ(w':World) (hb:Bl V3 w')=>(Bk.k3 (HQ1.out.below hb HQ1.out.lt)).1.2.1
       have jB:=λ(w':World) (hb:Bl V3 w')=>(Bk.k3 (HQ1.out.below hb HQ1.out.lt)).1.2.2
       have ig:=λ(w':World) (hb:Bl V3 w')=>(Bk.k3 (HQ2.out.below hb HQ2.out.lt)).1.1
       have gZ:=λ(w':World) (hb:Bl V3 w')=>(Bk.k3 (HQ2.out.below hb HQ2.out.lt)).1.2.1
       have iK:=λ(w':World) (hb:Bl V3 w')=>(Bk.k3 (HQ2.out.below hb HQ2.out.lt)).1.2.2
       have lD:=λ(w':World) (hb:Bl V3 w')=>(Bk.k5 (HQ3.out.below hb HQ3.out.lt)).1.1
       have lC:=λ(w':World) (hb:Bl V3 w')=>(Bk.k5 (HQ3.out.below hb HQ3.out.lt)).1.2.1
       have lu:=λ(w':World) (hb:Bl V3 w')=>(Bk.k5 (HQ3.out.below hb HQ3.out.lt)).1.2.2.1
       have lq:=λ(w':World) (hb:Bl V3 w')=>(Bk.k5 (HQ3.out.below hb HQ3.out.lt)).1.2.2.2.1
       have lg:=λ(w':World) (hb:Bl V3 w')=>(Bk.k5 (HQ3.out.below hb HQ3.out.lt)).1.2.2.2.2
       have hNt:=λ(w':World) (hb:Bl V3 w')=>(show Calls Tryz.prog 114 #[.string rn,.int .i64 k2] w' (λe w''=>e=.returned (.string (Chk.nth rn k2))/\Bl V3 w'')from(mV rn k2 bI.out.1 (by have:=bI.out.2.1;have:=HN5.out;omega) w').mono λ_ _ ⟨he,hw⟩=>⟨he,by rw[hw];exact hb⟩)
       refine Lst.dh V3 (Bl.refl V3) (by simp only[yA,xZ];rfl) (by kernel_rfl) (by kernel_rfl) (by kernel_rfl) rfl ?_;simp only[yC,yB];repeat(first|go_big_quiet_step((intro hb;first|(go_at_call 114;exact hNt _ hb)))  |(refine wpQuiet_step (λK hK=>?_);rw[if_pos (by rfl)];refine Lst.aF _ _ rfl _ rfl _ (by assumption) _ Tryz.underlying9 rfl ?_;go_simp;refine hK _ ?_;clear hK K)|(refine wpQuiet_step (λK hK=>?_);rw[if_pos (by rfl)];refine Lst.aF _ _ rfl _ rfl _ (by assumption) _ Tryz.underlying3 rfl ?_;go_simp;refine hK _ ?_;clear hK K)|(refine wpQuiet_step (λK hK=>?_);go_simp;refine⟨_,λ_ _=>rfl,hK _ ?_⟩;clear hK K))
       refine wpQuiet_nil ?_;intro X1 hX1 K hK;have HAT:=hid (Chk.bP HI.out HFb.out hX1 (false) (Chk.nth rn k2) 241);clear iw iq jB ig gZ iK lD lC lu lq lg hNt;go_simp;refine HAT.out.mono ?_;rintro e X⟨rfl,hg,hi,hf⟩;refine hK _ _ ?_;replace HQ1:=hid (Bk.grown HQ1.out hg (Chk.aN HFb.out HQ1.out (by decide)));replace HQ2:=hid (Bk.grown HQ2.out hg (Chk.aN HFb.out HQ2.out (by decide)));replace HQ3:=hid (Bk.grown HQ3.out hg (Chk.aN HFb.out HQ3.out (by decide)));clear HI HFb;have HI:=hid hi;have HFb:=hid hf;clear hi hf hg;clear hK K HAT;have bV:Hid ((Chk.run 241 (((x.sagas).drop (k1+1)).flatMap (Chk.iT x)) (Chk.run 241 (((rf.zipIdx).drop (k2+1)).flatMap (Chk.iR x rn ra)) (Chk.at_ false (Chk.nth rn k2) 241 cu2)))=R):=hid (by rw[<-HD2.out];unfold Chk.iR;simp only[HLf.out];rfl);go_wp2_with fail;go_roundw
       case rel=>exact⟨k2+1,_,by omega,by go_num,bV,HI,HFb,HQ1⟩
       case measure=>simp[intOf];omega
      case true =>
       by_cases e2:0<=p2
       case neg =>
        have e2:p2<0:=by omega
        have HLf:Hid (Chk.ji x ra ⟨p0,p1,p2⟩=false):=hid (by rw[HOK.out];simp[Chk.stepOf, *]);have iw:=λ(w':World) (hb:Bl V3 w')=>(Bk.k3 (HQ1.out.below hb HQ1.out.lt)).1.1
        have iq:=λ(w':World) (hb:Bl V3 w')=>(Bk.k3 (HQ1.out.below hb HQ1.out.lt)).1.2.1
        have jB:=λ(w':World) (hb:Bl V3 w')=>(Bk.k3 (HQ1.out.below hb HQ1.out.lt)).1.2.2
        have ig:=λ(w':World) (hb:Bl V3 w')=>(Bk.k3 (HQ2.out.below hb HQ2.out.lt)).1.1
        have gZ:=λ(w':World) (hb:Bl V3 w')=>(Bk.k3 (HQ2.out.below hb HQ2.out.lt)).1.2.1
        have iK:=λ(w':World) (hb:Bl V3 w')=>(Bk.k3 (HQ2.out.below hb HQ2.out.lt)).1.2.2
        have lD:=λ(w':World) (hb:Bl V3 w')=>(Bk.k5 (HQ3.out.below hb HQ3.out.lt)).1.1
        have lC:=λ(w':World) (hb:Bl V3 w')=>(Bk.k5 (HQ3.out.below hb HQ3.out.lt)).1.2.1
        have lu:=λ(w':World) (hb:Bl V3 w')=>(Bk.k5 (HQ3.out.below hb HQ3.out.lt)).1.2.2.1
        have lq:=λ(w':World) (hb:Bl V3 w')=>(Bk.k5 (HQ3.out.below hb HQ3.out.lt)).1.2.2.2.1
        have lg:=λ(w':World) (hb:Bl V3 w')=>(Bk.k5 (HQ3.out.below hb HQ3.out.lt)).1.2.2.2.2
        have hNt:=λ(w':World) (hb:Bl V3 w')=>(show Calls Tryz.prog 114 #[.string rn,.int .i64 k2] w' (λe w''=>e=.returned (.string (Chk.nth rn k2))/\Bl V3 w'')from(mV rn k2 bI.out.1 (by have:=bI.out.2.1;have:=HN5.out;omega) w').mono λ_ _ ⟨he,hw⟩=>⟨he,by rw[hw];exact hb⟩)
        refine Lst.dh V3 (Bl.refl V3) (by simp only[yA,xZ];rfl) (by kernel_rfl) (by kernel_rfl) (by kernel_rfl) rfl ?_;simp only[yC,yB];repeat(first|go_big_quiet_step((intro hb;first|(go_at_call 114;exact hNt _ hb)))  |(refine wpQuiet_step (λK hK=>?_);rw[if_pos (by rfl)];refine Lst.aF _ _ rfl _ rfl _ (by assumption) _ Tryz.underlying9 rfl ?_;go_simp;refine hK _ ?_;clear hK K)|(refine wpQuiet_step (λK hK=>?_);rw[if_pos (by rfl)];refine Lst.aF _ _ rfl _ rfl _ (by assumption) _ Tryz.underlying3 rfl ?_;go_simp;refine hK _ ?_;clear hK K)|(refine wpQuiet_step (λK hK=>?_);go_simp;refine⟨_,λ_ _=>rfl,hK _ ?_⟩;clear hK K))
        refine wpQuiet_nil ?_;intro X1 hX1 K hK;have HAT:=hid (Chk.bP HI.out HFb.out hX1 (false) (Chk.nth rn k2) 241);clear iw iq jB ig gZ iK lD lC lu lq lg hNt;go_simp;refine HAT.out.mono ?_;rintro e X⟨rfl,hg,hi,hf⟩;refine hK _ _ ?_;replace HQ1:=hid (Bk.grown HQ1.out hg (Chk.aN HFb.out HQ1.out (by decide)));replace HQ2:=hid (Bk.grown HQ2.out hg (Chk.aN HFb.out HQ2.out (by decide)));replace HQ3:=hid (Bk.grown HQ3.out hg (Chk.aN HFb.out HQ3.out (by decide)));clear HI HFb;have HI:=hid hi;have HFb:=hid hf;clear hi hf hg;clear hK K HAT;have bV:Hid ((Chk.run 241 (((x.sagas).drop (k1+1)).flatMap (Chk.iT x)) (Chk.run 241 (((rf.zipIdx).drop (k2+1)).flatMap (Chk.iR x rn ra)) (Chk.at_ false (Chk.nth rn k2) 241 cu2)))=R):=hid (by rw[<-HD2.out];unfold Chk.iR;simp only[HLf.out];rfl);go_wp2_with fail;go_roundw
        case rel=>exact⟨k2+1,_,by omega,by go_num,bV,HI,HFb,HQ1⟩
        case measure=>simp[intOf];omega
       case pos =>
        by_cases e3:p2<4
        case neg =>
         have e3:4<=p2:=by omega
         have HLf:Hid (Chk.ji x ra ⟨p0,p1,p2⟩=false):=hid (by rw[HOK.out];simp[Chk.stepOf, *]);have iw:=λ(w':World) (hb:Bl V3 w')=>(Bk.k3 (HQ1.out.below hb HQ1.out.lt)).1.1
         have iq:=λ(w':World) (hb:Bl V3 w')=>(Bk.k3 (HQ1.out.below hb HQ1.out.lt)).1.2.1
         have jB:=λ(w':World) (hb:Bl V3 w')=>(Bk.k3 (HQ1.out.below hb HQ1.out.lt)).1.2.2
         have ig:=λ(w':World) (hb:Bl V3 w')=>(Bk.k3 (HQ2.out.below hb HQ2.out.lt)).1.1
         have gZ:=λ(w':World) (hb:Bl V3 w')=>(Bk.k3 (HQ2.out.below hb HQ2.out.lt)).1.2.1
         have iK:=λ(w':World) (hb:Bl V3 w')=>(Bk.k3 (HQ2.out.below hb HQ2.out.lt)).1.2.2
         have lD:=λ(w':World) (hb:Bl V3 w')=>(Bk.k5 (HQ3.out.below hb HQ3.out.lt)).1.1
         have lC:=λ(w':World) (hb:Bl V3 w')=>(Bk.k5 (HQ3.out.below hb HQ3.out.lt)).1.2.1
         have lu:=λ(w':World) (hb:Bl V3 w')=>(Bk.k5 (HQ3.out.below hb HQ3.out.lt)).1.2.2.1
         have lq:=λ(w':World) (hb:Bl V3 w')=>(Bk.k5 (HQ3.out.below hb HQ3.out.lt)).1.2.2.2.1
         have lg:=λ(w':World) (hb:Bl V3 w')=>(Bk.k5 (HQ3.out.below hb HQ3.out.lt)).1.2.2.2.2
         have hNt:=λ(w':World) (hb:Bl V3 w')=>(show Calls Tryz.prog 114 #[.string rn,.int .i64 k2] w' (λe w''=>e=.returned (.string (Chk.nth rn k2))/\Bl V3 w'')from(mV rn k2 bI.out.1 (by have:=bI.out.2.1;have:=HN5.out;omega) w').mono λ_ _ ⟨he,hw⟩=>⟨he,by rw[hw];exact hb⟩)
         refine Lst.dh V3 (Bl.refl V3) (by simp only[yA,xZ];rfl) (by kernel_rfl) (by kernel_rfl) (by kernel_rfl) rfl ?_;simp only[yC,yB];repeat(first|go_big_quiet_step((intro hb;first|(go_at_call 114;exact hNt _ hb)))  |(refine wpQuiet_step (λK hK=>?_);rw[if_pos (by rfl)];refine Lst.aF _ _ rfl _ rfl _ (by assumption) _ Tryz.underlying9 rfl ?_;go_simp;refine hK _ ?_;clear hK K)|(refine wpQuiet_step (λK hK=>?_);rw[if_pos (by rfl)];refine Lst.aF _ _ rfl _ rfl _ (by assumption) _ Tryz.underlying3 rfl ?_;go_simp;refine hK _ ?_;clear hK K)|(refine wpQuiet_step (λK hK=>?_);go_simp;refine⟨_,λ_ _=>rfl,hK _ ?_⟩;clear hK K))
         refine wpQuiet_nil ?_;intro X1 hX1 K hK;have HAT:=hid (Chk.bP HI.out HFb.out hX1 (false) (Chk.nth rn k2) 241);clear iw iq jB ig gZ iK lD lC lu lq lg hNt;go_simp;refine HAT.out.mono ?_;rintro e X⟨rfl,hg,hi,hf⟩;refine hK _ _ ?_;replace HQ1:=hid (Bk.grown HQ1.out hg (Chk.aN HFb.out HQ1.out (by decide)));replace HQ2:=hid (Bk.grown HQ2.out hg (Chk.aN HFb.out HQ2.out (by decide)));replace HQ3:=hid (Bk.grown HQ3.out hg (Chk.aN HFb.out HQ3.out (by decide)));clear HI HFb;have HI:=hid hi;have HFb:=hid hf;clear hi hf hg;clear hK K HAT;have bV:Hid ((Chk.run 241 (((x.sagas).drop (k1+1)).flatMap (Chk.iT x)) (Chk.run 241 (((rf.zipIdx).drop (k2+1)).flatMap (Chk.iR x rn ra)) (Chk.at_ false (Chk.nth rn k2) 241 cu2)))=R):=hid (by rw[<-HD2.out];unfold Chk.iR;simp only[HLf.out];rfl);go_wp2_with fail;go_roundw
         case rel=>exact⟨k2+1,_,by omega,by go_num,bV,HI,HFb,HQ1⟩
         case measure=>simp[intOf];omega
        case pos =>
         have HLf:Hid (Chk.ji x ra ⟨p0,p1,p2⟩=true):=hid (by rw[HOK.out];simp[Chk.stepOf, *]);have iw:=λ(w':World) (hb:Bl V3 w')=>(Bk.k3 (HQ1.out.below hb HQ1.out.lt)).1.1
         have iq:=λ(w':World) (hb:Bl V3 w')=>(Bk.k3 (HQ1.out.below hb HQ1.out.lt)).1.2.1
         have jB:=λ(w':World) (hb:Bl V3 w')=>(Bk.k3 (HQ1.out.below hb HQ1.out.lt)).1.2.2
         have ig:=λ(w':World) (hb:Bl V3 w')=>(Bk.k3 (HQ2.out.below hb HQ2.out.lt)).1.1
         have gZ:=λ(w':World) (hb:Bl V3 w')=>(Bk.k3 (HQ2.out.below hb HQ2.out.lt)).1.2.1
         have iK:=λ(w':World) (hb:Bl V3 w')=>(Bk.k3 (HQ2.out.below hb HQ2.out.lt)).1.2.2
         have lD:=λ(w':World) (hb:Bl V3 w')=>(Bk.k5 (HQ3.out.below hb HQ3.out.lt)).1.1
         have lC:=λ(w':World) (hb:Bl V3 w')=>(Bk.k5 (HQ3.out.below hb HQ3.out.lt)).1.2.1
         have lu:=λ(w':World) (hb:Bl V3 w')=>(Bk.k5 (HQ3.out.below hb HQ3.out.lt)).1.2.2.1
         have lq:=λ(w':World) (hb:Bl V3 w')=>(Bk.k5 (HQ3.out.below hb HQ3.out.lt)).1.2.2.2.1
         have lg:=λ(w':World) (hb:Bl V3 w')=>(Bk.k5 (HQ3.out.below hb HQ3.out.lt)).1.2.2.2.2
         have hNt:=λ(w':World) (hb:Bl V3 w')=>(show Calls Tryz.prog 114 #[.string rn,.int .i64 k2] w' (λe w''=>e=.returned (.string (Chk.nth rn k2))/\Bl V3 w'')from(mV rn k2 bI.out.1 (by have:=bI.out.2.1;have:=HN5.out;omega) w').mono λ_ _ ⟨he,hw⟩=>⟨he,by rw[hw];exact hb⟩)
         refine Lst.dh V3 (Bl.refl V3) (by simp only[yA,xZ];rfl) (by kernel_rfl) (by kernel_rfl) (by kernel_rfl) rfl ?_;simp only[yC,yB];repeat(first|go_big_quiet_step((intro hb;first|(go_at_call 114;exact hNt _ hb)))  |(refine wpQuiet_step (λK hK=>?_);rw[if_pos (by rfl)];refine Lst.aF _ _ rfl _ rfl _ (by assumption) _ Tryz.underlying9 rfl ?_;go_simp;refine hK _ ?_;clear hK K)|(refine wpQuiet_step (λK hK=>?_);rw[if_pos (by rfl)];refine Lst.aF _ _ rfl _ rfl _ (by assumption) _ Tryz.underlying3 rfl ?_;go_simp;refine hK _ ?_;clear hK K)|(refine wpQuiet_step (λK hK=>?_);go_simp;refine⟨_,λ_ _=>rfl,hK _ ?_⟩;clear hK K))
         refine wpQuiet_nil ?_;intro X1 hX1 K hK;have HAT:=hid (Chk.bP HI.out HFb.out hX1 (true) (Chk.nth rn k2) 241);clear iw iq jB ig gZ iK lD lC lu lq lg hNt;go_simp;refine HAT.out.mono ?_;rintro e X⟨rfl,hg,hi,hf⟩;refine hK _ _ ?_;replace HQ1:=hid (Bk.grown HQ1.out hg (Chk.aN HFb.out HQ1.out (by decide)));replace HQ2:=hid (Bk.grown HQ2.out hg (Chk.aN HFb.out HQ2.out (by decide)));replace HQ3:=hid (Bk.grown HQ3.out hg (Chk.aN HFb.out HQ3.out (by decide)));clear HI HFb;have HI:=hid hi;have HFb:=hid hf;clear hi hf hg;clear hK K HAT;have bV:Hid ((Chk.run 241 (((x.sagas).drop (k1+1)).flatMap (Chk.iT x)) (Chk.run 241 (((rf.zipIdx).drop (k2+1)).flatMap (Chk.iR x rn ra)) (Chk.at_ true (Chk.nth rn k2) 241 cu2)))=R):=hid (by rw[<-HD2.out];unfold Chk.iR;simp only[HLf.out];rfl);go_wp2_with fail;go_roundw
         case rel=>exact⟨k2+1,_,by omega,by go_num,bV,HI,HFb,HQ1⟩
         case measure=>simp[intOf];omega
    have HS2:Hid ((Chk.run 241 (((x.sagas).drop (k1+1)).flatMap (Chk.iT x)) cu2)=R):=hid (by have h:=HK.out;rw[Chk.dZ _ _ (show(rf.zipIdx).length<=k2 by rw[List.length_zipIdx];rw[<-HN5.out];omega)]at h;exact h);clear HK hk2;have gX:Hid ((Chk.run 241 (((x.sagas).drop (k1+1)).flatMap (Chk.iT x)) cu2)=R):=hid (by exact HS2.out);go_wp2_with fail;go_roundw
    case rel=>exact⟨k1+1,_,by omega,by go_num,gX,HI,HFb⟩
    case measure=>simp[intOf];omega
  have HS1:Hid (cu1=R):=hid (by have h:=HK.out;rw[Chk.dZ _ _ (show(x.sagas).length<=k1 by rw[<-HN3.out];omega)]at h;exact h);clear HK hk1;go_wp2_with fail;refine bodyPost_end (results_none rfl _ _ _) rfl ?_;exact⟨rfl,HI.out.gb,by rw[<-HS1.out];exact HFb.out⟩
theorem Nv(v:Value)(x:Id.Sch)(hF:Chk.Mid x)(f:Nat)(cur:Chk.Flt)(w0 w:World)(hkw:Tk.KW w0)(hv:Id.ay w0 none v x)(hb:Below w0.heap.size w0 w)(hlo:w0.heap.size<=f)(hf:Chk.Fb w f cur) :
  Calls Tryz.prog 47 #[v,.pointer (some ⟨f,0,none⟩)] w λe w'=>e=.returned (.tuple #[])/\w.grownBy w' (some f)/\Chk.Fb w' f (Chk.run 133 (Chk.dH x) cur):=by
 obtain⟨R,HR⟩:∃ R,Hid (Chk.run 133 (Chk.dH x) cur=R):=⟨_,hid rfl⟩;rw[HR.out];have HS:Hid ((Chk.run 133 (x.sagas.flatMap (Chk.jU x)) cur)=R):=hid (by rw[<-HR.out];unfold Chk.dH;simp only[Chk.run,Chk.jq]);have HV:=hid hv;have HKW:=hid hkw;have dA:=hid hF;obtain⟨A1,n1,c1,A2,n2,c2,A3,n3,c3,rfl,r1,r2,r3⟩:=hv;have hn1:n1=x.records.length:=by obtain⟨_,_,e,_⟩:=ah.slice r1;injection e
 have hn2:n2=x.services.length:=by obtain⟨_,_,e,_⟩:=ah.slice r2;injection e
 have hn3:n3=x.sagas.length:=by obtain⟨_,_,e,_⟩:=ah.slice r3;injection e
 have hm1:n1<=10000:=by rw[hn1];exact hF.recs
 have hm2:n2<=10000:=by rw[hn2];exact hF.kU
 have hm3:n3<=10000:=by rw[hn3];exact hF.kV
 have HN1:=hid hn1;have H1:=hid r1;have HN2:=hid hn2;have H2:=hid r2;have HN3:=hid hn3;have H3:=hid r3;have HF0:=hid hf;have HB0:=hid hb;clear r1 r2 r3 hn1 hn2 hn3 hf hb hkw hF HR;go_enter Tryz.func47,Tryz.ntmps47;go_upto_region 1 with(fail)
 refine aj (λW0 hW0=>?_);have HI:=hid (Chk.In.start HB0.out hlo (Bk.lt HF0.out) hW0);have HFb:=hid (Chk.Fb.start HF0.out hW0);clear hW0;obtain⟨S,bf⟩:∃ S:Array Value,Hid (S=#[.string x.name,.slice A1 n1 c1,.slice A2 n2 c2,.slice A3 n3 c3]):=⟨_,hid rfl⟩;rw[<-bf.out]at HI;obtain⟨⟨q0,q1,q2,q3⟩,-⟩:=(Chk.fC bf.out HI.out _ (Bl.refl _)).k4;go_wp2_with fail;clear q0 q1 q2 q3;go_loopw [13] (λi wr=>∃(k:Nat)(cu:Chk.Flt),k<=n3/\i=.int .i64 k/\Hid ((Chk.run 133 (((x.sagas).drop k).flatMap (Chk.jU x)) cu)=R)/\Hid (Chk.In w0 w wr f S)/\Hid (Chk.Fb wr f cu)) (λi _=>n3 - (intOf i).toNat)
 case atStart=>exact⟨0,_,by omega,rfl,HS,HI,HFb⟩
 case round =>
  clear HI HFb HS ;obtain⟨k1,cu1,hk1,rfl,HK,HI,HFb⟩:=hrel;obtain⟨W1,rfl⟩:∃ w',w'=wr:=⟨_,rfl⟩;by_cases hlt1:k1<n3
  case pos =>
   have hka:k1<(x.sagas).length:=by rw[<-HN3.out];exact hlt1
   obtain⟨g1,off1,cs,rfl,-,he,hc⟩:=ah.get H3.out hka (by omega);have HD:=HK.out;rw[Chk.dY _ _ hka]at HD;have hfi:=dA.out.sa _ (xR hka);generalize(x.sagas)[k1]=r at *;obtain⟨rn,ra,rf⟩:=r;obtain⟨u,rfl,HU⟩:=he;simp only at HU hc HD hfi;obtain⟨A5,n5,c5,rfl⟩:=ah.is HU;have hn5:n5=rf.length:=by obtain⟨_,_,e,_⟩:=ah.slice HU;injection e
   have hm5:n5<=10000:=by rw[hn5];exact xM hfi.2.1 (by decide)
   have HN5:=hid hn5;have H5:=hid HU;clear HU hn5;have bI:=hid hfi;have HD1:=hid HD;have hB:=HI.out.b0;have a0:=hc 0 _ rfl;have a1:=hc 1 _ rfl;have a2:=hc 2 _ rfl;have aC:g1<w0.heap.size:=xH w0 _ a0;have a0:=(hB.cell aC).trans a0;have a1:=(hB.cell aC).trans a1;have a2:=(hB.cell aC).trans a2;simp only[xK]at a0;have i10:(0:Int)<=(k1:Int):=by omega
   have i11:(k1:Int)<(n3:Int):=by omega
   have hbw:=hB.size;have hgw1:¬g1=W1.heap.size:=by omega
   clear hc hB hka HD HK hfi hbw;go_upto_region 4 with(fail)
   refine aj (λV1 hV=>?_);obtain⟨hbV,hqV,-⟩:=au hV;clear hV;replace HI:=hid (HI.out.below hbV);replace HFb:=hid (HFb.out.below hbV);have HQ1:=hid hqV;clear hqV hbV a0 a1 a2;obtain⟨⟨b0,b1,b2⟩,-⟩:=HQ1.out.k3;go_wp2_with fail;clear b0 b1 b2;have HSi:Hid ((Chk.run 133 (((x.sagas).drop (k1+1)).flatMap (Chk.jU x)) (Chk.run 133 (rf.zipIdx.flatMap (Chk.lS x rn n5)) cu1))=R):=hid (by first|exact HD1.out|(rw[HN5.out];exact HD1.out));go_loopw [20] (λi wr=>∃(k:Nat)(cu:Chk.Flt),k<=n5/\i=.int .i64 k/\Hid ((Chk.run 133 (((x.sagas).drop (k1+1)).flatMap (Chk.jU x)) (Chk.run 133 (((rf.zipIdx).drop k).flatMap (Chk.lS x rn n5)) cu))=R)/\Hid (Chk.In w0 w wr f S)/\Hid (Chk.Fb wr f cu)/\Hid (Bk wr W1.heap.size 105 #[.string rn,.string ra,.slice A5 n5 c5])) (λi _=>n5 - (intOf i).toNat)
   case atStart=>exact⟨0,_,by omega,rfl,HSi,HI,HFb,HQ1⟩
   case round =>
    clear HI HFb HSi HQ1;obtain⟨k2,cu2,hk2,rfl,HK,HI,HFb,HQ1⟩:=hrel;obtain⟨W2,rfl⟩:∃ w',w'=wr:=⟨_,rfl⟩;by_cases hlt2:k2<n5
    case pos =>
     have hka:k2<(rf).length:=by rw[<-HN5.out];exact hlt2
     obtain⟨g2,off2,cs,rfl,-,he,hc⟩:=ah.get H5.out hka (by omega);have HD:=HK.out;rw[Chk.dY _ _ (show k2<(rf.zipIdx).length by rw[List.length_zipIdx];exact hka),List.getElem_zipIdx,Nat.zero_add]at HD;have hfi:=bI.out.2.2.2 _ (xR hka);generalize(rf)[k2]=r at *;obtain⟨p0,p1,p2⟩:=r;unfold Id.dU Id.Stp.cells at he;subst he;simp only at hc HD hfi;have iQ:=hid hfi;have HD2:=hid HD;have hB:=HI.out.b0;have a0:=hc 0 _ rfl;have a1:=hc 1 _ rfl;have a2:=hc 2 _ rfl;have aH:g2<w0.heap.size:=xH w0 _ a0;have a0:=(hB.cell aH).trans a0;have a1:=(hB.cell aH).trans a1;have a2:=(hB.cell aH).trans a2;simp only[xK]at a0;have i20:(0:Int)<=(k2:Int):=by omega
     have i21:(k2:Int)<(n5:Int):=by omega
     have hbw:=hB.size;have uD:¬g2=W2.heap.size:=by omega
     clear hc hB hka HD HK hfi hbw;go_upto_region 7 with(fail)
     refine aj (λV2 hV=>?_);obtain⟨hbV,hqV,-⟩:=au hV;clear hV;replace HI:=hid (HI.out.below hbV);replace HFb:=hid (HFb.out.below hbV);replace HQ1:=hid (HQ1.out.below hbV HQ1.out.lt);have HQ2:=hid hqV;clear hqV hbV a0 a1 a2;obtain⟨⟨b0,b1,b2⟩,-⟩:=HQ1.out.k3;obtain⟨⟨e0,e1,e2⟩,-⟩:=HQ2.out.k3;obtain⟨⟨q0,q1,q2,q3⟩,-⟩:=(Chk.fC bf.out HI.out _ (Bl.refl _)).k4;go_wp2_with fail;refine(qx _ x p0 p1 _ (Id.ay.below HI.out.b0 HV.out)).mono ?_;rintro e X⟨rfl,hbX⟩;obtain⟨MO,HMO⟩:∃ MO,Hid (Chk.meth x p0 p1=MO):=⟨_,hid rfl⟩;rw[HMO.out];obtain⟨B,HBs⟩:∃ B,Hid (MO.isSome=B):=⟨_,hid rfl⟩;obtain⟨U,HU⟩:∃ U,Hid (MO.getD Chk.oz=U):=⟨_,hid rfl⟩;rw[HBs.out,HU.out];obtain⟨u0,u1,u2,u3,u4⟩:=U;unfold Chk.rV;simp only;replace HI:=hid (HI.out.below hbX);replace HFb:=hid (HFb.out.below hbX);replace HQ1:=hid (HQ1.out.below hbX HQ1.out.lt);replace HQ2:=hid (HQ2.out.below hbX HQ2.out.lt);clear q0 q1 q2 q3 hbX b0 b1 b2 e0 e1 e2;go_upto_region 8 with(fail)
     refine aj (λV3 hV=>?_);obtain⟨hbV,hqV,-⟩:=au hV;clear hV;replace HI:=hid (HI.out.below hbV);replace HFb:=hid (HFb.out.below hbV);replace HQ1:=hid (HQ1.out.below hbV HQ1.out.lt);replace HQ2:=hid (HQ2.out.below hbV HQ2.out.lt);have HQ3:=hid hqV;clear hqV hbV;have HOK:Hid (Chk.qc x n5 (⟨p0,p1,p2⟩,k2)=(k2+1==n5||!u4.toList.isEmpty)):=hid (by unfold Chk.qc;simp only[HMO.out,HU.out]);obtain⟨m5,RN⟩:∃ m5,n5=m5+1:=⟨n5 - 1,by omega⟩;have hwm:IntKind.i64.wrap ((m5:Int))=(m5:Int):=by unfold IntKind.wrap;simp[IntKind.bits,IntKind.signed];omega
     have HM5:=hid RN;clear RN;by_cases e1:k2+1=n5
     case pos =>
      have e1b:((k2:Int)==(m5:Int))=true:=by have:=HM5.out;rw[beq_iff_eq];omega
      have HLf:Hid (Chk.qc x n5 (⟨p0,p1,p2⟩,k2)=true):=hid (by rw[HOK.out];first|(simp only[e2,beq_eq_false_iff_ne.2 e1];rfl)|simp[e1]);have iw:=λ(w':World) (hb:Bl V3 w')=>(Bk.k3 (HQ1.out.below hb HQ1.out.lt)).1.1
      have iq:=λ(w':World) (hb:Bl V3 w')=>(Bk.k3 (HQ1.out.below hb HQ1.out.lt)).1.2.1
      have jB:=λ(w':World) (hb:Bl V3 w')=>(Bk.k3 (HQ1.out.below hb HQ1.out.lt)).1.2.2
      have ig:=λ(w':World) (hb:Bl V3 w')=>(Bk.k3 (HQ2.out.below hb HQ2.out.lt)).1.1
      have gZ:=λ(w':World) (hb:Bl V3 w')=>(Bk.k3 (HQ2.out.below hb HQ2.out.lt)).1.2.1
      have iK:=λ(w':World) (hb:Bl V3 w')=>(Bk.k3 (HQ2.out.below hb HQ2.out.lt)).1.2.2
      have lD:=λ(w':World) (hb:Bl V3 w')=>(Bk.k5 (HQ3.out.below hb HQ3.out.lt)).1.1
      have lC:=λ(w':World) (hb:Bl V3 w')=>(Bk.k5 (HQ3.out.below hb HQ3.out.lt)).1.2.1
      have lu:=λ(w':World) (hb:Bl V3 w')=>(Bk.k5 (HQ3.out.below hb HQ3.out.lt)).1.2.2.1
      have lq:=λ(w':World) (hb:Bl V3 w')=>(Bk.k5 (HQ3.out.below hb HQ3.out.lt)).1.2.2.2.1
      have lg:=λ(w':World) (hb:Bl V3 w')=>(Bk.k5 (HQ3.out.below hb HQ3.out.lt)).1.2.2.2.2
      have hNt:=λ(w':World) (hb:Bl V3 w')=>(show Calls Tryz.prog 114 #[.string rn,.int .i64 k2] w' (λe w''=>e=.returned (.string (Chk.nth rn k2))/\Bl V3 w'')from(mV rn k2 bI.out.1 (by have:=bI.out.2.1;have:=HN5.out;omega) w').mono λ_ _ ⟨he,hw⟩=>⟨he,by rw[hw];exact hb⟩)
      rw[HM5.out]at jB;refine Lst.dh V3 (Bl.refl V3) (by simp only[yA,xZ];rfl) (by kernel_rfl) (by kernel_rfl) (by kernel_rfl) rfl ?_;simp only[yC,yB];repeat(first|go_big_quiet_step((intro hb;first|(go_at_call 114;exact hNt _ hb)))  |(refine wpQuiet_step (λK hK=>?_);rw[if_pos (by rfl)];refine Lst.aF _ _ rfl _ rfl _ (by assumption) _ Tryz.underlying9 rfl ?_;go_simp;refine hK _ ?_;clear hK K)|(refine wpQuiet_step (λK hK=>?_);rw[if_pos (by rfl)];refine Lst.aF _ _ rfl _ rfl _ (by assumption) _ Tryz.underlying103 rfl ?_;go_simp;refine hK _ ?_;clear hK K)|((refine wpQuiet_step (λK hK=>?_);go_simp;refine⟨_,λ_ _=>rfl,hK _ ?_⟩;clear hK K);try rw[hwm]))
      refine wpQuiet_nil ?_;intro X1 hX1 K hK;have HAT:=hid (Chk.bP HI.out HFb.out hX1 (true) (Chk.nth rn k2) 133);clear iw iq jB ig gZ iK lD lC lu lq lg hNt;go_simp;refine HAT.out.mono ?_;rintro e X⟨rfl,hg,hi,hf⟩;refine hK _ _ ?_;replace HQ1:=hid (Bk.grown HQ1.out hg (Chk.aN HFb.out HQ1.out (by decide)));replace HQ2:=hid (Bk.grown HQ2.out hg (Chk.aN HFb.out HQ2.out (by decide)));replace HQ3:=hid (Bk.grown HQ3.out hg (Chk.aN HFb.out HQ3.out (by decide)));clear HI HFb;have HI:=hid hi;have HFb:=hid hf;clear hi hf hg;clear hK K HAT;have bV:Hid ((Chk.run 133 (((x.sagas).drop (k1+1)).flatMap (Chk.jU x)) (Chk.run 133 (((rf.zipIdx).drop (k2+1)).flatMap (Chk.lS x rn n5)) (Chk.at_ true (Chk.nth rn k2) 133 cu2)))=R):=hid (by rw[<-HD2.out];unfold Chk.lS;simp only[HLf.out];rfl);go_wp2_with fail;go_roundw
      case rel=>exact⟨k2+1,_,by omega,by go_num,bV,HI,HFb,HQ1⟩
      case measure=>simp[intOf];omega
     have e1b:((k2:Int)==(m5:Int))=false:=by have:=HM5.out;rw[xG];omega
     cases e2:u4.toList.isEmpty
     case false =>
      have HLf:Hid (Chk.qc x n5 (⟨p0,p1,p2⟩,k2)=true):=hid (by rw[HOK.out];first|(simp only[e2,beq_eq_false_iff_ne.2 e1];rfl)|simp[e1]);have iw:=λ(w':World) (hb:Bl V3 w')=>(Bk.k3 (HQ1.out.below hb HQ1.out.lt)).1.1
      have iq:=λ(w':World) (hb:Bl V3 w')=>(Bk.k3 (HQ1.out.below hb HQ1.out.lt)).1.2.1
      have jB:=λ(w':World) (hb:Bl V3 w')=>(Bk.k3 (HQ1.out.below hb HQ1.out.lt)).1.2.2
      have ig:=λ(w':World) (hb:Bl V3 w')=>(Bk.k3 (HQ2.out.below hb HQ2.out.lt)).1.1
      have gZ:=λ(w':World) (hb:Bl V3 w')=>(Bk.k3 (HQ2.out.below hb HQ2.out.lt)).1.2.1
      have iK:=λ(w':World) (hb:Bl V3 w')=>(Bk.k3 (HQ2.out.below hb HQ2.out.lt)).1.2.2
      have lD:=λ(w':World) (hb:Bl V3 w')=>(Bk.k5 (HQ3.out.below hb HQ3.out.lt)).1.1
      have lC:=λ(w':World) (hb:Bl V3 w')=>(Bk.k5 (HQ3.out.below hb HQ3.out.lt)).1.2.1
      have lu:=λ(w':World) (hb:Bl V3 w')=>(Bk.k5 (HQ3.out.below hb HQ3.out.lt)).1.2.2.1
      have lq:=λ(w':World) (hb:Bl V3 w')=>(Bk.k5 (HQ3.out.below hb HQ3.out.lt)).1.2.2.2.1
      have lg:=λ(w':World) (hb:Bl V3 w')=>(Bk.k5 (HQ3.out.below hb HQ3.out.lt)).1.2.2.2.2
      have hNt:=λ(w':World) (hb:Bl V3 w')=>(show Calls Tryz.prog 114 #[.string rn,.int .i64 k2] w' (λe w''=>e=.returned (.string (Chk.nth rn k2))/\Bl V3 w'')from(mV rn k2 bI.out.1 (by have:=bI.out.2.1;have:=HN5.out;omega) w').mono λ_ _ ⟨he,hw⟩=>⟨he,by rw[hw];exact hb⟩)
      rw[HM5.out]at jB;refine Lst.dh V3 (Bl.refl V3) (by simp only[yA,xZ];rfl) (by kernel_rfl) (by kernel_rfl) (by kernel_rfl) rfl ?_;simp only[yC,yB];repeat(first|go_big_quiet_step((intro hb;first|(go_at_call 114;exact hNt _ hb)))  |(refine wpQuiet_step (λK hK=>?_);rw[if_pos (by rfl)];refine Lst.aF _ _ rfl _ rfl _ (by assumption) _ Tryz.underlying9 rfl ?_;go_simp;refine hK _ ?_;clear hK K)|(refine wpQuiet_step (λK hK=>?_);rw[if_pos (by rfl)];refine Lst.aF _ _ rfl _ rfl _ (by assumption) _ Tryz.underlying103 rfl ?_;go_simp;refine hK _ ?_;clear hK K)|((refine wpQuiet_step (λK hK=>?_);go_simp;refine⟨_,λ_ _=>rfl,hK _ ?_⟩;clear hK K);try rw[hwm]))
      refine wpQuiet_nil ?_;intro X1 hX1 K hK;have HAT:=hid (Chk.bP HI.out HFb.out hX1 (true) (Chk.nth rn k2) 133);clear iw iq jB ig gZ iK lD lC lu lq lg hNt;go_simp;refine HAT.out.mono ?_;rintro e X⟨rfl,hg,hi,hf⟩;refine hK _ _ ?_;replace HQ1:=hid (Bk.grown HQ1.out hg (Chk.aN HFb.out HQ1.out (by decide)));replace HQ2:=hid (Bk.grown HQ2.out hg (Chk.aN HFb.out HQ2.out (by decide)));replace HQ3:=hid (Bk.grown HQ3.out hg (Chk.aN HFb.out HQ3.out (by decide)));clear HI HFb;have HI:=hid hi;have HFb:=hid hf;clear hi hf hg;clear hK K HAT;have bV:Hid ((Chk.run 133 (((x.sagas).drop (k1+1)).flatMap (Chk.jU x)) (Chk.run 133 (((rf.zipIdx).drop (k2+1)).flatMap (Chk.lS x rn n5)) (Chk.at_ true (Chk.nth rn k2) 133 cu2)))=R):=hid (by rw[<-HD2.out];unfold Chk.lS;simp only[HLf.out];rfl);go_wp2_with fail;go_roundw
      case rel=>exact⟨k2+1,_,by omega,by go_num,bV,HI,HFb,HQ1⟩
      case measure=>simp[intOf];omega
     case true =>
      have HLf:Hid (Chk.qc x n5 (⟨p0,p1,p2⟩,k2)=false):=hid (by rw[HOK.out];first|(simp only[e2,beq_eq_false_iff_ne.2 e1];rfl)|simp[e1]);have iw:=λ(w':World) (hb:Bl V3 w')=>(Bk.k3 (HQ1.out.below hb HQ1.out.lt)).1.1
      have iq:=λ(w':World) (hb:Bl V3 w')=>(Bk.k3 (HQ1.out.below hb HQ1.out.lt)).1.2.1
      have jB:=λ(w':World) (hb:Bl V3 w')=>(Bk.k3 (HQ1.out.below hb HQ1.out.lt)).1.2.2
      have ig:=λ(w':World) (hb:Bl V3 w')=>(Bk.k3 (HQ2.out.below hb HQ2.out.lt)).1.1
      have gZ:=λ(w':World) (hb:Bl V3 w')=>(Bk.k3 (HQ2.out.below hb HQ2.out.lt)).1.2.1
      have iK:=λ(w':World) (hb:Bl V3 w')=>(Bk.k3 (HQ2.out.below hb HQ2.out.lt)).1.2.2
      have lD:=λ(w':World) (hb:Bl V3 w')=>(Bk.k5 (HQ3.out.below hb HQ3.out.lt)).1.1
      have lC:=λ(w':World) (hb:Bl V3 w')=>(Bk.k5 (HQ3.out.below hb HQ3.out.lt)).1.2.1
      have lu:=λ(w':World) (hb:Bl V3 w')=>(Bk.k5 (HQ3.out.below hb HQ3.out.lt)).1.2.2.1
      have lq:=λ(w':World) (hb:Bl V3 w')=>(Bk.k5 (HQ3.out.below hb HQ3.out.lt)).1.2.2.2.1
      have lg:=λ(w':World) (hb:Bl V3 w')=>(Bk.k5 (HQ3.out.below hb HQ3.out.lt)).1.2.2.2.2
      have hNt:=λ(w':World) (hb:Bl V3 w')=>(show Calls Tryz.prog 114 #[.string rn,.int .i64 k2] w' (λe w''=>e=.returned (.string (Chk.nth rn k2))/\Bl V3 w'')from(mV rn k2 bI.out.1 (by have:=bI.out.2.1;have:=HN5.out;omega) w').mono λ_ _ ⟨he,hw⟩=>⟨he,by rw[hw];exact hb⟩)
      rw[HM5.out]at jB;refine Lst.dh V3 (Bl.refl V3) (by simp only[yA,xZ];rfl) (by kernel_rfl) (by kernel_rfl) (by kernel_rfl) rfl ?_;simp only[yC,yB];repeat(first|go_big_quiet_step((intro hb;first|(go_at_call 114;exact hNt _ hb)))  |(refine wpQuiet_step (λK hK=>?_);rw[if_pos (by rfl)];refine Lst.aF _ _ rfl _ rfl _ (by assumption) _ Tryz.underlying9 rfl ?_;go_simp;refine hK _ ?_;clear hK K)|(refine wpQuiet_step (λK hK=>?_);rw[if_pos (by rfl)];refine Lst.aF _ _ rfl _ rfl _ (by assumption) _ Tryz.underlying103 rfl ?_;go_simp;refine hK _ ?_;clear hK K)|((refine wpQuiet_step (λK hK=>?_);go_simp;refine⟨_,λ_ _=>rfl,hK _ ?_⟩;clear hK K);try rw[hwm]))
      refine wpQuiet_nil ?_;intro X1 hX1 K hK;have HAT:=hid (Chk.bP HI.out HFb.out hX1 (false) (Chk.nth rn k2) 133);clear iw iq jB ig gZ iK lD lC lu lq lg hNt;go_simp;refine HAT.out.mono ?_;rintro e X⟨rfl,hg,hi,hf⟩;refine hK _ _ ?_;replace HQ1:=hid (Bk.grown HQ1.out hg (Chk.aN HFb.out HQ1.out (by decide)));replace HQ2:=hid (Bk.grown HQ2.out hg (Chk.aN HFb.out HQ2.out (by decide)));replace HQ3:=hid (Bk.grown HQ3.out hg (Chk.aN HFb.out HQ3.out (by decide)));clear HI HFb;have HI:=hid hi;have HFb:=hid hf;clear hi hf hg;clear hK K HAT;have bV:Hid ((Chk.run 133 (((x.sagas).drop (k1+1)).flatMap (Chk.jU x)) (Chk.run 133 (((rf.zipIdx).drop (k2+1)).flatMap (Chk.lS x rn n5)) (Chk.at_ false (Chk.nth rn k2) 133 cu2)))=R):=hid (by rw[<-HD2.out];unfold Chk.lS;simp only[HLf.out];rfl);go_wp2_with fail;go_roundw
      case rel=>exact⟨k2+1,_,by omega,by go_num,bV,HI,HFb,HQ1⟩
      case measure=>simp[intOf];omega
    have HS2:Hid ((Chk.run 133 (((x.sagas).drop (k1+1)).flatMap (Chk.jU x)) cu2)=R):=hid (by have h:=HK.out;rw[Chk.dZ _ _ (show(rf.zipIdx).length<=k2 by rw[List.length_zipIdx];rw[<-HN5.out];omega)]at h;exact h);clear HK hk2;have gX:Hid ((Chk.run 133 (((x.sagas).drop (k1+1)).flatMap (Chk.jU x)) cu2)=R):=hid (by exact HS2.out);go_wp2_with fail;go_roundw
    case rel=>exact⟨k1+1,_,by omega,by go_num,gX,HI,HFb⟩
    case measure=>simp[intOf];omega
  have HS1:Hid (cu1=R):=hid (by have h:=HK.out;rw[Chk.dZ _ _ (show(x.sagas).length<=k1 by rw[<-HN3.out];omega)]at h;exact h);clear HK hk1;go_wp2_with fail;refine bodyPost_end (results_none rfl _ _ _) rfl ?_;exact⟨rfl,HI.out.gb,by rw[<-HS1.out];exact HFb.out⟩
theorem JK(v:Value)(x:Id.Sch)(hF:Chk.Mid x)(f:Nat)(cur:Chk.Flt)(w0 w:World)(hkw:Tk.KW w0)(hv:Id.ay w0 none v x)(hb:Below w0.heap.size w0 w)(hlo:w0.heap.size<=f)(hf:Chk.Fb w f cur) :
  Calls Tryz.prog 44 #[v,.pointer (some ⟨f,0,none⟩)] w λe w'=>e=.returned (.tuple #[])/\w.grownBy w' (some f)/\Chk.Fb w' f (Chk.run 133 (Chk.nM x) cur):=by
 obtain⟨R,HR⟩:∃ R,Hid (Chk.run 133 (Chk.nM x) cur=R):=⟨_,hid rfl⟩;rw[HR.out];have HS:Hid ((Chk.run 133 (x.services.flatMap (Chk.iY x)) cur)=R):=hid (by rw[<-HR.out];unfold Chk.nM;simp only[Chk.run,Chk.jq]);have HV:=hid hv;have HKW:=hid hkw;have dA:=hid hF;obtain⟨A1,n1,c1,A2,n2,c2,A3,n3,c3,rfl,r1,r2,r3⟩:=hv;have hn1:n1=x.records.length:=by obtain⟨_,_,e,_⟩:=ah.slice r1;injection e
 have hn2:n2=x.services.length:=by obtain⟨_,_,e,_⟩:=ah.slice r2;injection e
 have hn3:n3=x.sagas.length:=by obtain⟨_,_,e,_⟩:=ah.slice r3;injection e
 have hm1:n1<=10000:=by rw[hn1];exact hF.recs
 have hm2:n2<=10000:=by rw[hn2];exact hF.kU
 have hm3:n3<=10000:=by rw[hn3];exact hF.kV
 have HN1:=hid hn1;have H1:=hid r1;have HN2:=hid hn2;have H2:=hid r2;have HN3:=hid hn3;have H3:=hid r3;have HF0:=hid hf;have HB0:=hid hb;clear r1 r2 r3 hn1 hn2 hn3 hf hb hkw hF HR;go_enter Tryz.func44,Tryz.ntmps44;go_upto_region 1 with(fail)
 refine aj (λW0 hW0=>?_);have HI:=hid (Chk.In.start HB0.out hlo (Bk.lt HF0.out) hW0);have HFb:=hid (Chk.Fb.start HF0.out hW0);clear hW0;obtain⟨S,bf⟩:∃ S:Array Value,Hid (S=#[.string x.name,.slice A1 n1 c1,.slice A2 n2 c2,.slice A3 n3 c3]):=⟨_,hid rfl⟩;rw[<-bf.out]at HI;obtain⟨⟨q0,q1,q2,q3⟩,-⟩:=(Chk.fC bf.out HI.out _ (Bl.refl _)).k4;go_wp2_with fail;clear q0 q1 q2 q3;go_loopw [13] (λi wr=>∃(k:Nat)(cu:Chk.Flt),k<=n2/\i=.int .i64 k/\Hid ((Chk.run 133 (((x.services).drop k).flatMap (Chk.iY x)) cu)=R)/\Hid (Chk.In w0 w wr f S)/\Hid (Chk.Fb wr f cu)) (λi _=>n2 - (intOf i).toNat)
 case atStart=>exact⟨0,_,by omega,rfl,HS,HI,HFb⟩
 case round =>
  clear HI HFb HS ;obtain⟨k1,cu1,hk1,rfl,HK,HI,HFb⟩:=hrel;obtain⟨W1,rfl⟩:∃ w',w'=wr:=⟨_,rfl⟩;by_cases hlt1:k1<n2
  case pos =>
   have hka:k1<(x.services).length:=by rw[<-HN2.out];exact hlt1
   obtain⟨g1,off1,cs,rfl,-,he,hc⟩:=ah.get H2.out hka (by omega);have HD:=HK.out;rw[Chk.dY _ _ hka]at HD;have hfi:=dA.out.sv _ (xR hka);generalize(x.services)[k1]=r at *;obtain⟨rn,rf⟩:=r;obtain⟨u,rfl,HU⟩:=he;simp only at HU hc HD hfi;obtain⟨A5,n5,c5,rfl⟩:=ah.is HU;have hn5:n5=rf.length:=by obtain⟨_,_,e,_⟩:=ah.slice HU;injection e
   have hm5:n5<=10000:=by rw[hn5];exact xM hfi.2.1 (by decide)
   have HN5:=hid hn5;have H5:=hid HU;clear HU hn5;have bI:=hid hfi;have HD1:=hid HD;have hB:=HI.out.b0;have a0:=hc 0 _ rfl;have a1:=hc 1 _ rfl;have aC:g1<w0.heap.size:=xH w0 _ a0;have a0:=(hB.cell aC).trans a0;have a1:=(hB.cell aC).trans a1;simp only[xK]at a0;have i10:(0:Int)<=(k1:Int):=by omega
   have i11:(k1:Int)<(n2:Int):=by omega
   have hbw:=hB.size;have hgw1:¬g1=W1.heap.size:=by omega
   clear hc hB hka HD HK hfi hbw;go_upto_region 4 with(fail)
   refine aj (λV1 hV=>?_);obtain⟨hbV,hqV,-⟩:=au hV;clear hV;replace HI:=hid (HI.out.below hbV);replace HFb:=hid (HFb.out.below hbV);have HQ1:=hid hqV;clear hqV hbV a0 a1;obtain⟨⟨b0,b1⟩,-⟩:=HQ1.out.k2;go_wp2_with fail;clear b0 b1;have HSi:Hid ((Chk.run 133 (((x.services).drop (k1+1)).flatMap (Chk.iY x)) (Chk.run 133 (rf.flatMap (Chk.dP x rn)) cu1))=R):=hid (by first|exact HD1.out|(rw[HN5.out];exact HD1.out));go_loopw [20] (λi wr=>∃(k:Nat)(cu:Chk.Flt),k<=n5/\i=.int .i64 k/\Hid ((Chk.run 133 (((x.services).drop (k1+1)).flatMap (Chk.iY x)) (Chk.run 133 (((rf).drop k).flatMap (Chk.dP x rn)) cu))=R)/\Hid (Chk.In w0 w wr f S)/\Hid (Chk.Fb wr f cu)/\Hid (Bk wr W1.heap.size 101 #[.string rn,.slice A5 n5 c5])) (λi _=>n5 - (intOf i).toNat)
   case atStart=>exact⟨0,_,by omega,rfl,HSi,HI,HFb,HQ1⟩
   case round =>
    clear HI HFb HSi HQ1;obtain⟨k2,cu2,hk2,rfl,HK,HI,HFb,HQ1⟩:=hrel;obtain⟨W2,rfl⟩:∃ w',w'=wr:=⟨_,rfl⟩;by_cases hlt2:k2<n5
    case pos =>
     have hka:k2<(rf).length:=by rw[<-HN5.out];exact hlt2
     obtain⟨g2,off2,cs,rfl,-,he,hc⟩:=ah.get H5.out hka (by omega);have HD:=HK.out;rw[Chk.dY _ _ hka]at HD;have hfi:=bI.out.2.2 _ (xR hka);generalize(rf)[k2]=r at *;obtain⟨m0,m1,m2,m3,m4⟩:=r;unfold Id.dV Id.Mth.cells at he;subst he;simp only at hc HD hfi;have iQ:=hid hfi;have HD2:=hid HD;have hB:=HI.out.b0;have a0:=hc 0 _ rfl;have a1:=hc 1 _ rfl;have a2:=hc 2 _ rfl;have a3:=hc 3 _ rfl;have a4:=hc 4 _ rfl;have aH:g2<w0.heap.size:=xH w0 _ a0;have a0:=(hB.cell aH).trans a0;have a1:=(hB.cell aH).trans a1;have a2:=(hB.cell aH).trans a2;have a3:=(hB.cell aH).trans a3;have a4:=(hB.cell aH).trans a4;simp only[xK]at a0;have i20:(0:Int)<=(k2:Int):=by omega
     have i21:(k2:Int)<(n5:Int):=by omega
     have hbw:=hB.size;have uD:¬g2=W2.heap.size:=by omega
     clear hc hB hka HD HK hfi hbw;go_upto_region 7 with(fail)
     refine aj (λV2 hV=>?_);obtain⟨hbV,hqV,-⟩:=au hV;clear hV;replace HI:=hid (HI.out.below hbV);replace HFb:=hid (HFb.out.below hbV);replace HQ1:=hid (HQ1.out.below hbV HQ1.out.lt);have HQ2:=hid hqV;clear hqV hbV a0 a1 a2 a3 a4;obtain⟨⟨b0,b1⟩,-⟩:=HQ1.out.k2;obtain⟨⟨e0,e1,e2,e3,e4⟩,-⟩:=HQ2.out.k5;obtain⟨⟨q0,q1,q2,q3⟩,-⟩:=(Chk.fC bf.out HI.out _ (Bl.refl _)).k4;go_wp2_with fail;refine(qx _ x rn m4 _ (Id.ay.below HI.out.b0 HV.out)).mono ?_;rintro e X⟨rfl,hbX⟩;obtain⟨MO,HMO⟩:∃ MO,Hid (Chk.meth x rn m4=MO):=⟨_,hid rfl⟩;rw[HMO.out];obtain⟨B,HBs⟩:∃ B,Hid (MO.isSome=B):=⟨_,hid rfl⟩;obtain⟨U,HU⟩:∃ U,Hid (MO.getD Chk.oz=U):=⟨_,hid rfl⟩;rw[HBs.out,HU.out];obtain⟨u0,u1,u2,u3,u4⟩:=U;unfold Chk.rV;simp only;replace HI:=hid (HI.out.below hbX);replace HFb:=hid (HFb.out.below hbX);replace HQ1:=hid (HQ1.out.below hbX HQ1.out.lt);replace HQ2:=hid (HQ2.out.below hbX HQ2.out.lt);clear q0 q1 q2 q3 hbX b0 b1 e0 e1 e2 e3 e4;go_upto_region 8 with(fail)
     refine aj (λV3 hV=>?_);obtain⟨hbV,hqV,-⟩:=au hV;clear hV;replace HI:=hid (HI.out.below hbV);replace HFb:=hid (HFb.out.below hbV);replace HQ1:=hid (HQ1.out.below hbV HQ1.out.lt);replace HQ2:=hid (HQ2.out.below hbV HQ2.out.lt);have HQ3:=hid hqV;clear hqV hbV;obtain⟨C,HC⟩:∃ C,Hid (Chk.contrary m3=C):=⟨_,hid rfl⟩;have HOK:Hid (Chk.jO x rn ⟨m0,m1,m2,m3,m4⟩=(B&&(u1.toList==m1.toList&&u4.toList.isEmpty&&u2==1&&u3.toList==C.toList))):=hid (by unfold Chk.jO;simp only[HMO.out,<-HU.out,<-HBs.out,<-HC.out];cases MO with|none=>rfl|some uu=>(have hu:uu=⟨u0,u1,u2,u3,u4⟩:=HU.out;subst hu;rfl));have hCt:∀ n,Calls Tryz.prog 111 #[.string m3] (V3.drewN n) (λe w''=>e=.returned (.string C)/\∃ q,w''=V3.drewN q):=λn=>(qU m3 (V3.drewN n)).mono λ_ _ ⟨he,hw⟩=>⟨by rw[<-HC.out];exact he,n,hw⟩
     cases B
     case false =>
      have HLf:Hid (Chk.jO x rn ⟨m0,m1,m2,m3,m4⟩=false):=hid (by rw[HOK.out];simp[*]);obtain⟨⟨b0,b1,b2,b3,b4⟩,-⟩:=HQ2.out.k5;obtain⟨⟨e0,e1,e2,e3,e4⟩,-⟩:=HQ3.out.k5;go_quiet (exact hCt _);clear hCt b0 b1 b2 b3 b4 e0 e1 e2 e3 e4;go_upto_region 9 with(fail)
      refine aj (λV4 hV4=>?_);have hb4:Below V3.heap.size V3 V4:=by rw[hV4];exact below_drewN (Below.refl _ _) nq
      clear hV4;replace HI:=hid (HI.out.below hb4);replace HFb:=hid (HFb.out.below hb4);replace HQ1:=hid (HQ1.out.below hb4 HQ1.out.lt);replace HQ2:=hid (HQ2.out.below hb4 HQ2.out.lt);replace HQ3:=hid (HQ3.out.below hb4 HQ3.out.lt);clear hb4;cases hE:m4.toList.isEmpty
      case false =>
       obtain⟨⟨y0,y1⟩,-⟩:=HQ1.out.k2;obtain⟨⟨b0,b1,b2,b3,b4⟩,-⟩:=HQ2.out.k5;obtain⟨⟨e0,e1,e2,e3,e4⟩,-⟩:=HQ3.out.k5;go_wp2_with fail;refine(dD rn m0 bI.out.1 iQ.out.1 _).mono ?_;rintro e X5⟨rfl,rfl⟩;go_wp2_with fail;refine(Chk.bP HI.out HFb.out (Below.refl _ _) (_) (_) 133).mono ?_;rintro e X⟨rfl,hg,hi,hf⟩;replace HQ1:=hid (Bk.grown HQ1.out hg (Chk.aN HFb.out HQ1.out (by decide)));replace HQ2:=hid (Bk.grown HQ2.out hg (Chk.aN HFb.out HQ2.out (by decide)));replace HQ3:=hid (Bk.grown HQ3.out hg (Chk.aN HFb.out HQ3.out (by decide)));clear HI HFb;have HI:=hid hi;have HFb:=hid hf;clear hi hf hg;clear y0 y1 b0 b1 b2 b3 b4 e0 e1 e2 e3 e4;have bV:Hid ((Chk.run 133 (((x.services).drop (k1+1)).flatMap (Chk.iY x)) (Chk.run 133 (((rf).drop (k2+1)).flatMap (Chk.dP x rn)) (Chk.at_ false (Chk.part rn m0) 133 cu2)))=R):=hid (by rw[<-HD2.out];unfold Chk.dP;simp only[HLf.out,hE];rfl);go_wp2_with fail;go_roundw
       case rel=>exact⟨k2+1,_,by omega,by go_num,bV,HI,HFb,HQ1⟩
       case measure=>simp[intOf];omega
      case true =>
       obtain⟨⟨y0,y1⟩,-⟩:=HQ1.out.k2;obtain⟨⟨b0,b1,b2,b3,b4⟩,-⟩:=HQ2.out.k5;obtain⟨⟨e0,e1,e2,e3,e4⟩,-⟩:=HQ3.out.k5;go_wp2_with fail;refine(dD rn m0 bI.out.1 iQ.out.1 _).mono ?_;rintro e X5⟨rfl,rfl⟩;go_wp2_with fail;refine(Chk.bP HI.out HFb.out (Below.refl _ _) (_) (_) 133).mono ?_;rintro e X⟨rfl,hg,hi,hf⟩;replace HQ1:=hid (Bk.grown HQ1.out hg (Chk.aN HFb.out HQ1.out (by decide)));replace HQ2:=hid (Bk.grown HQ2.out hg (Chk.aN HFb.out HQ2.out (by decide)));replace HQ3:=hid (Bk.grown HQ3.out hg (Chk.aN HFb.out HQ3.out (by decide)));clear HI HFb;have HI:=hid hi;have HFb:=hid hf;clear hi hf hg;clear y0 y1 b0 b1 b2 b3 b4 e0 e1 e2 e3 e4;have bV:Hid ((Chk.run 133 (((x.services).drop (k1+1)).flatMap (Chk.iY x)) (Chk.run 133 (((rf).drop (k2+1)).flatMap (Chk.dP x rn)) (Chk.at_ true (Chk.part rn m0) 133 cu2)))=R):=hid (by rw[<-HD2.out];unfold Chk.dP;simp only[HLf.out,hE];rfl);go_wp2_with fail;go_roundw
       case rel=>exact⟨k2+1,_,by omega,by go_num,bV,HI,HFb,HQ1⟩
       case measure=>simp[intOf];omega
     case true =>
      cases e1:(u1.toList==m1.toList)
      case false =>
       have HLf:Hid (Chk.jO x rn ⟨m0,m1,m2,m3,m4⟩=false):=hid (by rw[HOK.out];simp[*]);obtain⟨⟨b0,b1,b2,b3,b4⟩,-⟩:=HQ2.out.k5;obtain⟨⟨e0,e1,e2,e3,e4⟩,-⟩:=HQ3.out.k5;go_quiet (exact hCt _);clear hCt b0 b1 b2 b3 b4 e0 e1 e2 e3 e4;go_upto_region 9 with(fail)
       refine aj (λV4 hV4=>?_);have hb4:Below V3.heap.size V3 V4:=by rw[hV4];exact below_drewN (Below.refl _ _) nq
       clear hV4;replace HI:=hid (HI.out.below hb4);replace HFb:=hid (HFb.out.below hb4);replace HQ1:=hid (HQ1.out.below hb4 HQ1.out.lt);replace HQ2:=hid (HQ2.out.below hb4 HQ2.out.lt);replace HQ3:=hid (HQ3.out.below hb4 HQ3.out.lt);clear hb4;cases hE:m4.toList.isEmpty
       case false =>
        obtain⟨⟨y0,y1⟩,-⟩:=HQ1.out.k2;obtain⟨⟨b0,b1,b2,b3,b4⟩,-⟩:=HQ2.out.k5;obtain⟨⟨e0,e1,e2,e3,e4⟩,-⟩:=HQ3.out.k5;go_wp2_with fail;refine(dD rn m0 bI.out.1 iQ.out.1 _).mono ?_;rintro e X5⟨rfl,rfl⟩;go_wp2_with fail;refine(Chk.bP HI.out HFb.out (Below.refl _ _) (_) (_) 133).mono ?_;rintro e X⟨rfl,hg,hi,hf⟩;replace HQ1:=hid (Bk.grown HQ1.out hg (Chk.aN HFb.out HQ1.out (by decide)));replace HQ2:=hid (Bk.grown HQ2.out hg (Chk.aN HFb.out HQ2.out (by decide)));replace HQ3:=hid (Bk.grown HQ3.out hg (Chk.aN HFb.out HQ3.out (by decide)));clear HI HFb;have HI:=hid hi;have HFb:=hid hf;clear hi hf hg;clear y0 y1 b0 b1 b2 b3 b4 e0 e1 e2 e3 e4;have bV:Hid ((Chk.run 133 (((x.services).drop (k1+1)).flatMap (Chk.iY x)) (Chk.run 133 (((rf).drop (k2+1)).flatMap (Chk.dP x rn)) (Chk.at_ false (Chk.part rn m0) 133 cu2)))=R):=hid (by rw[<-HD2.out];unfold Chk.dP;simp only[HLf.out,hE];rfl);go_wp2_with fail;go_roundw
        case rel=>exact⟨k2+1,_,by omega,by go_num,bV,HI,HFb,HQ1⟩
        case measure=>simp[intOf];omega
       case true =>
        obtain⟨⟨y0,y1⟩,-⟩:=HQ1.out.k2;obtain⟨⟨b0,b1,b2,b3,b4⟩,-⟩:=HQ2.out.k5;obtain⟨⟨e0,e1,e2,e3,e4⟩,-⟩:=HQ3.out.k5;go_wp2_with fail;refine(dD rn m0 bI.out.1 iQ.out.1 _).mono ?_;rintro e X5⟨rfl,rfl⟩;go_wp2_with fail;refine(Chk.bP HI.out HFb.out (Below.refl _ _) (_) (_) 133).mono ?_;rintro e X⟨rfl,hg,hi,hf⟩;replace HQ1:=hid (Bk.grown HQ1.out hg (Chk.aN HFb.out HQ1.out (by decide)));replace HQ2:=hid (Bk.grown HQ2.out hg (Chk.aN HFb.out HQ2.out (by decide)));replace HQ3:=hid (Bk.grown HQ3.out hg (Chk.aN HFb.out HQ3.out (by decide)));clear HI HFb;have HI:=hid hi;have HFb:=hid hf;clear hi hf hg;clear y0 y1 b0 b1 b2 b3 b4 e0 e1 e2 e3 e4;have bV:Hid ((Chk.run 133 (((x.services).drop (k1+1)).flatMap (Chk.iY x)) (Chk.run 133 (((rf).drop (k2+1)).flatMap (Chk.dP x rn)) (Chk.at_ true (Chk.part rn m0) 133 cu2)))=R):=hid (by rw[<-HD2.out];unfold Chk.dP;simp only[HLf.out,hE];rfl);go_wp2_with fail;go_roundw
        case rel=>exact⟨k2+1,_,by omega,by go_num,bV,HI,HFb,HQ1⟩
        case measure=>simp[intOf];omega
      case true =>
       cases e2:u4.toList.isEmpty
       case false =>
        have HLf:Hid (Chk.jO x rn ⟨m0,m1,m2,m3,m4⟩=false):=hid (by rw[HOK.out];simp[*]);obtain⟨⟨b0,b1,b2,b3,b4⟩,-⟩:=HQ2.out.k5;obtain⟨⟨e0,e1,e2,e3,e4⟩,-⟩:=HQ3.out.k5;go_quiet (exact hCt _);clear hCt b0 b1 b2 b3 b4 e0 e1 e2 e3 e4;go_upto_region 9 with(fail)
        refine aj (λV4 hV4=>?_);have hb4:Below V3.heap.size V3 V4:=by rw[hV4];exact below_drewN (Below.refl _ _) nq
        clear hV4;replace HI:=hid (HI.out.below hb4);replace HFb:=hid (HFb.out.below hb4);replace HQ1:=hid (HQ1.out.below hb4 HQ1.out.lt);replace HQ2:=hid (HQ2.out.below hb4 HQ2.out.lt);replace HQ3:=hid (HQ3.out.below hb4 HQ3.out.lt);clear hb4;cases hE:m4.toList.isEmpty
        case false =>
         obtain⟨⟨y0,y1⟩,-⟩:=HQ1.out.k2;obtain⟨⟨b0,b1,b2,b3,b4⟩,-⟩:=HQ2.out.k5;obtain⟨⟨e0,e1,e2,e3,e4⟩,-⟩:=HQ3.out.k5;go_wp2_with fail;refine(dD rn m0 bI.out.1 iQ.out.1 _).mono ?_;rintro e X5⟨rfl,rfl⟩;go_wp2_with fail;refine(Chk.bP HI.out HFb.out (Below.refl _ _) (_) (_) 133).mono ?_;rintro e X⟨rfl,hg,hi,hf⟩;replace HQ1:=hid (Bk.grown HQ1.out hg (Chk.aN HFb.out HQ1.out (by decide)));replace HQ2:=hid (Bk.grown HQ2.out hg (Chk.aN HFb.out HQ2.out (by decide)));replace HQ3:=hid (Bk.grown HQ3.out hg (Chk.aN HFb.out HQ3.out (by decide)));clear HI HFb;have HI:=hid hi;have HFb:=hid hf;clear hi hf hg;clear y0 y1 b0 b1 b2 b3 b4 e0 e1 e2 e3 e4;have bV:Hid ((Chk.run 133 (((x.services).drop (k1+1)).flatMap (Chk.iY x)) (Chk.run 133 (((rf).drop (k2+1)).flatMap (Chk.dP x rn)) (Chk.at_ false (Chk.part rn m0) 133 cu2)))=R):=hid (by rw[<-HD2.out];unfold Chk.dP;simp only[HLf.out,hE];rfl);go_wp2_with fail;go_roundw
         case rel=>exact⟨k2+1,_,by omega,by go_num,bV,HI,HFb,HQ1⟩
         case measure=>simp[intOf];omega
        case true =>
         obtain⟨⟨y0,y1⟩,-⟩:=HQ1.out.k2;obtain⟨⟨b0,b1,b2,b3,b4⟩,-⟩:=HQ2.out.k5;obtain⟨⟨e0,e1,e2,e3,e4⟩,-⟩:=HQ3.out.k5;go_wp2_with fail;refine(dD rn m0 bI.out.1 iQ.out.1 _).mono ?_;rintro e X5⟨rfl,rfl⟩;go_wp2_with fail;refine(Chk.bP HI.out HFb.out (Below.refl _ _) (_) (_) 133).mono ?_;rintro e X⟨rfl,hg,hi,hf⟩;replace HQ1:=hid (Bk.grown HQ1.out hg (Chk.aN HFb.out HQ1.out (by decide)));replace HQ2:=hid (Bk.grown HQ2.out hg (Chk.aN HFb.out HQ2.out (by decide)));replace HQ3:=hid (Bk.grown HQ3.out hg (Chk.aN HFb.out HQ3.out (by decide)));clear HI HFb;have HI:=hid hi;have HFb:=hid hf;clear hi hf hg;clear y0 y1 b0 b1 b2 b3 b4 e0 e1 e2 e3 e4;have bV:Hid ((Chk.run 133 (((x.services).drop (k1+1)).flatMap (Chk.iY x)) (Chk.run 133 (((rf).drop (k2+1)).flatMap (Chk.dP x rn)) (Chk.at_ true (Chk.part rn m0) 133 cu2)))=R):=hid (by rw[<-HD2.out];unfold Chk.dP;simp only[HLf.out,hE];rfl);go_wp2_with fail;go_roundw
         case rel=>exact⟨k2+1,_,by omega,by go_num,bV,HI,HFb,HQ1⟩
         case measure=>simp[intOf];omega
       case true =>
        by_cases e3:u2=1
        case neg =>
         have e3b:((u2:Int)==1)=false:=by rw[xG];omega
         have HLf:Hid (Chk.jO x rn ⟨m0,m1,m2,m3,m4⟩=false):=hid (by rw[HOK.out];simp[*]);obtain⟨⟨b0,b1,b2,b3,b4⟩,-⟩:=HQ2.out.k5;obtain⟨⟨e0,e1,e2,e3,e4⟩,-⟩:=HQ3.out.k5;go_quiet (exact hCt _);clear hCt b0 b1 b2 b3 b4 e0 e1 e2 e3 e4;go_upto_region 9 with(fail)
         refine aj (λV4 hV4=>?_);have hb4:Below V3.heap.size V3 V4:=by rw[hV4];exact below_drewN (Below.refl _ _) nq
         clear hV4;replace HI:=hid (HI.out.below hb4);replace HFb:=hid (HFb.out.below hb4);replace HQ1:=hid (HQ1.out.below hb4 HQ1.out.lt);replace HQ2:=hid (HQ2.out.below hb4 HQ2.out.lt);replace HQ3:=hid (HQ3.out.below hb4 HQ3.out.lt);clear hb4;cases hE:m4.toList.isEmpty
         case false =>
          obtain⟨⟨y0,y1⟩,-⟩:=HQ1.out.k2;obtain⟨⟨b0,b1,b2,b3,b4⟩,-⟩:=HQ2.out.k5;obtain⟨⟨e0,e1,e2,e3,e4⟩,-⟩:=HQ3.out.k5;go_wp2_with fail;refine(dD rn m0 bI.out.1 iQ.out.1 _).mono ?_;rintro e X5⟨rfl,rfl⟩;go_wp2_with fail;refine(Chk.bP HI.out HFb.out (Below.refl _ _) (_) (_) 133).mono ?_;rintro e X⟨rfl,hg,hi,hf⟩;replace HQ1:=hid (Bk.grown HQ1.out hg (Chk.aN HFb.out HQ1.out (by decide)));replace HQ2:=hid (Bk.grown HQ2.out hg (Chk.aN HFb.out HQ2.out (by decide)));replace HQ3:=hid (Bk.grown HQ3.out hg (Chk.aN HFb.out HQ3.out (by decide)));clear HI HFb;have HI:=hid hi;have HFb:=hid hf;clear hi hf hg;clear y0 y1 b0 b1 b2 b3 b4 e0 e1 e2 e3 e4;have bV:Hid ((Chk.run 133 (((x.services).drop (k1+1)).flatMap (Chk.iY x)) (Chk.run 133 (((rf).drop (k2+1)).flatMap (Chk.dP x rn)) (Chk.at_ false (Chk.part rn m0) 133 cu2)))=R):=hid (by rw[<-HD2.out];unfold Chk.dP;simp only[HLf.out,hE];rfl);go_wp2_with fail;go_roundw
          case rel=>exact⟨k2+1,_,by omega,by go_num,bV,HI,HFb,HQ1⟩
          case measure=>simp[intOf];omega
         case true =>
          obtain⟨⟨y0,y1⟩,-⟩:=HQ1.out.k2;obtain⟨⟨b0,b1,b2,b3,b4⟩,-⟩:=HQ2.out.k5;obtain⟨⟨e0,e1,e2,e3,e4⟩,-⟩:=HQ3.out.k5;go_wp2_with fail;refine(dD rn m0 bI.out.1 iQ.out.1 _).mono ?_;rintro e X5⟨rfl,rfl⟩;go_wp2_with fail;refine(Chk.bP HI.out HFb.out (Below.refl _ _) (_) (_) 133).mono ?_;rintro e X⟨rfl,hg,hi,hf⟩;replace HQ1:=hid (Bk.grown HQ1.out hg (Chk.aN HFb.out HQ1.out (by decide)));replace HQ2:=hid (Bk.grown HQ2.out hg (Chk.aN HFb.out HQ2.out (by decide)));replace HQ3:=hid (Bk.grown HQ3.out hg (Chk.aN HFb.out HQ3.out (by decide)));clear HI HFb;have HI:=hid hi;have HFb:=hid hf;clear hi hf hg;clear y0 y1 b0 b1 b2 b3 b4 e0 e1 e2 e3 e4;have bV:Hid ((Chk.run 133 (((x.services).drop (k1+1)).flatMap (Chk.iY x)) (Chk.run 133 (((rf).drop (k2+1)).flatMap (Chk.dP x rn)) (Chk.at_ true (Chk.part rn m0) 133 cu2)))=R):=hid (by rw[<-HD2.out];unfold Chk.dP;simp only[HLf.out,hE];rfl);go_wp2_with fail;go_roundw
          case rel=>exact⟨k2+1,_,by omega,by go_num,bV,HI,HFb,HQ1⟩
          case measure=>simp[intOf];omega
        case pos =>
         have e3b:((u2:Int)==1)=true:=by rw[beq_iff_eq];omega
         cases e4:(u3.toList==C.toList)
         case false =>
          have HLf:Hid (Chk.jO x rn ⟨m0,m1,m2,m3,m4⟩=false):=hid (by rw[HOK.out];simp[*]);obtain⟨⟨b0,b1,b2,b3,b4⟩,-⟩:=HQ2.out.k5;obtain⟨⟨e0,e1,e2,e3,e4⟩,-⟩:=HQ3.out.k5;go_quiet (exact hCt _);clear hCt b0 b1 b2 b3 b4 e0 e1 e2 e3 e4;go_upto_region 9 with(fail)
          refine aj (λV4 hV4=>?_);have hb4:Below V3.heap.size V3 V4:=by rw[hV4];exact below_drewN (Below.refl _ _) nq
          clear hV4;replace HI:=hid (HI.out.below hb4);replace HFb:=hid (HFb.out.below hb4);replace HQ1:=hid (HQ1.out.below hb4 HQ1.out.lt);replace HQ2:=hid (HQ2.out.below hb4 HQ2.out.lt);replace HQ3:=hid (HQ3.out.below hb4 HQ3.out.lt);clear hb4;cases hE:m4.toList.isEmpty
          case false =>
           obtain⟨⟨y0,y1⟩,-⟩:=HQ1.out.k2;obtain⟨⟨b0,b1,b2,b3,b4⟩,-⟩:=HQ2.out.k5;obtain⟨⟨e0,e1,e2,e3,e4⟩,-⟩:=HQ3.out.k5;go_wp2_with fail;refine(dD rn m0 bI.out.1 iQ.out.1 _).mono ?_;rintro e X5⟨rfl,rfl⟩;go_wp2_with fail;refine(Chk.bP HI.out HFb.out (Below.refl _ _) (_) (_) 133).mono ?_;rintro e X⟨rfl,hg,hi,hf⟩;replace HQ1:=hid (Bk.grown HQ1.out hg (Chk.aN HFb.out HQ1.out (by decide)));replace HQ2:=hid (Bk.grown HQ2.out hg (Chk.aN HFb.out HQ2.out (by decide)));replace HQ3:=hid (Bk.grown HQ3.out hg (Chk.aN HFb.out HQ3.out (by decide)));clear HI HFb;have HI:=hid hi;have HFb:=hid hf;clear hi hf hg;clear y0 y1 b0 b1 b2 b3 b4 e0 e1 e2 e3 e4;have bV:Hid ((Chk.run 133 (((x.services).drop (k1+1)).flatMap (Chk.iY x)) (Chk.run 133 (((rf).drop (k2+1)).flatMap (Chk.dP x rn)) (Chk.at_ false (Chk.part rn m0) 133 cu2)))=R):=hid (by rw[<-HD2.out];unfold Chk.dP;simp only[HLf.out,hE];rfl);go_wp2_with fail;go_roundw
           case rel=>exact⟨k2+1,_,by omega,by go_num,bV,HI,HFb,HQ1⟩
           case measure=>simp[intOf];omega
          case true =>
           obtain⟨⟨y0,y1⟩,-⟩:=HQ1.out.k2;obtain⟨⟨b0,b1,b2,b3,b4⟩,-⟩:=HQ2.out.k5;obtain⟨⟨e0,e1,e2,e3,e4⟩,-⟩:=HQ3.out.k5;go_wp2_with fail;refine(dD rn m0 bI.out.1 iQ.out.1 _).mono ?_;rintro e X5⟨rfl,rfl⟩;go_wp2_with fail;refine(Chk.bP HI.out HFb.out (Below.refl _ _) (_) (_) 133).mono ?_;rintro e X⟨rfl,hg,hi,hf⟩;replace HQ1:=hid (Bk.grown HQ1.out hg (Chk.aN HFb.out HQ1.out (by decide)));replace HQ2:=hid (Bk.grown HQ2.out hg (Chk.aN HFb.out HQ2.out (by decide)));replace HQ3:=hid (Bk.grown HQ3.out hg (Chk.aN HFb.out HQ3.out (by decide)));clear HI HFb;have HI:=hid hi;have HFb:=hid hf;clear hi hf hg;clear y0 y1 b0 b1 b2 b3 b4 e0 e1 e2 e3 e4;have bV:Hid ((Chk.run 133 (((x.services).drop (k1+1)).flatMap (Chk.iY x)) (Chk.run 133 (((rf).drop (k2+1)).flatMap (Chk.dP x rn)) (Chk.at_ true (Chk.part rn m0) 133 cu2)))=R):=hid (by rw[<-HD2.out];unfold Chk.dP;simp only[HLf.out,hE];rfl);go_wp2_with fail;go_roundw
           case rel=>exact⟨k2+1,_,by omega,by go_num,bV,HI,HFb,HQ1⟩
           case measure=>simp[intOf];omega
         case true =>
          have HLf:Hid (Chk.jO x rn ⟨m0,m1,m2,m3,m4⟩=true):=hid (by rw[HOK.out];simp[*]);obtain⟨⟨b0,b1,b2,b3,b4⟩,-⟩:=HQ2.out.k5;obtain⟨⟨e0,e1,e2,e3,e4⟩,-⟩:=HQ3.out.k5;go_quiet (exact hCt _);clear hCt b0 b1 b2 b3 b4 e0 e1 e2 e3 e4;go_upto_region 9 with(fail)
          refine aj (λV4 hV4=>?_);have hb4:Below V3.heap.size V3 V4:=by rw[hV4];exact below_drewN (Below.refl _ _) nq
          clear hV4;replace HI:=hid (HI.out.below hb4);replace HFb:=hid (HFb.out.below hb4);replace HQ1:=hid (HQ1.out.below hb4 HQ1.out.lt);replace HQ2:=hid (HQ2.out.below hb4 HQ2.out.lt);replace HQ3:=hid (HQ3.out.below hb4 HQ3.out.lt);clear hb4;cases hE:m4.toList.isEmpty
          case false =>
           obtain⟨⟨y0,y1⟩,-⟩:=HQ1.out.k2;obtain⟨⟨b0,b1,b2,b3,b4⟩,-⟩:=HQ2.out.k5;obtain⟨⟨e0,e1,e2,e3,e4⟩,-⟩:=HQ3.out.k5;go_wp2_with fail;refine(dD rn m0 bI.out.1 iQ.out.1 _).mono ?_;rintro e X5⟨rfl,rfl⟩;go_wp2_with fail;refine(Chk.bP HI.out HFb.out (Below.refl _ _) (_) (_) 133).mono ?_;rintro e X⟨rfl,hg,hi,hf⟩;replace HQ1:=hid (Bk.grown HQ1.out hg (Chk.aN HFb.out HQ1.out (by decide)));replace HQ2:=hid (Bk.grown HQ2.out hg (Chk.aN HFb.out HQ2.out (by decide)));replace HQ3:=hid (Bk.grown HQ3.out hg (Chk.aN HFb.out HQ3.out (by decide)));clear HI HFb;have HI:=hid hi;have HFb:=hid hf;clear hi hf hg;clear y0 y1 b0 b1 b2 b3 b4 e0 e1 e2 e3 e4;have bV:Hid ((Chk.run 133 (((x.services).drop (k1+1)).flatMap (Chk.iY x)) (Chk.run 133 (((rf).drop (k2+1)).flatMap (Chk.dP x rn)) (Chk.at_ true (Chk.part rn m0) 133 cu2)))=R):=hid (by rw[<-HD2.out];unfold Chk.dP;simp only[HLf.out,hE];rfl);go_wp2_with fail;go_roundw
           case rel=>exact⟨k2+1,_,by omega,by go_num,bV,HI,HFb,HQ1⟩
           case measure=>simp[intOf];omega
          case true =>
           obtain⟨⟨y0,y1⟩,-⟩:=HQ1.out.k2;obtain⟨⟨b0,b1,b2,b3,b4⟩,-⟩:=HQ2.out.k5;obtain⟨⟨e0,e1,e2,e3,e4⟩,-⟩:=HQ3.out.k5;go_wp2_with fail;refine(dD rn m0 bI.out.1 iQ.out.1 _).mono ?_;rintro e X5⟨rfl,rfl⟩;go_wp2_with fail;refine(Chk.bP HI.out HFb.out (Below.refl _ _) (_) (_) 133).mono ?_;rintro e X⟨rfl,hg,hi,hf⟩;replace HQ1:=hid (Bk.grown HQ1.out hg (Chk.aN HFb.out HQ1.out (by decide)));replace HQ2:=hid (Bk.grown HQ2.out hg (Chk.aN HFb.out HQ2.out (by decide)));replace HQ3:=hid (Bk.grown HQ3.out hg (Chk.aN HFb.out HQ3.out (by decide)));clear HI HFb;have HI:=hid hi;have HFb:=hid hf;clear hi hf hg;clear y0 y1 b0 b1 b2 b3 b4 e0 e1 e2 e3 e4;have bV:Hid ((Chk.run 133 (((x.services).drop (k1+1)).flatMap (Chk.iY x)) (Chk.run 133 (((rf).drop (k2+1)).flatMap (Chk.dP x rn)) (Chk.at_ true (Chk.part rn m0) 133 cu2)))=R):=hid (by rw[<-HD2.out];unfold Chk.dP;simp only[HLf.out,hE];rfl);go_wp2_with fail;go_roundw
           case rel=>exact⟨k2+1,_,by omega,by go_num,bV,HI,HFb,HQ1⟩
           case measure=>simp[intOf];omega
    have HS2:Hid ((Chk.run 133 (((x.services).drop (k1+1)).flatMap (Chk.iY x)) cu2)=R):=hid (by have h:=HK.out;rw[Chk.dZ _ _ (show(rf).length<=k2 by rw[<-HN5.out];omega)]at h;exact h);clear HK hk2;have gX:Hid ((Chk.run 133 (((x.services).drop (k1+1)).flatMap (Chk.iY x)) cu2)=R):=hid (by exact HS2.out);go_wp2_with fail;go_roundw
    case rel=>exact⟨k1+1,_,by omega,by go_num,gX,HI,HFb⟩
    case measure=>simp[intOf];omega
  have HS1:Hid (cu1=R):=hid (by have h:=HK.out;rw[Chk.dZ _ _ (show(x.services).length<=k1 by rw[<-HN2.out];omega)]at h;exact h);clear HK hk1;go_wp2_with fail;refine bodyPost_end (results_none rfl _ _ _) rfl ?_;exact⟨rfl,HI.out.gb,by rw[<-HS1.out];exact HFb.out⟩
