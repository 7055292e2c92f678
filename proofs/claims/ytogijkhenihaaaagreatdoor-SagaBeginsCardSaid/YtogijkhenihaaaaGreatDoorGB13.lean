import Derived.Test.YtogijkhenihaaaaGreatDoorGB07
set_option linter.all false
set_option maxRecDepth 100000
set_option maxHeartbeats 0
namespace Go.Proofs.YtogijkhenihaaaaGreatDoor
open Lib (hid)
open Go.BigFrame Go.RowKit
theorem oU(nm:ByteArray)(pb f:Nat)(S:Array Value)(cur:Chk.Flt)(w0 w wr:World)(hkw:Tk.KW w0)(hp:Bk wr pb 89 #[.pointer (some ⟨f,0,none⟩)])(hi:Chk.In w0 w wr f S)(hf:Chk.Fb wr f cur) :
  Calls Tryz.prog 106 #[.string nm,.pointer (some ⟨pb,0,none⟩)] wr λe w''=>e=.returned (.tuple #[])/\wr.grownBy w'' (some f)/\Chk.In w0 w w'' f S/\Chk.Fb w'' f (Chk.at_ (Tk.isName nm) nm 120 cur):=by
 have HI:=hid hi;have HFb:=hid hf;have HKW:=hid hkw;have d0:∀ w',Bl wr w'->w'.cell? ⟨pb,0,none⟩=some (.pointer (some ⟨f,0,none⟩)):=λw' hb=>(hp.below hb hp.lt).cell 0
 have hO:∀ w',Bl wr w'->Calls Tryz.prog 105 #[.string nm] w' λe w''=>e=.returned (.bool (Tk.isName nm))/\Bl wr w'':=λw' hb=>fG hb (name_any nm w' (HKW.out.below (HI.out.b0.trans (Below.mono hb HI.out.b0.size))))
 clear hi hf hkw hp;go_enter Tryz.func106,Tryz.ntmps106;refine Lst.dh wr (Bl.refl wr) (by simp only[yA,xZ];rfl) (by kernel_rfl) (by kernel_rfl) (by kernel_rfl) rfl ?_;simp only[yC,yB];repeat(first|go_big_quiet_step((intro hb;exact hO _ hb))|(refine wpQuiet_step (λK hK=>?_);rw[if_pos (by rfl)];refine Lst.aF _ _ rfl _ rfl _ (by assumption) _ Tryz.underlying89 rfl ?_;go_simp;refine hK _ ?_;clear hK K)|(refine wpQuiet_step (λK hK=>?_);go_simp;refine⟨_,λ_ _=>rfl,hK _ ?_⟩;clear hK K))
 refine wpQuiet_nil ?_;intro X1 hX1 K hK;have HAT:=hid (Chk.bP HI.out HFb.out hX1 (Tk.isName nm) nm 120);clear hO d0;go_simp;refine HAT.out.mono ?_;rintro e X⟨rfl,hg,hi,hf⟩;refine hK _ _ ?_;have HR:=hid hi;have HR2:=hid hf;have HR3:=hid hg;clear hK K hi hf hg HAT;go_wp2_with fail;refine bodyPost_end (results_none rfl _ _ _) rfl ?_;exact⟨rfl,HR3.out,HR.out,HR2.out⟩
theorem GZ(v:Value)(x:Id.Sch)(hF:Chk.BU x)(f:Nat)(cur:Chk.Flt)(w0 w:World)(hkw:Tk.KW w0)(hv:Id.ay w0 none v x)(hb:Below w0.heap.size w0 w)(hlo:w0.heap.size<=f)(hf:Chk.Fb w f cur) :
  Calls Tryz.prog 39 #[v,.pointer (some ⟨f,0,none⟩)] w λe w'=>e=.returned (.tuple #[])/\w.grownBy w' (some f)/\Chk.Fb w' f (Chk.run 135 (Chk.gQ x) cur):=by
 obtain⟨R,HR⟩:∃ R,Hid (Chk.run 135 (Chk.gQ x) cur=R):=⟨_,hid rfl⟩;rw[HR.out];have HS:Hid ((Chk.run 135 (x.sagas.flatMap Chk.dG) (Chk.run 135 (x.services.flatMap Chk.je) (Chk.run 135 (x.records.flatMap Chk.nH) (Chk.at_ (decide ((x.records.length:Int)+x.services.length+x.sagas.length<=64)) ⟨#[]⟩ 135 cur))))=R):=hid (by rw[<-HR.out];unfold Chk.gQ;simp only[Chk.run,Chk.jq]);have HV:=hid hv;have HKW:=hid hkw;have dA:=hid hF;obtain⟨A1,n1,c1,A2,n2,c2,A3,n3,c3,rfl,r1,r2,r3⟩:=hv;have hn1:n1=x.records.length:=by obtain⟨_,_,e,_⟩:=ah.slice r1;injection e
 have hn2:n2=x.services.length:=by obtain⟨_,_,e,_⟩:=ah.slice r2;injection e
 have hn3:n3=x.sagas.length:=by obtain⟨_,_,e,_⟩:=ah.slice r3;injection e
 have hm1:n1<=10000:=by rw[hn1];exact hF.recs
 have hm2:n2<=10000:=by rw[hn2];exact hF.kU
 have hm3:n3<=10000:=by rw[hn3];exact hF.kV
 have HN1:=hid hn1;have H1:=hid r1;have HN2:=hid hn2;have H2:=hid r2;have HN3:=hid hn3;have H3:=hid r3;have HF0:=hid hf;have HB0:=hid hb;clear r1 r2 r3 hn1 hn2 hn3 hf hb hkw hF HR;go_enter Tryz.func39,Tryz.ntmps39;go_upto_region 1 with(fail)
 refine aj (λW0 hW0=>?_);have HI:=hid (Chk.In.start HB0.out hlo (Bk.lt HF0.out) hW0);have HFb:=hid (Chk.Fb.start HF0.out hW0);clear hW0;obtain⟨S,bf⟩:∃ S:Array Value,Hid (S=#[.string x.name,.slice A1 n1 c1,.slice A2 n2 c2,.slice A3 n3 c3]):=⟨_,hid rfl⟩;rw[<-bf.out]at HI;rw[<-HN1.out,<-HN2.out,<-HN3.out]at HS;obtain⟨⟨q0,q1,q2,q3⟩,-⟩:=(Chk.fC bf.out HI.out _ (Bl.refl _)).k4;go_wp2_with fail;refine(Chk.bP HI.out HFb.out (Below.refl _ _) (_) (_) 135).mono ?_;rintro e X⟨rfl,hg,hi,hf⟩;clear HI HFb;have HI:=hid hi;have HFb:=hid hf;clear hi hf hg;clear q0 q1 q2 q3;obtain⟨⟨q0,q1,q2,q3⟩,-⟩:=(Chk.fC bf.out HI.out _ (Bl.refl _)).k4;go_wp2_with fail;clear q0 q1 q2 q3;go_loopw [27] (λi wr=>∃(k:Nat)(cu:Chk.Flt),k<=n1/\i=.int .i64 k/\Hid ((Chk.run 135 (x.sagas.flatMap Chk.dG) (Chk.run 135 (x.services.flatMap Chk.je) (Chk.run 135 (((x.records).drop k).flatMap Chk.nH) cu)))=R)/\Hid (Chk.In w0 w wr f S)/\Hid (Chk.Fb wr f cu)) (λi _=>n1 - (intOf i).toNat)
 case atStart=>exact⟨0,_,by omega,rfl,HS,HI,HFb⟩
 case round =>
  clear HI HFb HS ;obtain⟨k1,cu1,hk1,rfl,HK,HI,HFb⟩:=hrel;obtain⟨W1,rfl⟩:∃ w',w'=wr:=⟨_,rfl⟩;by_cases hlt1:k1<n1
  case pos =>
   have hka:k1<(x.records).length:=by rw[<-HN1.out];exact hlt1
   obtain⟨g1,off1,cs,rfl,-,he,hc⟩:=ah.get H1.out hka (by omega);have HD:=HK.out;rw[Chk.dY _ _ hka]at HD;have hfi:=dA.out.re _ (xR hka);generalize(x.records)[k1]=r at *;obtain⟨rn,rc,rf⟩:=r;obtain⟨u,rfl,HU⟩:=he;simp only at HU hc HD hfi;obtain⟨A5,n5,c5,rfl⟩:=ah.is HU;have hn5:n5=rf.length:=by obtain⟨_,_,e,_⟩:=ah.slice HU;injection e
   have hm5:n5<=10000:=by rw[hn5];exact xM hfi.2.1 (by decide)
   have HN5:=hid hn5;have H5:=hid HU;clear HU hn5;have bI:=hid hfi;have HD1:=hid HD;have hB:=HI.out.b0;have a0:=hc 0 _ rfl;have a1:=hc 1 _ rfl;have a2:=hc 2 _ rfl;have aC:g1<w0.heap.size:=xH w0 _ a0;have a0:=(hB.cell aC).trans a0;have a1:=(hB.cell aC).trans a1;have a2:=(hB.cell aC).trans a2;simp only[xK]at a0;have i10:(0:Int)<=(k1:Int):=by omega
   have i11:(k1:Int)<(n1:Int):=by omega
   have hbw:=hB.size;have hgw1:¬g1=W1.heap.size:=by omega
   clear hc hB hka HD HK hfi hbw;go_upto_region 5 with(fail)
   refine aj (λV1 hV=>?_);obtain⟨hbV,hqV,-⟩:=au hV;clear hV;replace HI:=hid (HI.out.below hbV);replace HFb:=hid (HFb.out.below hbV);have HQ1:=hid hqV;clear hqV hbV a0 a1 a2;obtain⟨⟨b0,b1,b2⟩,-⟩:=HQ1.out.k3;go_wp2_with fail;refine(Chk.bP HI.out HFb.out (Below.refl _ _) (_) (_) 135).mono ?_;rintro e X⟨rfl,hg,hi,hf⟩;replace HQ1:=hid (Bk.grown HQ1.out hg (Chk.aN HFb.out HQ1.out (by decide)));clear HI HFb;have HI:=hid hi;have HFb:=hid hf;clear hi hf hg;clear b0 b1 b2;have gX:Hid ((Chk.run 135 (x.sagas.flatMap Chk.dG) (Chk.run 135 (x.services.flatMap Chk.je) (Chk.run 135 (((x.records).drop (k1+1)).flatMap Chk.nH) (Chk.at_ (decide ((n5:Int)<=16)) rn 135 cu1))))=R):=hid (by rw[<-HD1.out,HN5.out];rfl);go_wp2_with fail;go_roundw
   case rel=>exact⟨k1+1,_,by omega,by go_num,gX,HI,HFb⟩
   case measure=>simp[intOf];omega
  have HS1:Hid ((Chk.run 135 (x.sagas.flatMap Chk.dG) (Chk.run 135 (x.services.flatMap Chk.je) cu1))=R):=hid (by have h:=HK.out;rw[Chk.dZ _ _ (show(x.records).length<=k1 by rw[<-HN1.out];omega)]at h;exact h);clear HK hk1;obtain⟨⟨q0,q1,q2,q3⟩,-⟩:=(Chk.fC bf.out HI.out _ (Bl.refl _)).k4;go_wp2_with fail;clear q0 q1 q2 q3;go_loopw [43] (λi wr=>∃(k:Nat)(cu:Chk.Flt),k<=n2/\i=.int .i64 k/\Hid ((Chk.run 135 (x.sagas.flatMap Chk.dG) (Chk.run 135 (((x.services).drop k).flatMap Chk.je) cu))=R)/\Hid (Chk.In w0 w wr f S)/\Hid (Chk.Fb wr f cu)) (λi _=>n2 - (intOf i).toNat)
  case atStart=>exact⟨0,_,by omega,rfl,HS1,HI,HFb⟩
  case round =>
   clear HI HFb HS1 ;obtain⟨k1,cu1,hk1,rfl,HK,HI,HFb⟩:=hrel;obtain⟨W1,rfl⟩:∃ w',w'=wr:=⟨_,rfl⟩;by_cases hlt1:k1<n2
   case pos =>
    have hka:k1<(x.services).length:=by rw[<-HN2.out];exact hlt1
    obtain⟨g1,off1,cs,rfl,-,he,hc⟩:=ah.get H2.out hka (by omega);have HD:=HK.out;rw[Chk.dY _ _ hka]at HD;have hfi:=dA.out.sv _ (xR hka);generalize(x.services)[k1]=r at *;obtain⟨rn,rf⟩:=r;obtain⟨u,rfl,HU⟩:=he;simp only at HU hc HD hfi;obtain⟨A5,n5,c5,rfl⟩:=ah.is HU;have hn5:n5=rf.length:=by obtain⟨_,_,e,_⟩:=ah.slice HU;injection e
    have hm5:n5<=10000:=by rw[hn5];exact xM hfi.2.1 (by decide)
    have HN5:=hid hn5;have H5:=hid HU;clear HU hn5;have bI:=hid hfi;have HD1:=hid HD;have hB:=HI.out.b0;have a0:=hc 0 _ rfl;have a1:=hc 1 _ rfl;have aC:g1<w0.heap.size:=xH w0 _ a0;have a0:=(hB.cell aC).trans a0;have a1:=(hB.cell aC).trans a1;simp only[xK]at a0;have i10:(0:Int)<=(k1:Int):=by omega
    have i11:(k1:Int)<(n2:Int):=by omega
    have hbw:=hB.size;have hgw1:¬g1=W1.heap.size:=by omega
    clear hc hB hka HD HK hfi hbw;go_upto_region 10 with(fail)
    refine aj (λV1 hV=>?_);obtain⟨hbV,hqV,-⟩:=au hV;clear hV;replace HI:=hid (HI.out.below hbV);replace HFb:=hid (HFb.out.below hbV);have HQ1:=hid hqV;clear hqV hbV a0 a1;obtain⟨⟨b0,b1⟩,-⟩:=HQ1.out.k2;go_wp2_with fail;refine(Chk.bP HI.out HFb.out (Below.refl _ _) (_) (_) 135).mono ?_;rintro e X⟨rfl,hg,hi,hf⟩;replace HQ1:=hid (Bk.grown HQ1.out hg (Chk.aN HFb.out HQ1.out (by decide)));clear HI HFb;have HI:=hid hi;have HFb:=hid hf;clear hi hf hg;clear b0 b1;have gX:Hid ((Chk.run 135 (x.sagas.flatMap Chk.dG) (Chk.run 135 (((x.services).drop (k1+1)).flatMap Chk.je) (Chk.at_ (decide ((n5:Int)<=16)) rn 135 cu1)))=R):=hid (by rw[<-HD1.out,HN5.out];rfl);go_wp2_with fail;go_roundw
    case rel=>exact⟨k1+1,_,by omega,by go_num,gX,HI,HFb⟩
    case measure=>simp[intOf];omega
   have HS1:Hid ((Chk.run 135 (x.sagas.flatMap Chk.dG) cu1)=R):=hid (by have h:=HK.out;rw[Chk.dZ _ _ (show(x.services).length<=k1 by rw[<-HN2.out];omega)]at h;exact h);clear HK hk1;obtain⟨⟨q0,q1,q2,q3⟩,-⟩:=(Chk.fC bf.out HI.out _ (Bl.refl _)).k4;go_wp2_with fail;clear q0 q1 q2 q3;go_loopw [59] (λi wr=>∃(k:Nat)(cu:Chk.Flt),k<=n3/\i=.int .i64 k/\Hid ((Chk.run 135 (((x.sagas).drop k).flatMap Chk.dG) cu)=R)/\Hid (Chk.In w0 w wr f S)/\Hid (Chk.Fb wr f cu)) (λi _=>n3 - (intOf i).toNat)
   case atStart=>exact⟨0,_,by omega,rfl,HS1,HI,HFb⟩
   case round =>
    clear HI HFb HS1 ;obtain⟨k1,cu1,hk1,rfl,HK,HI,HFb⟩:=hrel;obtain⟨W1,rfl⟩:∃ w',w'=wr:=⟨_,rfl⟩;by_cases hlt1:k1<n3
    case pos =>
     have hka:k1<(x.sagas).length:=by rw[<-HN3.out];exact hlt1
     obtain⟨g1,off1,cs,rfl,-,he,hc⟩:=ah.get H3.out hka (by omega);have HD:=HK.out;rw[Chk.dY _ _ hka]at HD;have hfi:=dA.out.sa _ (xR hka);generalize(x.sagas)[k1]=r at *;obtain⟨rn,ra,rf⟩:=r;obtain⟨u,rfl,HU⟩:=he;simp only at HU hc HD hfi;obtain⟨A5,n5,c5,rfl⟩:=ah.is HU;have hn5:n5=rf.length:=by obtain⟨_,_,e,_⟩:=ah.slice HU;injection e
     have hm5:n5<=10000:=by rw[hn5];exact xM hfi.2.1 (by decide)
     have HN5:=hid hn5;have H5:=hid HU;clear HU hn5;have bI:=hid hfi;have HD1:=hid HD;have hB:=HI.out.b0;have a0:=hc 0 _ rfl;have a1:=hc 1 _ rfl;have a2:=hc 2 _ rfl;have aC:g1<w0.heap.size:=xH w0 _ a0;have a0:=(hB.cell aC).trans a0;have a1:=(hB.cell aC).trans a1;have a2:=(hB.cell aC).trans a2;simp only[xK]at a0;have i10:(0:Int)<=(k1:Int):=by omega
     have i11:(k1:Int)<(n3:Int):=by omega
     have hbw:=hB.size;have hgw1:¬g1=W1.heap.size:=by omega
     clear hc hB hka HD HK hfi hbw;go_upto_region 15 with(fail)
     refine aj (λV1 hV=>?_);obtain⟨hbV,hqV,-⟩:=au hV;clear hV;replace HI:=hid (HI.out.below hbV);replace HFb:=hid (HFb.out.below hbV);have HQ1:=hid hqV;clear hqV hbV a0 a1 a2;obtain⟨⟨b0,b1,b2⟩,-⟩:=HQ1.out.k3;by_cases h1:1<=n5
     case pos =>
      go_wp2_with fail;refine(Chk.bP HI.out HFb.out (Below.refl _ _) (_) (_) 135).mono ?_;rintro e X⟨rfl,hg,hi,hf⟩;replace HQ1:=hid (Bk.grown HQ1.out hg (Chk.aN HFb.out HQ1.out (by decide)));clear HI HFb;have HI:=hid hi;have HFb:=hid hf;clear hi hf hg;clear b0 b1 b2;have gX:Hid ((Chk.run 135 (((x.sagas).drop (k1+1)).flatMap Chk.dG) (Chk.at_ (decide ((n5:Int)<=8)) rn 135 cu1))=R):=hid (by rw[<-HD1.out];unfold Chk.dG Chk.run Chk.run;rw[<-HN5.out,decide_eq_true (show(1:Int)<=(n5:Int)by omega)];rfl);go_wp2_with fail;go_roundw
      case rel=>exact⟨k1+1,_,by omega,by go_num,gX,HI,HFb⟩
      case measure=>simp[intOf];omega
     go_wp2_with fail;refine(Chk.bP HI.out HFb.out (Below.refl _ _) (_) (_) 135).mono ?_;rintro e X⟨rfl,hg,hi,hf⟩;replace HQ1:=hid (Bk.grown HQ1.out hg (Chk.aN HFb.out HQ1.out (by decide)));clear HI HFb;have HI:=hid hi;have HFb:=hid hf;clear hi hf hg;clear b0 b1 b2;have gX:Hid ((Chk.run 135 (((x.sagas).drop (k1+1)).flatMap Chk.dG) (Chk.at_ false rn 135 cu1))=R):=hid (by rw[<-HD1.out];unfold Chk.dG Chk.run Chk.run;rw[<-HN5.out,decide_eq_false (show ¬(1:Int)<=(n5:Int)by omega)];rfl);go_wp2_with fail;go_roundw
     case rel=>exact⟨k1+1,_,by omega,by go_num,gX,HI,HFb⟩
     case measure=>simp[intOf];omega
    have HS1:Hid (cu1=R):=hid (by have h:=HK.out;rw[Chk.dZ _ _ (show(x.sagas).length<=k1 by rw[<-HN3.out];omega)]at h;exact h);clear HK hk1;go_wp2_with fail;refine bodyPost_end (results_none rfl _ _ _) rfl ?_;exact⟨rfl,HI.out.gb,by rw[<-HS1.out];exact HFb.out⟩
theorem JW(v:Value)(x:Id.Sch)(hF:Chk.BU x)(f:Nat)(cur:Chk.Flt)(w0 w:World)(hkw:Tk.KW w0)(hv:Id.ay w0 none v x)(hb:Below w0.heap.size w0 w)(hlo:w0.heap.size<=f)(hf:Chk.Fb w f cur) :
  Calls Tryz.prog 38 #[v,.pointer (some ⟨f,0,none⟩)] w λe w'=>e=.returned (.tuple #[])/\w.grownBy w' (some f)/\Chk.Fb w' f (Chk.run 120 (Chk.namesT x) cur):=by
 obtain⟨R,HR⟩:∃ R,Hid (Chk.run 120 (Chk.namesT x) cur=R):=⟨_,hid rfl⟩;rw[HR.out];have HS:Hid ((Chk.run 120 (x.sagas.flatMap Chk.dK) (Chk.run 120 (x.services.flatMap Chk.dQ) (Chk.run 120 (x.records.flatMap Chk.jR) (Chk.at_ (Tk.isName x.name) ⟨#[]⟩ 120 cur))))=R):=hid (by rw[<-HR.out];unfold Chk.namesT;simp only[Chk.run,Chk.jq]);have HV:=hid hv;have HKW:=hid hkw;have dA:=hid hF;obtain⟨A1,n1,c1,A2,n2,c2,A3,n3,c3,rfl,r1,r2,r3⟩:=hv;have hn1:n1=x.records.length:=by obtain⟨_,_,e,_⟩:=ah.slice r1;injection e
 have hn2:n2=x.services.length:=by obtain⟨_,_,e,_⟩:=ah.slice r2;injection e
 have hn3:n3=x.sagas.length:=by obtain⟨_,_,e,_⟩:=ah.slice r3;injection e
 have hm1:n1<=10000:=by rw[hn1];exact hF.recs
 have hm2:n2<=10000:=by rw[hn2];exact hF.kU
 have hm3:n3<=10000:=by rw[hn3];exact hF.kV
 have HN1:=hid hn1;have H1:=hid r1;have HN2:=hid hn2;have H2:=hid r2;have HN3:=hid hn3;have H3:=hid r3;have HF0:=hid hf;have HB0:=hid hb;clear r1 r2 r3 hn1 hn2 hn3 hf hb hkw hF HR;go_enter Tryz.func38,Tryz.ntmps38;go_upto_region 1 with(fail)
 refine aj (λW0 hW0=>?_);obtain⟨Wa,hWa⟩:∃ Wa,Wa=w.alloc (.cells #[.string x.name,.slice A1 n1 c1,.slice A2 n2 c2,.slice A3 n3 c3] 28):=⟨_,rfl⟩;rw[<-hWa]at hW0;have hIa:=Chk.In.start HB0.out hlo (Bk.lt HF0.out) hWa;have hFa:=Chk.Fb.start HF0.out hWa;have hza:Wa.heap.size=w.heap.size+1:=by rw[hWa,World.size_alloc]
 clear hWa;have hW1:W0=Wa.alloc (.cells #[.pointer (some ⟨f,0,none⟩)] 89):=by rw[hW0]
 obtain⟨hbx,hqx,-⟩:=au hW1;rw[hza]at hqx;have HI:=hid (hIa.below hbx);have HFb:=hid (hFa.below hbx);have HX:=hid hqx;clear hW0 hW1 hIa hFa hbx hqx hza;obtain⟨S,bf⟩:∃ S:Array Value,Hid (S=#[.string x.name,.slice A1 n1 c1,.slice A2 n2 c2,.slice A3 n3 c3]):=⟨_,hid rfl⟩;rw[<-bf.out]at HI;have TV:=λ(w':World) (hb:Bl W0 w')=>(Bk.k1 (HX.out.below hb HX.out.lt)).1
 have hN:∀ w',Bl W0 w'->Calls Tryz.prog 105 #[.string x.name] w' λe w''=>e=.returned (.bool (Tk.isName x.name))/\Bl W0 w'':=λw' hb=>fG hb (name_any x.name w' (HKW.out.below (HI.out.b0.trans (Below.mono hb HI.out.b0.size))))
 have hSn:∀ w',Bl W0 w'->w'.cell? ⟨w.heap.size,0,none⟩=some (.string x.name):=λw' hb=>(Chk.fC bf.out HI.out _ hb).cell 0
 refine Lst.dh W0 (Bl.refl W0) (by simp only[yA,xZ];rfl) (by kernel_rfl) (by kernel_rfl) (by kernel_rfl) rfl ?_;simp only[yC,yB];repeat(first|go_big_quiet_step((intro hb;first|(go_at_call 105;exact hN _ hb)))  |(refine wpQuiet_step (λK hK=>?_);rw[if_pos (by rfl)];refine Lst.aF _ _ rfl _ rfl _ (by assumption) _ Tryz.underlying9 rfl ?_;go_simp;refine hK _ ?_;clear hK K)|(refine wpQuiet_step (λK hK=>?_);rw[if_pos (by rfl)];refine Lst.aF _ _ rfl _ rfl _ (by assumption) _ Tryz.underlying89 rfl ?_;go_simp;refine hK _ ?_;clear hK K)|(refine wpQuiet_step (λK hK=>?_);go_simp;refine⟨_,λ_ _=>rfl,hK _ ?_⟩;clear hK K))
 refine wpQuiet_nil ?_;intro X1 hX1 K hK;have HAT:=hid (Chk.bP HI.out HFb.out hX1 (Tk.isName x.name) (⟨#[]⟩) 120);clear TV hN hSn;go_simp;refine HAT.out.mono ?_;rintro e X⟨rfl,hg,hi,hf⟩;refine hK _ _ ?_;replace HX:=hid (Bk.grown HX.out hg (Chk.aN HFb.out HX.out (by decide)));clear HI HFb;have HI:=hid hi;have HFb:=hid hf;clear hi hf hg;clear hK K HAT;obtain⟨⟨q0,q1,q2,q3⟩,-⟩:=(Chk.fC bf.out HI.out _ (Bl.refl _)).k4;go_wp2_with fail;clear q0 q1 q2 q3;go_loopw [24] (λi wr=>∃(k:Nat)(cu:Chk.Flt),k<=n1/\i=.int .i64 k/\Hid ((Chk.run 120 (x.sagas.flatMap Chk.dK) (Chk.run 120 (x.services.flatMap Chk.dQ) (Chk.run 120 (((x.records).drop k).flatMap Chk.jR) cu)))=R)/\Hid (Chk.In w0 w wr f S)/\Hid (Chk.Fb wr f cu)/\Hid (Bk wr (w.heap.size+1) 89 #[.pointer (some ⟨f,0,none⟩)])) (λi _=>n1 - (intOf i).toNat)
 case atStart=>exact⟨0,_,by omega,rfl,HS,HI,HFb,HX⟩
 case round =>
  clear HI HFb HS HX;obtain⟨k1,cu1,hk1,rfl,HK,HI,HFb,HX⟩:=hrel;obtain⟨W1,rfl⟩:∃ w',w'=wr:=⟨_,rfl⟩;by_cases hlt1:k1<n1
  case pos =>
   have hka:k1<(x.records).length:=by rw[<-HN1.out];exact hlt1
   obtain⟨g1,off1,cs,rfl,-,he,hc⟩:=ah.get H1.out hka (by omega);have HD:=HK.out;rw[Chk.dY _ _ hka]at HD;have hfi:=dA.out.re _ (xR hka);generalize(x.records)[k1]=r at *;obtain⟨rn,rc,rf⟩:=r;obtain⟨u,rfl,HU⟩:=he;simp only at HU hc HD hfi;obtain⟨A5,n5,c5,rfl⟩:=ah.is HU;have hn5:n5=rf.length:=by obtain⟨_,_,e,_⟩:=ah.slice HU;injection e
   have hm5:n5<=10000:=by rw[hn5];exact xM hfi.2.1 (by decide)
   have HN5:=hid hn5;have H5:=hid HU;clear HU hn5;have bI:=hid hfi;have HD1:=hid HD;have hB:=HI.out.b0;have a0:=hc 0 _ rfl;have a1:=hc 1 _ rfl;have a2:=hc 2 _ rfl;have aC:g1<w0.heap.size:=xH w0 _ a0;have a0:=(hB.cell aC).trans a0;have a1:=(hB.cell aC).trans a1;have a2:=(hB.cell aC).trans a2;simp only[xK]at a0;have i10:(0:Int)<=(k1:Int):=by omega
   have i11:(k1:Int)<(n1:Int):=by omega
   have hbw:=hB.size;have hgw1:¬g1=W1.heap.size:=by omega
   clear hc hB hka HD HK hfi hbw;go_upto_region 6 with(fail)
   refine aj (λV1 hV=>?_);obtain⟨hbV,hqV,-⟩:=au hV;clear hV;replace HI:=hid (HI.out.below hbV);replace HFb:=hid (HFb.out.below hbV);replace HX:=hid (HX.out.below hbV HX.out.lt);have HQ1:=hid hqV;clear hqV hbV a0 a1 a2;obtain⟨⟨b0,b1,b2⟩,-⟩:=HQ1.out.k3;go_wp2_with fail;refine(oU rn (w.heap.size+1) f _ cu1 w0 w _ HKW.out HX.out HI.out HFb.out).mono ?_;rintro e X⟨rfl,hg,hi,hf⟩;replace HX:=hid (Bk.grown HX.out hg (Chk.aN HFb.out HX.out (by decide)));replace HQ1:=hid (Bk.grown HQ1.out hg (Chk.aN HFb.out HQ1.out (by decide)));clear HI HFb;have HI:=hid hi;have HFb:=hid hf;clear hi hf hg;clear b0 b1 b2;obtain⟨⟨b0,b1,b2⟩,-⟩:=HQ1.out.k3;go_wp2_with fail;clear b0 b1 b2;have HSi:Hid ((Chk.run 120 (x.sagas.flatMap Chk.dK) (Chk.run 120 (x.services.flatMap Chk.dQ) (Chk.run 120 (((x.records).drop (k1+1)).flatMap Chk.jR) (Chk.run 120 (rf.flatMap Chk.qF) (Chk.at_ (Tk.isName rn) rn 120 cu1)))))=R):=hid HD1.out;go_loopw [35] (λi wr=>∃(k:Nat)(cu:Chk.Flt),k<=n5/\i=.int .i64 k/\Hid ((Chk.run 120 (x.sagas.flatMap Chk.dK) (Chk.run 120 (x.services.flatMap Chk.dQ) (Chk.run 120 (((x.records).drop (k1+1)).flatMap Chk.jR) (Chk.run 120 (((rf).drop k).flatMap Chk.qF) cu))))=R)/\Hid (Chk.In w0 w wr f S)/\Hid (Chk.Fb wr f cu)/\Hid (Bk wr (w.heap.size+1) 89 #[.pointer (some ⟨f,0,none⟩)])/\Hid (Bk wr W1.heap.size 42 #[.string rn,.bool rc,.slice A5 n5 c5])) (λi _=>n5 - (intOf i).toNat)
   case atStart=>exact⟨0,_,by omega,rfl,HSi,HI,HFb,HX,HQ1⟩
   case round =>
    clear HI HFb HSi HX HQ1;obtain⟨k2,cu2,hk2,rfl,HK,HI,HFb,HX,HQ1⟩:=hrel;obtain⟨W2,rfl⟩:∃ w',w'=wr:=⟨_,rfl⟩;by_cases hlt2:k2<n5
    case pos =>
     have hka:k2<(rf).length:=by rw[<-HN5.out];exact hlt2
     obtain⟨g2,off2,cs,rfl,-,he,hc⟩:=ah.get H5.out hka (by omega);have HD:=HK.out;rw[Chk.dY _ _ hka]at HD;have hfi:=bI.out.2.2 _ (xR hka);generalize(rf)[k2]=r at *;obtain⟨yn,yt⟩:=r;obtain⟨u,rfl,HU⟩:=he;simp only at HU hc HD hfi;obtain⟨A7,n7,c7,rfl⟩:=ah.is HU;have H7:=hid HU;clear HU;have iQ:=hid hfi;have HD2:=hid HD;have hB:=HI.out.b0;have a0:=hc 0 _ rfl;have a1:=hc 1 _ rfl;have aH:g2<w0.heap.size:=xH w0 _ a0;have a0:=(hB.cell aH).trans a0;have a1:=(hB.cell aH).trans a1;simp only[xK]at a0;have i20:(0:Int)<=(k2:Int):=by omega
     have i21:(k2:Int)<(n5:Int):=by omega
     have hbw:=hB.size;have uD:¬g2=W2.heap.size:=by omega
     clear hc hB hka HD HK hfi hbw;go_upto_region 10 with(fail)
     refine aj (λV2 hV=>?_);obtain⟨hbV,hqV,-⟩:=au hV;clear hV;replace HI:=hid (HI.out.below hbV);replace HFb:=hid (HFb.out.below hbV);replace HX:=hid (HX.out.below hbV HX.out.lt);replace HQ1:=hid (HQ1.out.below hbV HQ1.out.lt);have HQ2:=hid hqV;clear hqV hbV a0 a1;obtain⟨⟨b0,b1⟩,-⟩:=HQ2.out.k2;go_wp2_with fail;refine(oU yn (w.heap.size+1) f _ cu2 w0 w _ HKW.out HX.out HI.out HFb.out).mono ?_;rintro e X⟨rfl,hg,hi,hf⟩;replace HX:=hid (Bk.grown HX.out hg (Chk.aN HFb.out HX.out (by decide)));replace HQ1:=hid (Bk.grown HQ1.out hg (Chk.aN HFb.out HQ1.out (by decide)));replace HQ2:=hid (Bk.grown HQ2.out hg (Chk.aN HFb.out HQ2.out (by decide)));clear HI HFb;have HI:=hid hi;have HFb:=hid hf;clear hi hf hg;clear b0 b1;have bV:Hid ((Chk.run 120 (x.sagas.flatMap Chk.dK) (Chk.run 120 (x.services.flatMap Chk.dQ) (Chk.run 120 (((x.records).drop (k1+1)).flatMap Chk.jR) (Chk.run 120 (((rf).drop (k2+1)).flatMap Chk.qF) (Chk.at_ (Tk.isName yn) yn 120 cu2)))))=R):=hid (by exact HD2.out);go_wp2_with fail;go_roundw
     case rel=>exact⟨k2+1,_,by omega,by go_num,bV,HI,HFb,HX,HQ1⟩
     case measure=>simp[intOf];omega
    have HS2:Hid ((Chk.run 120 (x.sagas.flatMap Chk.dK) (Chk.run 120 (x.services.flatMap Chk.dQ) (Chk.run 120 (((x.records).drop (k1+1)).flatMap Chk.jR) cu2)))=R):=hid (by have h:=HK.out;rw[Chk.dZ _ _ (show(rf).length<=k2 by rw[<-HN5.out];omega)]at h;exact h);clear HK hk2;have gX:Hid ((Chk.run 120 (x.sagas.flatMap Chk.dK) (Chk.run 120 (x.services.flatMap Chk.dQ) (Chk.run 120 (((x.records).drop (k1+1)).flatMap Chk.jR) cu2)))=R):=hid (by exact HS2.out);go_wp2_with fail;go_roundw
    case rel=>exact⟨k1+1,_,by omega,by go_num,gX,HI,HFb,HX⟩
    case measure=>simp[intOf];omega
  have HS1:Hid ((Chk.run 120 (x.sagas.flatMap Chk.dK) (Chk.run 120 (x.services.flatMap Chk.dQ) cu1))=R):=hid (by have h:=HK.out;rw[Chk.dZ _ _ (show(x.records).length<=k1 by rw[<-HN1.out];omega)]at h;exact h);clear HK hk1;obtain⟨⟨q0,q1,q2,q3⟩,-⟩:=(Chk.fC bf.out HI.out _ (Bl.refl _)).k4;go_wp2_with fail;clear q0 q1 q2 q3;go_loopw [48] (λi wr=>∃(k:Nat)(cu:Chk.Flt),k<=n2/\i=.int .i64 k/\Hid ((Chk.run 120 (x.sagas.flatMap Chk.dK) (Chk.run 120 (((x.services).drop k).flatMap Chk.dQ) cu))=R)/\Hid (Chk.In w0 w wr f S)/\Hid (Chk.Fb wr f cu)/\Hid (Bk wr (w.heap.size+1) 89 #[.pointer (some ⟨f,0,none⟩)])) (λi _=>n2 - (intOf i).toNat)
  case atStart=>exact⟨0,_,by omega,rfl,HS1,HI,HFb,HX⟩
  case round =>
   clear HI HFb HS1 HX;obtain⟨k1,cu1,hk1,rfl,HK,HI,HFb,HX⟩:=hrel;obtain⟨W1,rfl⟩:∃ w',w'=wr:=⟨_,rfl⟩;by_cases hlt1:k1<n2
   case pos =>
    have hka:k1<(x.services).length:=by rw[<-HN2.out];exact hlt1
    obtain⟨g1,off1,cs,rfl,-,he,hc⟩:=ah.get H2.out hka (by omega);have HD:=HK.out;rw[Chk.dY _ _ hka]at HD;have hfi:=dA.out.sv _ (xR hka);generalize(x.services)[k1]=r at *;obtain⟨rn,rf⟩:=r;obtain⟨u,rfl,HU⟩:=he;simp only at HU hc HD hfi;obtain⟨A5,n5,c5,rfl⟩:=ah.is HU;have hn5:n5=rf.length:=by obtain⟨_,_,e,_⟩:=ah.slice HU;injection e
    have hm5:n5<=10000:=by rw[hn5];exact xM hfi.2.1 (by decide)
    have HN5:=hid hn5;have H5:=hid HU;clear HU hn5;have bI:=hid hfi;have HD1:=hid HD;have hB:=HI.out.b0;have a0:=hc 0 _ rfl;have a1:=hc 1 _ rfl;have aC:g1<w0.heap.size:=xH w0 _ a0;have a0:=(hB.cell aC).trans a0;have a1:=(hB.cell aC).trans a1;simp only[xK]at a0;have i10:(0:Int)<=(k1:Int):=by omega
    have i11:(k1:Int)<(n2:Int):=by omega
    have hbw:=hB.size;have hgw1:¬g1=W1.heap.size:=by omega
    clear hc hB hka HD HK hfi hbw;go_upto_region 16 with(fail)
    refine aj (λV1 hV=>?_);obtain⟨hbV,hqV,-⟩:=au hV;clear hV;replace HI:=hid (HI.out.below hbV);replace HFb:=hid (HFb.out.below hbV);replace HX:=hid (HX.out.below hbV HX.out.lt);have HQ1:=hid hqV;clear hqV hbV a0 a1;obtain⟨⟨b0,b1⟩,-⟩:=HQ1.out.k2;go_wp2_with fail;refine(oU rn (w.heap.size+1) f _ cu1 w0 w _ HKW.out HX.out HI.out HFb.out).mono ?_;rintro e X⟨rfl,hg,hi,hf⟩;replace HX:=hid (Bk.grown HX.out hg (Chk.aN HFb.out HX.out (by decide)));replace HQ1:=hid (Bk.grown HQ1.out hg (Chk.aN HFb.out HQ1.out (by decide)));clear HI HFb;have HI:=hid hi;have HFb:=hid hf;clear hi hf hg;clear b0 b1;obtain⟨⟨b0,b1⟩,-⟩:=HQ1.out.k2;go_wp2_with fail;clear b0 b1;have HSi:Hid ((Chk.run 120 (x.sagas.flatMap Chk.dK) (Chk.run 120 (((x.services).drop (k1+1)).flatMap Chk.dQ) (Chk.run 120 (rf.flatMap Chk.oM) (Chk.at_ (Tk.isName rn) rn 120 cu1))))=R):=hid HD1.out;go_loopw [59] (λi wr=>∃(k:Nat)(cu:Chk.Flt),k<=n5/\i=.int .i64 k/\Hid ((Chk.run 120 (x.sagas.flatMap Chk.dK) (Chk.run 120 (((x.services).drop (k1+1)).flatMap Chk.dQ) (Chk.run 120 (((rf).drop k).flatMap Chk.oM) cu)))=R)/\Hid (Chk.In w0 w wr f S)/\Hid (Chk.Fb wr f cu)/\Hid (Bk wr (w.heap.size+1) 89 #[.pointer (some ⟨f,0,none⟩)])/\Hid (Bk wr W1.heap.size 101 #[.string rn,.slice A5 n5 c5])) (λi _=>n5 - (intOf i).toNat)
    case atStart=>exact⟨0,_,by omega,rfl,HSi,HI,HFb,HX,HQ1⟩
    case round =>
     clear HI HFb HSi HX HQ1;obtain⟨k2,cu2,hk2,rfl,HK,HI,HFb,HX,HQ1⟩:=hrel;obtain⟨W2,rfl⟩:∃ w',w'=wr:=⟨_,rfl⟩;by_cases hlt2:k2<n5
     case pos =>
      have hka:k2<(rf).length:=by rw[<-HN5.out];exact hlt2
      obtain⟨g2,off2,cs,rfl,-,he,hc⟩:=ah.get H5.out hka (by omega);have HD:=HK.out;rw[Chk.dY _ _ hka]at HD;have hfi:=bI.out.2.2 _ (xR hka);generalize(rf)[k2]=r at *;obtain⟨m0,m1,m2,m3,m4⟩:=r;unfold Id.dV Id.Mth.cells at he;subst he;simp only at hc HD hfi;have iQ:=hid hfi;have HD2:=hid HD;have hB:=HI.out.b0;have a0:=hc 0 _ rfl;have a1:=hc 1 _ rfl;have a2:=hc 2 _ rfl;have a3:=hc 3 _ rfl;have a4:=hc 4 _ rfl;have aH:g2<w0.heap.size:=xH w0 _ a0;have a0:=(hB.cell aH).trans a0;have a1:=(hB.cell aH).trans a1;have a2:=(hB.cell aH).trans a2;have a3:=(hB.cell aH).trans a3;have a4:=(hB.cell aH).trans a4;simp only[xK]at a0;have i20:(0:Int)<=(k2:Int):=by omega
      have i21:(k2:Int)<(n5:Int):=by omega
      have hbw:=hB.size;have uD:¬g2=W2.heap.size:=by omega
      clear hc hB hka HD HK hfi hbw;go_upto_region 20 with(fail)
      refine aj (λV2 hV=>?_);obtain⟨hbV,hqV,-⟩:=au hV;clear hV;replace HI:=hid (HI.out.below hbV);replace HFb:=hid (HFb.out.below hbV);replace HX:=hid (HX.out.below hbV HX.out.lt);replace HQ1:=hid (HQ1.out.below hbV HQ1.out.lt);have HQ2:=hid hqV;clear hqV hbV a0 a1 a2 a3 a4;obtain⟨⟨b0,b1,b2,b3,b4⟩,-⟩:=HQ2.out.k5;go_wp2_with fail;refine(oU m0 (w.heap.size+1) f _ cu2 w0 w _ HKW.out HX.out HI.out HFb.out).mono ?_;rintro e X⟨rfl,hg,hi,hf⟩;replace HX:=hid (Bk.grown HX.out hg (Chk.aN HFb.out HX.out (by decide)));replace HQ1:=hid (Bk.grown HQ1.out hg (Chk.aN HFb.out HQ1.out (by decide)));replace HQ2:=hid (Bk.grown HQ2.out hg (Chk.aN HFb.out HQ2.out (by decide)));clear HI HFb;have HI:=hid hi;have HFb:=hid hf;clear hi hf hg;clear b0 b1 b2 b3 b4;have bV:Hid ((Chk.run 120 (x.sagas.flatMap Chk.dK) (Chk.run 120 (((x.services).drop (k1+1)).flatMap Chk.dQ) (Chk.run 120 (((rf).drop (k2+1)).flatMap Chk.oM) (Chk.at_ (Tk.isName m0) m0 120 cu2))))=R):=hid (by exact HD2.out);go_wp2_with fail;go_roundw
      case rel=>exact⟨k2+1,_,by omega,by go_num,bV,HI,HFb,HX,HQ1⟩
      case measure=>simp[intOf];omega
     have HS2:Hid ((Chk.run 120 (x.sagas.flatMap Chk.dK) (Chk.run 120 (((x.services).drop (k1+1)).flatMap Chk.dQ) cu2))=R):=hid (by have h:=HK.out;rw[Chk.dZ _ _ (show(rf).length<=k2 by rw[<-HN5.out];omega)]at h;exact h);clear HK hk2;have gX:Hid ((Chk.run 120 (x.sagas.flatMap Chk.dK) (Chk.run 120 (((x.services).drop (k1+1)).flatMap Chk.dQ) cu2))=R):=hid (by exact HS2.out);go_wp2_with fail;go_roundw
     case rel=>exact⟨k1+1,_,by omega,by go_num,gX,HI,HFb,HX⟩
     case measure=>simp[intOf];omega
   have HS1:Hid ((Chk.run 120 (x.sagas.flatMap Chk.dK) cu1)=R):=hid (by have h:=HK.out;rw[Chk.dZ _ _ (show(x.services).length<=k1 by rw[<-HN2.out];omega)]at h;exact h);clear HK hk1;obtain⟨⟨q0,q1,q2,q3⟩,-⟩:=(Chk.fC bf.out HI.out _ (Bl.refl _)).k4;go_wp2_with fail;clear q0 q1 q2 q3;go_loopw [72] (λi wr=>∃(k:Nat)(cu:Chk.Flt),k<=n3/\i=.int .i64 k/\Hid ((Chk.run 120 (((x.sagas).drop k).flatMap Chk.dK) cu)=R)/\Hid (Chk.In w0 w wr f S)/\Hid (Chk.Fb wr f cu)/\Hid (Bk wr (w.heap.size+1) 89 #[.pointer (some ⟨f,0,none⟩)])) (λi _=>n3 - (intOf i).toNat)
   case atStart=>exact⟨0,_,by omega,rfl,HS1,HI,HFb,HX⟩
   case round =>
    clear HI HFb HS1 HX;obtain⟨k1,cu1,hk1,rfl,HK,HI,HFb,HX⟩:=hrel;obtain⟨W1,rfl⟩:∃ w',w'=wr:=⟨_,rfl⟩;by_cases hlt1:k1<n3
    case pos =>
     have hka:k1<(x.sagas).length:=by rw[<-HN3.out];exact hlt1
     obtain⟨g1,off1,cs,rfl,-,he,hc⟩:=ah.get H3.out hka (by omega);have HD:=HK.out;rw[Chk.dY _ _ hka]at HD;have hfi:=dA.out.sa _ (xR hka);generalize(x.sagas)[k1]=r at *;obtain⟨rn,ra,rf⟩:=r;obtain⟨u,rfl,HU⟩:=he;simp only at HU hc HD hfi;obtain⟨A5,n5,c5,rfl⟩:=ah.is HU;have hn5:n5=rf.length:=by obtain⟨_,_,e,_⟩:=ah.slice HU;injection e
     have hm5:n5<=10000:=by rw[hn5];exact xM hfi.2.1 (by decide)
     have HN5:=hid hn5;have H5:=hid HU;clear HU hn5;have bI:=hid hfi;have HD1:=hid HD;have hB:=HI.out.b0;have a0:=hc 0 _ rfl;have a1:=hc 1 _ rfl;have a2:=hc 2 _ rfl;have aC:g1<w0.heap.size:=xH w0 _ a0;have a0:=(hB.cell aC).trans a0;have a1:=(hB.cell aC).trans a1;have a2:=(hB.cell aC).trans a2;simp only[xK]at a0;have i10:(0:Int)<=(k1:Int):=by omega
     have i11:(k1:Int)<(n3:Int):=by omega
     have hbw:=hB.size;have hgw1:¬g1=W1.heap.size:=by omega
     clear hc hB hka HD HK hfi hbw;go_upto_region 26 with(fail)
     refine aj (λV1 hV=>?_);obtain⟨hbV,hqV,-⟩:=au hV;clear hV;replace HI:=hid (HI.out.below hbV);replace HFb:=hid (HFb.out.below hbV);replace HX:=hid (HX.out.below hbV HX.out.lt);have HQ1:=hid hqV;clear hqV hbV a0 a1 a2;obtain⟨⟨b0,b1,b2⟩,-⟩:=HQ1.out.k3;go_wp2_with fail;refine(oU rn (w.heap.size+1) f _ cu1 w0 w _ HKW.out HX.out HI.out HFb.out).mono ?_;rintro e X⟨rfl,hg,hi,hf⟩;replace HX:=hid (Bk.grown HX.out hg (Chk.aN HFb.out HX.out (by decide)));replace HQ1:=hid (Bk.grown HQ1.out hg (Chk.aN HFb.out HQ1.out (by decide)));clear HI HFb;have HI:=hid hi;have HFb:=hid hf;clear hi hf hg;clear b0 b1 b2;have gX:Hid ((Chk.run 120 (((x.sagas).drop (k1+1)).flatMap Chk.dK) (Chk.at_ (Tk.isName rn) rn 120 cu1))=R):=hid (by exact HD1.out);go_wp2_with fail;go_roundw
     case rel=>exact⟨k1+1,_,by omega,by go_num,gX,HI,HFb,HX⟩
     case measure=>simp[intOf];omega
    have HS1:Hid (cu1=R):=hid (by have h:=HK.out;rw[Chk.dZ _ _ (show(x.sagas).length<=k1 by rw[<-HN3.out];omega)]at h;exact h);clear HK hk1;go_wp2_with fail;refine bodyPost_end (results_none rfl _ _ _) rfl ?_;exact⟨rfl,HI.out.gb,by rw[<-HS1.out];exact HFb.out⟩
theorem JL(v:Value)(x:Id.Sch)(hF:Chk.Mid x)(f:Nat)(cur:Chk.Flt)(w0 w:World)(hkw:Tk.KW w0)(hv:Id.ay w0 none v x)(hb:Below w0.heap.size w0 w)(hlo:w0.heap.size<=f)(hf:Chk.Fb w f cur) :
  Calls Tryz.prog 41 #[v,.pointer (some ⟨f,0,none⟩)] w λe w'=>e=.returned (.tuple #[])/\w.grownBy w' (some f)/\Chk.Fb w' f (Chk.run 131 (Chk.kJ x) cur):=by
 obtain⟨R,HR⟩:∃ R,Hid (Chk.run 131 (Chk.kJ x) cur=R):=⟨_,hid rfl⟩;rw[HR.out];have HS:Hid ((Chk.run 131 (x.services.flatMap Chk.bZ) (Chk.run 131 (x.records.flatMap (Chk.eH x)) cur))=R):=hid (by rw[<-HR.out];unfold Chk.kJ;simp only[Chk.run,Chk.jq]);have HV:=hid hv;have HKW:=hid hkw;have dA:=hid hF;obtain⟨A1,n1,c1,A2,n2,c2,A3,n3,c3,rfl,r1,r2,r3⟩:=hv;have hn1:n1=x.records.length:=by obtain⟨_,_,e,_⟩:=ah.slice r1;injection e
 have hn2:n2=x.services.length:=by obtain⟨_,_,e,_⟩:=ah.slice r2;injection e
 have hn3:n3=x.sagas.length:=by obtain⟨_,_,e,_⟩:=ah.slice r3;injection e
 have hm1:n1<=10000:=by rw[hn1];exact hF.recs
 have hm2:n2<=10000:=by rw[hn2];exact hF.kU
 have hm3:n3<=10000:=by rw[hn3];exact hF.kV
 have HN1:=hid hn1;have H1:=hid r1;have HN2:=hid hn2;have H2:=hid r2;have HN3:=hid hn3;have H3:=hid r3;have HF0:=hid hf;have HB0:=hid hb;clear r1 r2 r3 hn1 hn2 hn3 hf hb hkw hF HR;go_enter Tryz.func41,Tryz.ntmps41;go_upto_region 1 with(fail)
 refine aj (λW0 hW0=>?_);have HI:=hid (Chk.In.start HB0.out hlo (Bk.lt HF0.out) hW0);have HFb:=hid (Chk.Fb.start HF0.out hW0);clear hW0;obtain⟨S,bf⟩:∃ S:Array Value,Hid (S=#[.string x.name,.slice A1 n1 c1,.slice A2 n2 c2,.slice A3 n3 c3]):=⟨_,hid rfl⟩;rw[<-bf.out]at HI;obtain⟨⟨q0,q1,q2,q3⟩,-⟩:=(Chk.fC bf.out HI.out _ (Bl.refl _)).k4;go_wp2_with fail;clear q0 q1 q2 q3;go_loopw [15] (λi wr=>∃(k:Nat)(cu:Chk.Flt),k<=n1/\i=.int .i64 k/\Hid ((Chk.run 131 (x.services.flatMap Chk.bZ) (Chk.run 131 (((x.records).drop k).flatMap (Chk.eH x)) cu))=R)/\Hid (Chk.In w0 w wr f S)/\Hid (Chk.Fb wr f cu)) (λi _=>n1 - (intOf i).toNat)
 case atStart=>exact⟨0,_,by omega,rfl,HS,HI,HFb⟩
 case round =>
  clear HI HFb HS ;obtain⟨k1,cu1,hk1,rfl,HK,HI,HFb⟩:=hrel;obtain⟨W1,rfl⟩:∃ w',w'=wr:=⟨_,rfl⟩;by_cases hlt1:k1<n1
  case pos =>
   have hka:k1<(x.records).length:=by rw[<-HN1.out];exact hlt1
   obtain⟨g1,off1,cs,rfl,-,he,hc⟩:=ah.get H1.out hka (by omega);have HD:=HK.out;rw[Chk.dY _ _ hka]at HD;have hfi:=dA.out.re _ (xR hka);generalize(x.records)[k1]=r at *;obtain⟨rn,rc,rf⟩:=r;obtain⟨u,rfl,HU⟩:=he;simp only at HU hc HD hfi;obtain⟨A5,n5,c5,rfl⟩:=ah.is HU;have hn5:n5=rf.length:=by obtain⟨_,_,e,_⟩:=ah.slice HU;injection e
   have hm5:n5<=10000:=by rw[hn5];exact xM hfi.2.1 (by decide)
   have HN5:=hid hn5;have H5:=hid HU;clear HU hn5;have bI:=hid hfi;have HD1:=hid HD;have hB:=HI.out.b0;have a0:=hc 0 _ rfl;have a1:=hc 1 _ rfl;have a2:=hc 2 _ rfl;have aC:g1<w0.heap.size:=xH w0 _ a0;have a0:=(hB.cell aC).trans a0;have a1:=(hB.cell aC).trans a1;have a2:=(hB.cell aC).trans a2;simp only[xK]at a0;have i10:(0:Int)<=(k1:Int):=by omega
   have i11:(k1:Int)<(n1:Int):=by omega
   have hbw:=hB.size;have hgw1:¬g1=W1.heap.size:=by omega
   clear hc hB hka HD HK hfi hbw;go_upto_region 4 with(fail)
   refine aj (λV1 hV=>?_);obtain⟨hbV,hqV,-⟩:=au hV;clear hV;replace HI:=hid (HI.out.below hbV);replace HFb:=hid (HFb.out.below hbV);have HQ1:=hid hqV;clear hqV hbV a0 a1 a2;obtain⟨⟨b0,b1,b2⟩,-⟩:=HQ1.out.k3;go_wp2_with fail;clear b0 b1 b2;have HSi:Hid ((Chk.run 131 (x.services.flatMap Chk.bZ) (Chk.run 131 (((x.records).drop (k1+1)).flatMap (Chk.eH x)) (Chk.run 131 (rf.flatMap (Chk.nN x rn)) cu1)))=R):=hid (by first|exact HD1.out|(rw[HN5.out];exact HD1.out));go_loopw [22] (λi wr=>∃(k:Nat)(cu:Chk.Flt),k<=n5/\i=.int .i64 k/\Hid ((Chk.run 131 (x.services.flatMap Chk.bZ) (Chk.run 131 (((x.records).drop (k1+1)).flatMap (Chk.eH x)) (Chk.run 131 (((rf).drop k).flatMap (Chk.nN x rn)) cu)))=R)/\Hid (Chk.In w0 w wr f S)/\Hid (Chk.Fb wr f cu)/\Hid (Bk wr W1.heap.size 42 #[.string rn,.bool rc,.slice A5 n5 c5])) (λi _=>n5 - (intOf i).toNat)
   case atStart=>exact⟨0,_,by omega,rfl,HSi,HI,HFb,HQ1⟩
   case round =>
    clear HI HFb HSi HQ1;obtain⟨k2,cu2,hk2,rfl,HK,HI,HFb,HQ1⟩:=hrel;obtain⟨W2,rfl⟩:∃ w',w'=wr:=⟨_,rfl⟩;by_cases hlt2:k2<n5
    case pos =>
     have hka:k2<(rf).length:=by rw[<-HN5.out];exact hlt2
     obtain⟨g2,off2,cs,rfl,-,he,hc⟩:=ah.get H5.out hka (by omega);have HD:=HK.out;rw[Chk.dY _ _ hka]at HD;have hfi:=bI.out.2.2 _ (xR hka);generalize(rf)[k2]=r at *;obtain⟨yn,yt⟩:=r;obtain⟨u,rfl,HU⟩:=he;simp only at HU hc HD hfi;obtain⟨A7,n7,c7,rfl⟩:=ah.is HU;have H7:=hid HU;clear HU;have iQ:=hid hfi;have HD2:=hid HD;have hB:=HI.out.b0;have a0:=hc 0 _ rfl;have a1:=hc 1 _ rfl;have aH:g2<w0.heap.size:=xH w0 _ a0;have a0:=(hB.cell aH).trans a0;have a1:=(hB.cell aH).trans a1;simp only[xK]at a0;have i20:(0:Int)<=(k2:Int):=by omega
     have i21:(k2:Int)<(n5:Int):=by omega
     have hbw:=hB.size;have uD:¬g2=W2.heap.size:=by omega
     clear hc hB hka HD HK hfi hbw;go_upto_region 7 with(fail)
     refine aj (λV2 hV=>?_);obtain⟨hbV,hqV,-⟩:=au hV;clear hV;replace HI:=hid (HI.out.below hbV);replace HFb:=hid (HFb.out.below hbV);replace HQ1:=hid (HQ1.out.below hbV HQ1.out.lt);have HQ2:=hid hqV;clear hqV hbV a0 a1;have iw:=λ(w':World) (hb:Bl V2 w')=>(Bk.k3 (HQ1.out.below hb HQ1.out.lt)).1.1
     have iq:=λ(w':World) (hb:Bl V2 w')=>(Bk.k3 (HQ1.out.below hb HQ1.out.lt)).1.2.1
     have jB:=λ(w':World) (hb:Bl V2 w')=>(Bk.k3 (HQ1.out.below hb HQ1.out.lt)).1.2.2
     have ig:=λ(w':World) (hb:Bl V2 w')=>(Bk.k2 (HQ2.out.below hb HQ2.out.lt)).1.1
     have gZ:=λ(w':World) (hb:Bl V2 w')=>(Bk.k2 (HQ2.out.below hb HQ2.out.lt)).1.2
     have dS:=Chk.fC bf.out HI.out;have hRt:=λ(w':World) (hb:Bl V2 w')=>fG hb (JQ _ x _ yt dA.out.small w' (Id.ay.below (HI.out.b0.trans (Below.mono hb HI.out.b0.size)) HV.out) (ah.below H7.out (HI.out.b0.trans (Below.mono hb HI.out.b0.size)) (λ_ _ h=>h)))
     have hPt:=λ(w':World) (hb:Bl V2 w')=>(show Calls Tryz.prog 108 #[.string rn,.string yn] w' (λe w''=>e=.returned (.string (Chk.part rn yn))/\Bl V2 w'')from(dD rn yn bI.out.1 iQ.out.1 w').mono λ_ _ ⟨he,hw⟩=>⟨he,by rw[hw];exact hb⟩)
     refine Lst.dh V2 (Bl.refl V2) (by simp only[yA,xZ];rfl) (by kernel_rfl) (by kernel_rfl) (by kernel_rfl) rfl ?_;simp only[yC,yB];repeat(first|go_big_quiet_step((intro hb;first|(go_at_call 109;exact hRt _ hb)|(go_at_call 108;exact hPt _ hb)))|(refine wpQuiet_step (λK hK=>?_);rw[if_pos (by rfl)];refine dw _ _ rfl _ rfl _ _ _ (by assumption) Tryz.underlying28 rfl (by kernel_rfl) ?_;go_simp;refine hK _ ?_;clear hK K)|(refine wpQuiet_step (λK hK=>?_);rw[if_pos (by rfl)];refine Lst.aF _ _ rfl _ rfl _ (by assumption) _ Tryz.underlying9 rfl ?_;go_simp;refine hK _ ?_;clear hK K)|(refine wpQuiet_step (λK hK=>?_);rw[if_pos (by rfl)];refine Lst.aF _ _ rfl _ rfl _ (by assumption) _ Tryz.underlying45 rfl ?_;go_simp;refine hK _ ?_;clear hK K)|(refine wpQuiet_step (λK hK=>?_);go_simp;refine⟨_,λ_ _=>rfl,hK _ ?_⟩;clear hK K))
     refine wpQuiet_nil ?_;intro X1 hX1 K hK;have HAT:=hid (Chk.bP HI.out HFb.out hX1 (Chk.right x yt) (Chk.part rn yn) 131);clear iw iq jB ig gZ dS hRt hPt;go_simp;refine HAT.out.mono ?_;rintro e X⟨rfl,hg,hi,hf⟩;refine hK _ _ ?_;replace HQ1:=hid (Bk.grown HQ1.out hg (Chk.aN HFb.out HQ1.out (by decide)));replace HQ2:=hid (Bk.grown HQ2.out hg (Chk.aN HFb.out HQ2.out (by decide)));clear HI HFb;have HI:=hid hi;have HFb:=hid hf;clear hi hf hg;clear hK K HAT;have bV:Hid ((Chk.run 131 (x.services.flatMap Chk.bZ) (Chk.run 131 (((x.records).drop (k1+1)).flatMap (Chk.eH x)) (Chk.run 131 (((rf).drop (k2+1)).flatMap (Chk.nN x rn)) (Chk.at_ (Chk.right x yt) (Chk.part rn yn) 131 cu2))))=R):=hid (by exact HD2.out);go_wp2_with fail;go_roundw
     case rel=>exact⟨k2+1,_,by omega,by go_num,bV,HI,HFb,HQ1⟩
     case measure=>simp[intOf];omega
    have HS2:Hid ((Chk.run 131 (x.services.flatMap Chk.bZ) (Chk.run 131 (((x.records).drop (k1+1)).flatMap (Chk.eH x)) cu2))=R):=hid (by have h:=HK.out;rw[Chk.dZ _ _ (show(rf).length<=k2 by rw[<-HN5.out];omega)]at h;exact h);clear HK hk2;have gX:Hid ((Chk.run 131 (x.services.flatMap Chk.bZ) (Chk.run 131 (((x.records).drop (k1+1)).flatMap (Chk.eH x)) cu2))=R):=hid (by exact HS2.out);go_wp2_with fail;go_roundw
    case rel=>exact⟨k1+1,_,by omega,by go_num,gX,HI,HFb⟩
    case measure=>simp[intOf];omega
  have HS1:Hid ((Chk.run 131 (x.services.flatMap Chk.bZ) cu1)=R):=hid (by have h:=HK.out;rw[Chk.dZ _ _ (show(x.records).length<=k1 by rw[<-HN1.out];omega)]at h;exact h);clear HK hk1;obtain⟨⟨q0,q1,q2,q3⟩,-⟩:=(Chk.fC bf.out HI.out _ (Bl.refl _)).k4;go_wp2_with fail;clear q0 q1 q2 q3;go_loopw [42] (λi wr=>∃(k:Nat)(cu:Chk.Flt),k<=n2/\i=.int .i64 k/\Hid ((Chk.run 131 (((x.services).drop k).flatMap Chk.bZ) cu)=R)/\Hid (Chk.In w0 w wr f S)/\Hid (Chk.Fb wr f cu)) (λi _=>n2 - (intOf i).toNat)
  case atStart=>exact⟨0,_,by omega,rfl,HS1,HI,HFb⟩
  case round =>
   clear HI HFb HS1 ;obtain⟨k1,cu1,hk1,rfl,HK,HI,HFb⟩:=hrel;obtain⟨W1,rfl⟩:∃ w',w'=wr:=⟨_,rfl⟩;by_cases hlt1:k1<n2
   case pos =>
    have hka:k1<(x.services).length:=by rw[<-HN2.out];exact hlt1
    obtain⟨g1,off1,cs,rfl,-,he,hc⟩:=ah.get H2.out hka (by omega);have HD:=HK.out;rw[Chk.dY _ _ hka]at HD;have hfi:=dA.out.sv _ (xR hka);generalize(x.services)[k1]=r at *;obtain⟨rn,rf⟩:=r;obtain⟨u,rfl,HU⟩:=he;simp only at HU hc HD hfi;obtain⟨A5,n5,c5,rfl⟩:=ah.is HU;have hn5:n5=rf.length:=by obtain⟨_,_,e,_⟩:=ah.slice HU;injection e
    have hm5:n5<=10000:=by rw[hn5];exact xM hfi.2.1 (by decide)
    have HN5:=hid hn5;have H5:=hid HU;clear HU hn5;have bI:=hid hfi;have HD1:=hid HD;have hB:=HI.out.b0;have a0:=hc 0 _ rfl;have a1:=hc 1 _ rfl;have aC:g1<w0.heap.size:=xH w0 _ a0;have a0:=(hB.cell aC).trans a0;have a1:=(hB.cell aC).trans a1;simp only[xK]at a0;have i10:(0:Int)<=(k1:Int):=by omega
    have i11:(k1:Int)<(n2:Int):=by omega
    have hbw:=hB.size;have hgw1:¬g1=W1.heap.size:=by omega
    clear hc hB hka HD HK hfi hbw;go_upto_region 13 with(fail)
    refine aj (λV1 hV=>?_);obtain⟨hbV,hqV,-⟩:=au hV;clear hV;replace HI:=hid (HI.out.below hbV);replace HFb:=hid (HFb.out.below hbV);have HQ1:=hid hqV;clear hqV hbV a0 a1;obtain⟨⟨b0,b1⟩,-⟩:=HQ1.out.k2;go_wp2_with fail;clear b0 b1;have HSi:Hid ((Chk.run 131 (((x.services).drop (k1+1)).flatMap Chk.bZ) (Chk.run 131 (rf.flatMap (Chk.jW rn)) cu1))=R):=hid (by first|exact HD1.out|(rw[HN5.out];exact HD1.out));go_loopw [49] (λi wr=>∃(k:Nat)(cu:Chk.Flt),k<=n5/\i=.int .i64 k/\Hid ((Chk.run 131 (((x.services).drop (k1+1)).flatMap Chk.bZ) (Chk.run 131 (((rf).drop k).flatMap (Chk.jW rn)) cu))=R)/\Hid (Chk.In w0 w wr f S)/\Hid (Chk.Fb wr f cu)/\Hid (Bk wr W1.heap.size 101 #[.string rn,.slice A5 n5 c5])) (λi _=>n5 - (intOf i).toNat)
    case atStart=>exact⟨0,_,by omega,rfl,HSi,HI,HFb,HQ1⟩
    case round =>
     clear HI HFb HSi HQ1;obtain⟨k2,cu2,hk2,rfl,HK,HI,HFb,HQ1⟩:=hrel;obtain⟨W2,rfl⟩:∃ w',w'=wr:=⟨_,rfl⟩;by_cases hlt2:k2<n5
     case pos =>
      have hka:k2<(rf).length:=by rw[<-HN5.out];exact hlt2
      obtain⟨g2,off2,cs,rfl,-,he,hc⟩:=ah.get H5.out hka (by omega);have HD:=HK.out;rw[Chk.dY _ _ hka]at HD;have hfi:=bI.out.2.2 _ (xR hka);generalize(rf)[k2]=r at *;obtain⟨m0,m1,m2,m3,m4⟩:=r;unfold Id.dV Id.Mth.cells at he;subst he;simp only at hc HD hfi;have iQ:=hid hfi;have HD2:=hid HD;have hB:=HI.out.b0;have a0:=hc 0 _ rfl;have a1:=hc 1 _ rfl;have a2:=hc 2 _ rfl;have a3:=hc 3 _ rfl;have a4:=hc 4 _ rfl;have aH:g2<w0.heap.size:=xH w0 _ a0;have a0:=(hB.cell aH).trans a0;have a1:=(hB.cell aH).trans a1;have a2:=(hB.cell aH).trans a2;have a3:=(hB.cell aH).trans a3;have a4:=(hB.cell aH).trans a4;simp only[xK]at a0;have i20:(0:Int)<=(k2:Int):=by omega
      have i21:(k2:Int)<(n5:Int):=by omega
      have hbw:=hB.size;have uD:¬g2=W2.heap.size:=by omega
      clear hc hB hka HD HK hfi hbw;go_upto_region 16 with(fail)
      refine aj (λV2 hV=>?_);obtain⟨hbV,hqV,-⟩:=au hV;clear hV;replace HI:=hid (HI.out.below hbV);replace HFb:=hid (HFb.out.below hbV);replace HQ1:=hid (HQ1.out.below hbV HQ1.out.lt);have HQ2:=hid hqV;clear hqV hbV a0 a1 a2 a3 a4;by_cases e3:m2=3
      case pos =>
       have t3:((m2:Int)==3)=true:=by rw[beq_iff_eq];omega
       have iw:=λ(w':World) (hb:Bl V2 w')=>(Bk.k2 (HQ1.out.below hb HQ1.out.lt)).1.1
       have iq:=λ(w':World) (hb:Bl V2 w')=>(Bk.k2 (HQ1.out.below hb HQ1.out.lt)).1.2
       have ig:=λ(w':World) (hb:Bl V2 w')=>(Bk.k5 (HQ2.out.below hb HQ2.out.lt)).1.1
       have gZ:=λ(w':World) (hb:Bl V2 w')=>(Bk.k5 (HQ2.out.below hb HQ2.out.lt)).1.2.1
       have iK:=λ(w':World) (hb:Bl V2 w')=>(Bk.k5 (HQ2.out.below hb HQ2.out.lt)).1.2.2.1
       have qY:=λ(w':World) (hb:Bl V2 w')=>(Bk.k5 (HQ2.out.below hb HQ2.out.lt)).1.2.2.2.1
       have qX:=λ(w':World) (hb:Bl V2 w')=>(Bk.k5 (HQ2.out.below hb HQ2.out.lt)).1.2.2.2.2
       have hPt:=λ(w':World) (hb:Bl V2 w')=>(show Calls Tryz.prog 108 #[.string rn,.string m0] w' (λe w''=>e=.returned (.string (Chk.part rn m0))/\Bl V2 w'')from(dD rn m0 bI.out.1 iQ.out.1 w').mono λ_ _ ⟨he,hw⟩=>⟨he,by rw[hw];exact hb⟩)
       refine Lst.dh V2 (Bl.refl V2) (by simp only[yA,xZ];rfl) (by kernel_rfl) (by kernel_rfl) (by kernel_rfl) rfl ?_;simp only[yC,yB];repeat(first|go_big_quiet_step((intro hb;first|(go_at_call 108;exact hPt _ hb)))  |(refine wpQuiet_step (λK hK=>?_);rw[if_pos (by rfl)];refine Lst.aF _ _ rfl _ rfl _ (by assumption) _ Tryz.underlying9 rfl ?_;go_simp;refine hK _ ?_;clear hK K)|(refine wpQuiet_step (λK hK=>?_);rw[if_pos (by rfl)];refine Lst.aF _ _ rfl _ rfl _ (by assumption) _ Tryz.underlying5 rfl ?_;go_simp;refine hK _ ?_;clear hK K)|(refine wpQuiet_step (λK hK=>?_);go_simp;refine⟨_,λ_ _=>rfl,hK _ ?_⟩;clear hK K))
       refine wpQuiet_nil ?_;intro X1 hX1 K hK;have HAT:=hid (Chk.bP HI.out HFb.out hX1 (true) (Chk.part rn m0) 131);clear iw iq ig gZ iK qY qX hPt;go_simp;refine HAT.out.mono ?_;rintro e X⟨rfl,hg,hi,hf⟩;refine hK _ _ ?_;replace HQ1:=hid (Bk.grown HQ1.out hg (Chk.aN HFb.out HQ1.out (by decide)));replace HQ2:=hid (Bk.grown HQ2.out hg (Chk.aN HFb.out HQ2.out (by decide)));clear HI HFb;have HI:=hid hi;have HFb:=hid hf;clear hi hf hg;clear hK K HAT;have bV:Hid ((Chk.run 131 (((x.services).drop (k1+1)).flatMap Chk.bZ) (Chk.run 131 (((rf).drop (k2+1)).flatMap (Chk.jW rn)) (Chk.at_ true (Chk.part rn m0) 131 cu2)))=R):=hid (by rw[<-HD2.out];unfold Chk.jW;simp only[beq_iff_eq.2 e3];rfl);go_wp2_with fail;go_roundw
       case rel=>exact⟨k2+1,_,by omega,by go_num,bV,HI,HFb,HQ1⟩
       case measure=>simp[intOf];omega
      by_cases e1:m2=1
      case pos =>
       have t3:((m2:Int)==3)=false:=by rw[xG];omega
       have t1:((m2:Int)==1)=true:=by rw[beq_iff_eq];omega
       have iw:=λ(w':World) (hb:Bl V2 w')=>(Bk.k2 (HQ1.out.below hb HQ1.out.lt)).1.1
       have iq:=λ(w':World) (hb:Bl V2 w')=>(Bk.k2 (HQ1.out.below hb HQ1.out.lt)).1.2
       have ig:=λ(w':World) (hb:Bl V2 w')=>(Bk.k5 (HQ2.out.below hb HQ2.out.lt)).1.1
       have gZ:=λ(w':World) (hb:Bl V2 w')=>(Bk.k5 (HQ2.out.below hb HQ2.out.lt)).1.2.1
       have iK:=λ(w':World) (hb:Bl V2 w')=>(Bk.k5 (HQ2.out.below hb HQ2.out.lt)).1.2.2.1
       have qY:=λ(w':World) (hb:Bl V2 w')=>(Bk.k5 (HQ2.out.below hb HQ2.out.lt)).1.2.2.2.1
       have qX:=λ(w':World) (hb:Bl V2 w')=>(Bk.k5 (HQ2.out.below hb HQ2.out.lt)).1.2.2.2.2
       have hPt:=λ(w':World) (hb:Bl V2 w')=>(show Calls Tryz.prog 108 #[.string rn,.string m0] w' (λe w''=>e=.returned (.string (Chk.part rn m0))/\Bl V2 w'')from(dD rn m0 bI.out.1 iQ.out.1 w').mono λ_ _ ⟨he,hw⟩=>⟨he,by rw[hw];exact hb⟩)
       refine Lst.dh V2 (Bl.refl V2) (by simp only[yA,xZ];rfl) (by kernel_rfl) (by kernel_rfl) (by kernel_rfl) rfl ?_;simp only[yC,yB];repeat(first|go_big_quiet_step((intro hb;first|(go_at_call 108;exact hPt _ hb)))  |(refine wpQuiet_step (λK hK=>?_);rw[if_pos (by rfl)];refine Lst.aF _ _ rfl _ rfl _ (by assumption) _ Tryz.underlying9 rfl ?_;go_simp;refine hK _ ?_;clear hK K)|(refine wpQuiet_step (λK hK=>?_);rw[if_pos (by rfl)];refine Lst.aF _ _ rfl _ rfl _ (by assumption) _ Tryz.underlying5 rfl ?_;go_simp;refine hK _ ?_;clear hK K)|(refine wpQuiet_step (λK hK=>?_);go_simp;refine⟨_,λ_ _=>rfl,hK _ ?_⟩;clear hK K))
       refine wpQuiet_nil ?_;intro X1 hX1 K hK;have HAT:=hid (Chk.bP HI.out HFb.out hX1 (true) (Chk.part rn m0) 131);clear iw iq ig gZ iK qY qX hPt;go_simp;refine HAT.out.mono ?_;rintro e X⟨rfl,hg,hi,hf⟩;refine hK _ _ ?_;replace HQ1:=hid (Bk.grown HQ1.out hg (Chk.aN HFb.out HQ1.out (by decide)));replace HQ2:=hid (Bk.grown HQ2.out hg (Chk.aN HFb.out HQ2.out (by decide)));clear HI HFb;have HI:=hid hi;have HFb:=hid hf;clear hi hf hg;clear hK K HAT;have bV:Hid ((Chk.run 131 (((x.services).drop (k1+1)).flatMap Chk.bZ) (Chk.run 131 (((rf).drop (k2+1)).flatMap (Chk.jW rn)) (Chk.at_ true (Chk.part rn m0) 131 cu2)))=R):=hid (by rw[<-HD2.out];unfold Chk.jW;simp only[beq_eq_false_iff_ne.2 e3,beq_iff_eq.2 e1];rfl);go_wp2_with fail;go_roundw
       case rel=>exact⟨k2+1,_,by omega,by go_num,bV,HI,HFb,HQ1⟩
       case measure=>simp[intOf];omega
      have t3:((m2:Int)==3)=false:=by rw[xG];omega
      have t1:((m2:Int)==1)=false:=by rw[xG];omega
      have iw:=λ(w':World) (hb:Bl V2 w')=>(Bk.k2 (HQ1.out.below hb HQ1.out.lt)).1.1
      have iq:=λ(w':World) (hb:Bl V2 w')=>(Bk.k2 (HQ1.out.below hb HQ1.out.lt)).1.2
      have ig:=λ(w':World) (hb:Bl V2 w')=>(Bk.k5 (HQ2.out.below hb HQ2.out.lt)).1.1
      have gZ:=λ(w':World) (hb:Bl V2 w')=>(Bk.k5 (HQ2.out.below hb HQ2.out.lt)).1.2.1
      have iK:=λ(w':World) (hb:Bl V2 w')=>(Bk.k5 (HQ2.out.below hb HQ2.out.lt)).1.2.2.1
      have qY:=λ(w':World) (hb:Bl V2 w')=>(Bk.k5 (HQ2.out.below hb HQ2.out.lt)).1.2.2.2.1
      have qX:=λ(w':World) (hb:Bl V2 w')=>(Bk.k5 (HQ2.out.below hb HQ2.out.lt)).1.2.2.2.2
      have hPt:=λ(w':World) (hb:Bl V2 w')=>(show Calls Tryz.prog 108 #[.string rn,.string m0] w' (λe w''=>e=.returned (.string (Chk.part rn m0))/\Bl V2 w'')from(dD rn m0 bI.out.1 iQ.out.1 w').mono λ_ _ ⟨he,hw⟩=>⟨he,by rw[hw];exact hb⟩)
      refine Lst.dh V2 (Bl.refl V2) (by simp only[yA,xZ];rfl) (by kernel_rfl) (by kernel_rfl) (by kernel_rfl) rfl ?_;simp only[yC,yB];repeat(first|go_big_quiet_step((intro hb;first|(go_at_call 108;exact hPt _ hb)))  |(refine wpQuiet_step (λK hK=>?_);rw[if_pos (by rfl)];refine Lst.aF _ _ rfl _ rfl _ (by assumption) _ Tryz.underlying9 rfl ?_;go_simp;refine hK _ ?_;clear hK K)|(refine wpQuiet_step (λK hK=>?_);rw[if_pos (by rfl)];refine Lst.aF _ _ rfl _ rfl _ (by assumption) _ Tryz.underlying5 rfl ?_;go_simp;refine hK _ ?_;clear hK K)|(refine wpQuiet_step (λK hK=>?_);go_simp;refine⟨_,λ_ _=>rfl,hK _ ?_⟩;clear hK K))
      refine wpQuiet_nil ?_;intro X1 hX1 K hK;have HAT:=hid (Chk.bP HI.out HFb.out hX1 (false) (Chk.part rn m0) 131);clear iw iq ig gZ iK qY qX hPt;go_simp;refine HAT.out.mono ?_;rintro e X⟨rfl,hg,hi,hf⟩;refine hK _ _ ?_;replace HQ1:=hid (Bk.grown HQ1.out hg (Chk.aN HFb.out HQ1.out (by decide)));replace HQ2:=hid (Bk.grown HQ2.out hg (Chk.aN HFb.out HQ2.out (by decide)));clear HI HFb;have HI:=hid hi;have HFb:=hid hf;clear hi hf hg;clear hK K HAT;have bV:Hid ((Chk.run 131 (((x.services).drop (k1+1)).flatMap Chk.bZ) (Chk.run 131 (((rf).drop (k2+1)).flatMap (Chk.jW rn)) (Chk.at_ false (Chk.part rn m0) 131 cu2)))=R):=hid (by rw[<-HD2.out];unfold Chk.jW;simp only[beq_eq_false_iff_ne.2 e3,beq_eq_false_iff_ne.2 e1];rfl);go_wp2_with fail;go_roundw
      case rel=>exact⟨k2+1,_,by omega,by go_num,bV,HI,HFb,HQ1⟩
      case measure=>simp[intOf];omega
     have HS2:Hid ((Chk.run 131 (((x.services).drop (k1+1)).flatMap Chk.bZ) cu2)=R):=hid (by have h:=HK.out;rw[Chk.dZ _ _ (show(rf).length<=k2 by rw[<-HN5.out];omega)]at h;exact h);clear HK hk2;have gX:Hid ((Chk.run 131 (((x.services).drop (k1+1)).flatMap Chk.bZ) cu2)=R):=hid (by exact HS2.out);go_wp2_with fail;go_roundw
     case rel=>exact⟨k1+1,_,by omega,by go_num,gX,HI,HFb⟩
     case measure=>simp[intOf];omega
   have HS1:Hid (cu1=R):=hid (by have h:=HK.out;rw[Chk.dZ _ _ (show(x.services).length<=k1 by rw[<-HN2.out];omega)]at h;exact h);clear HK hk1;go_wp2_with fail;refine bodyPost_end (results_none rfl _ _ _) rfl ?_;exact⟨rfl,HI.out.gb,by rw[<-HS1.out];exact HFb.out⟩
theorem FT(v:Value)(x:Id.Sch)(hF:Chk.Mid x)(f:Nat)(cur:Chk.Flt)(w0 w:World)(hkw:Tk.KW w0)(hv:Id.ay w0 none v x)(hb:Below w0.heap.size w0 w)(hlo:w0.heap.size<=f)(hf:Chk.Fb w f cur) :
  Calls Tryz.prog 43 #[v,.pointer (some ⟨f,0,none⟩)] w λe w'=>e=.returned (.tuple #[])/\w.grownBy w' (some f)/\Chk.Fb w' f (Chk.run 134 (Chk.bU x) cur):=by
 obtain⟨R,HR⟩:∃ R,Hid (Chk.run 134 (Chk.bU x) cur=R):=⟨_,hid rfl⟩;rw[HR.out];have HS:Hid ((Chk.run 134 (x.services.flatMap (Chk.fU x)) cur)=R):=hid (by rw[<-HR.out];unfold Chk.bU;simp only[Chk.run,Chk.jq]);have HV:=hid hv;have HKW:=hid hkw;have dA:=hid hF;obtain⟨A1,n1,c1,A2,n2,c2,A3,n3,c3,rfl,r1,r2,r3⟩:=hv;have hn1:n1=x.records.length:=by obtain⟨_,_,e,_⟩:=ah.slice r1;injection e
 have hn2:n2=x.services.length:=by obtain⟨_,_,e,_⟩:=ah.slice r2;injection e
 have hn3:n3=x.sagas.length:=by obtain⟨_,_,e,_⟩:=ah.slice r3;injection e
 have hm1:n1<=10000:=by rw[hn1];exact hF.recs
 have hm2:n2<=10000:=by rw[hn2];exact hF.kU
 have hm3:n3<=10000:=by rw[hn3];exact hF.kV
 have HN1:=hid hn1;have H1:=hid r1;have HN2:=hid hn2;have H2:=hid r2;have HN3:=hid hn3;have H3:=hid r3;have HF0:=hid hf;have HB0:=hid hb;clear r1 r2 r3 hn1 hn2 hn3 hf hb hkw hF HR;go_enter Tryz.func43,Tryz.ntmps43;go_upto_region 1 with(fail)
 refine aj (λW0 hW0=>?_);have HI:=hid (Chk.In.start HB0.out hlo (Bk.lt HF0.out) hW0);have HFb:=hid (Chk.Fb.start HF0.out hW0);clear hW0;obtain⟨S,bf⟩:∃ S:Array Value,Hid (S=#[.string x.name,.slice A1 n1 c1,.slice A2 n2 c2,.slice A3 n3 c3]):=⟨_,hid rfl⟩;rw[<-bf.out]at HI;obtain⟨⟨q0,q1,q2,q3⟩,-⟩:=(Chk.fC bf.out HI.out _ (Bl.refl _)).k4;go_wp2_with fail;clear q0 q1 q2 q3;go_loopw [11] (λi wr=>∃(k:Nat)(cu:Chk.Flt),k<=n2/\i=.int .i64 k/\Hid ((Chk.run 134 (((x.services).drop k).flatMap (Chk.fU x)) cu)=R)/\Hid (Chk.In w0 w wr f S)/\Hid (Chk.Fb wr f cu)) (λi _=>n2 - (intOf i).toNat)
 case atStart=>exact⟨0,_,by omega,rfl,HS,HI,HFb⟩
 case round =>
  clear HI HFb HS ;obtain⟨k1,cu1,hk1,rfl,HK,HI,HFb⟩:=hrel;obtain⟨W1,rfl⟩:∃ w',w'=wr:=⟨_,rfl⟩;by_cases hlt1:k1<n2
  case pos =>
   have hka:k1<(x.services).length:=by rw[<-HN2.out];exact hlt1
   obtain⟨g1,off1,cs,rfl,-,he,hc⟩:=ah.get H2.out hka (by omega);have HD:=HK.out;rw[Chk.dY _ _ hka]at HD;have hfi:=dA.out.sv _ (xR hka);generalize(x.services)[k1]=r at *;obtain⟨rn,rf⟩:=r;obtain⟨u,rfl,HU⟩:=he;simp only at HU hc HD hfi;obtain⟨A5,n5,c5,rfl⟩:=ah.is HU;have hn5:n5=rf.length:=by obtain⟨_,_,e,_⟩:=ah.slice HU;injection e
   have hm5:n5<=10000:=by rw[hn5];exact xM hfi.2.1 (by decide)
   have HN5:=hid hn5;have H5:=hid HU;clear HU hn5;have bI:=hid hfi;have HD1:=hid HD;have hB:=HI.out.b0;have a0:=hc 0 _ rfl;have a1:=hc 1 _ rfl;have aC:g1<w0.heap.size:=xH w0 _ a0;have a0:=(hB.cell aC).trans a0;have a1:=(hB.cell aC).trans a1;simp only[xK]at a0;have i10:(0:Int)<=(k1:Int):=by omega
   have i11:(k1:Int)<(n2:Int):=by omega
   have hbw:=hB.size;have hgw1:¬g1=W1.heap.size:=by omega
   clear hc hB hka HD HK hfi hbw;go_upto_region 4 with(fail)
   refine aj (λV1 hV=>?_);obtain⟨hbV,hqV,-⟩:=au hV;clear hV;replace HI:=hid (HI.out.below hbV);replace HFb:=hid (HFb.out.below hbV);have HQ1:=hid hqV;clear hqV hbV a0 a1;obtain⟨⟨b0,b1⟩,-⟩:=HQ1.out.k2;go_wp2_with fail;clear b0 b1;have HSi:Hid ((Chk.run 134 (((x.services).drop (k1+1)).flatMap (Chk.fU x)) (Chk.run 134 (rf.flatMap (Chk.jd x rn)) cu1))=R):=hid (by first|exact HD1.out|(rw[HN5.out];exact HD1.out));go_loopw [18] (λi wr=>∃(k:Nat)(cu:Chk.Flt),k<=n5/\i=.int .i64 k/\Hid ((Chk.run 134 (((x.services).drop (k1+1)).flatMap (Chk.fU x)) (Chk.run 134 (((rf).drop k).flatMap (Chk.jd x rn)) cu))=R)/\Hid (Chk.In w0 w wr f S)/\Hid (Chk.Fb wr f cu)/\Hid (Bk wr W1.heap.size 101 #[.string rn,.slice A5 n5 c5])) (λi _=>n5 - (intOf i).toNat)
   case atStart=>exact⟨0,_,by omega,rfl,HSi,HI,HFb,HQ1⟩
   case round =>
    clear HI HFb HSi HQ1;obtain⟨k2,cu2,hk2,rfl,HK,HI,HFb,HQ1⟩:=hrel;obtain⟨W2,rfl⟩:∃ w',w'=wr:=⟨_,rfl⟩;by_cases hlt2:k2<n5
    case pos =>
     have hka:k2<(rf).length:=by rw[<-HN5.out];exact hlt2
     obtain⟨g2,off2,cs,rfl,-,he,hc⟩:=ah.get H5.out hka (by omega);have HD:=HK.out;rw[Chk.dY _ _ hka]at HD;have hfi:=bI.out.2.2 _ (xR hka);generalize(rf)[k2]=r at *;obtain⟨m0,m1,m2,m3,m4⟩:=r;unfold Id.dV Id.Mth.cells at he;subst he;simp only at hc HD hfi;have iQ:=hid hfi;have HD2:=hid HD;have hB:=HI.out.b0;have a0:=hc 0 _ rfl;have a1:=hc 1 _ rfl;have a2:=hc 2 _ rfl;have a3:=hc 3 _ rfl;have a4:=hc 4 _ rfl;have aH:g2<w0.heap.size:=xH w0 _ a0;have a0:=(hB.cell aH).trans a0;have a1:=(hB.cell aH).trans a1;have a2:=(hB.cell aH).trans a2;have a3:=(hB.cell aH).trans a3;have a4:=(hB.cell aH).trans a4;simp only[xK]at a0;have i20:(0:Int)<=(k2:Int):=by omega
     have i21:(k2:Int)<(n5:Int):=by omega
     have hbw:=hB.size;have uD:¬g2=W2.heap.size:=by omega
     clear hc hB hka HD HK hfi hbw;go_upto_region 7 with(fail)
     refine aj (λV2 hV=>?_);obtain⟨hbV,hqV,-⟩:=au hV;clear hV;replace HI:=hid (HI.out.below hbV);replace HFb:=hid (HFb.out.below hbV);replace HQ1:=hid (HQ1.out.below hbV HQ1.out.lt);have HQ2:=hid hqV;clear hqV hbV a0 a1 a2 a3 a4;obtain⟨C,HC⟩:∃ C,Hid (Chk.contrary m3=C):=⟨_,hid rfl⟩;cases hE:C.toList.isEmpty
     case true =>
      have iw:=λ(w':World) (hb:Bl V2 w')=>(Bk.k2 (HQ1.out.below hb HQ1.out.lt)).1.1
      have iq:=λ(w':World) (hb:Bl V2 w')=>(Bk.k2 (HQ1.out.below hb HQ1.out.lt)).1.2
      have ig:=λ(w':World) (hb:Bl V2 w')=>(Bk.k5 (HQ2.out.below hb HQ2.out.lt)).1.1
      have gZ:=λ(w':World) (hb:Bl V2 w')=>(Bk.k5 (HQ2.out.below hb HQ2.out.lt)).1.2.1
      have iK:=λ(w':World) (hb:Bl V2 w')=>(Bk.k5 (HQ2.out.below hb HQ2.out.lt)).1.2.2.1
      have qY:=λ(w':World) (hb:Bl V2 w')=>(Bk.k5 (HQ2.out.below hb HQ2.out.lt)).1.2.2.2.1
      have qX:=λ(w':World) (hb:Bl V2 w')=>(Bk.k5 (HQ2.out.below hb HQ2.out.lt)).1.2.2.2.2
      have dS:=Chk.fC bf.out HI.out;have hCt:=λ(w':World) (hb:Bl V2 w')=>(show Calls Tryz.prog 111 #[.string m3] w' (λe w''=>e=.returned (.string C)/\Bl V2 w'')from(qU m3 w').mono λ_ _ ⟨he,hw⟩=>⟨by rw[<-HC.out];exact he,by rw[hw];exact hb⟩)
      have hOr:=λ(w':World) (hb:Bl V2 w')=>fG hb (vW _ x m1 dA.out.small w' (Id.ay.below (HI.out.b0.trans (Below.mono hb HI.out.b0.size)) HV.out))
      have hPt:=λ(w':World) (hb:Bl V2 w')=>(show Calls Tryz.prog 108 #[.string rn,.string m0] w' (λe w''=>e=.returned (.string (Chk.part rn m0))/\Bl V2 w'')from(dD rn m0 bI.out.1 iQ.out.1 w').mono λ_ _ ⟨he,hw⟩=>⟨he,by rw[hw];exact hb⟩)
      refine Lst.dh V2 (Bl.refl V2) (by simp only[yA,xZ];rfl) (by kernel_rfl) (by kernel_rfl) (by kernel_rfl) rfl ?_;simp only[yC,yB];repeat(first|go_big_quiet_step((intro hb;first|(go_at_call 111;exact hCt _ hb)|(go_at_call 112;exact hOr _ hb)|(go_at_call 108;exact hPt _ hb)))|(refine wpQuiet_step (λK hK=>?_);rw[if_pos (by rfl)];refine dw _ _ rfl _ rfl _ _ _ (by assumption) Tryz.underlying28 rfl (by kernel_rfl) ?_;go_simp;refine hK _ ?_;clear hK K)|(refine wpQuiet_step (λK hK=>?_);rw[if_pos (by rfl)];refine Lst.aF _ _ rfl _ rfl _ (by assumption) _ Tryz.underlying9 rfl ?_;go_simp;refine hK _ ?_;clear hK K)|(refine wpQuiet_step (λK hK=>?_);go_simp;refine⟨_,λ_ _=>rfl,hK _ ?_⟩;clear hK K))
      refine wpQuiet_nil ?_;intro X1 hX1 K hK;have HAT:=hid (Chk.bP HI.out HFb.out hX1 (false) (Chk.part rn m0) 134);clear iw iq ig gZ iK qY qX dS hCt hOr hPt;go_simp;refine HAT.out.mono ?_;rintro e X⟨rfl,hg,hi,hf⟩;refine hK _ _ ?_;replace HQ1:=hid (Bk.grown HQ1.out hg (Chk.aN HFb.out HQ1.out (by decide)));replace HQ2:=hid (Bk.grown HQ2.out hg (Chk.aN HFb.out HQ2.out (by decide)));clear HI HFb;have HI:=hid hi;have HFb:=hid hf;clear hi hf hg;clear hK K HAT;have bV:Hid ((Chk.run 134 (((x.services).drop (k1+1)).flatMap (Chk.fU x)) (Chk.run 134 (((rf).drop (k2+1)).flatMap (Chk.jd x rn)) (Chk.at_ (false) (Chk.part rn m0) 134 cu2)))=R):=hid (by rw[<-HD2.out];unfold Chk.jd;simp only[HC.out,hE];rfl);go_wp2_with fail;go_roundw
      case rel=>exact⟨k2+1,_,by omega,by go_num,bV,HI,HFb,HQ1⟩
      case measure=>simp[intOf];omega
     case false =>
      have iw:=λ(w':World) (hb:Bl V2 w')=>(Bk.k2 (HQ1.out.below hb HQ1.out.lt)).1.1
      have iq:=λ(w':World) (hb:Bl V2 w')=>(Bk.k2 (HQ1.out.below hb HQ1.out.lt)).1.2
      have ig:=λ(w':World) (hb:Bl V2 w')=>(Bk.k5 (HQ2.out.below hb HQ2.out.lt)).1.1
      have gZ:=λ(w':World) (hb:Bl V2 w')=>(Bk.k5 (HQ2.out.below hb HQ2.out.lt)).1.2.1
      have iK:=λ(w':World) (hb:Bl V2 w')=>(Bk.k5 (HQ2.out.below hb HQ2.out.lt)).1.2.2.1
      have qY:=λ(w':World) (hb:Bl V2 w')=>(Bk.k5 (HQ2.out.below hb HQ2.out.lt)).1.2.2.2.1
      have qX:=λ(w':World) (hb:Bl V2 w')=>(Bk.k5 (HQ2.out.below hb HQ2.out.lt)).1.2.2.2.2
      have dS:=Chk.fC bf.out HI.out;have hCt:=λ(w':World) (hb:Bl V2 w')=>(show Calls Tryz.prog 111 #[.string m3] w' (λe w''=>e=.returned (.string C)/\Bl V2 w'')from(qU m3 w').mono λ_ _ ⟨he,hw⟩=>⟨by rw[<-HC.out];exact he,by rw[hw];exact hb⟩)
      have hOr:=λ(w':World) (hb:Bl V2 w')=>fG hb (vW _ x m1 dA.out.small w' (Id.ay.below (HI.out.b0.trans (Below.mono hb HI.out.b0.size)) HV.out))
      have hPt:=λ(w':World) (hb:Bl V2 w')=>(show Calls Tryz.prog 108 #[.string rn,.string m0] w' (λe w''=>e=.returned (.string (Chk.part rn m0))/\Bl V2 w'')from(dD rn m0 bI.out.1 iQ.out.1 w').mono λ_ _ ⟨he,hw⟩=>⟨he,by rw[hw];exact hb⟩)
      refine Lst.dh V2 (Bl.refl V2) (by simp only[yA,xZ];rfl) (by kernel_rfl) (by kernel_rfl) (by kernel_rfl) rfl ?_;simp only[yC,yB];repeat(first|go_big_quiet_step((intro hb;first|(go_at_call 111;exact hCt _ hb)|(go_at_call 112;exact hOr _ hb)|(go_at_call 108;exact hPt _ hb)))|(refine wpQuiet_step (λK hK=>?_);rw[if_pos (by rfl)];refine dw _ _ rfl _ rfl _ _ _ (by assumption) Tryz.underlying28 rfl (by kernel_rfl) ?_;go_simp;refine hK _ ?_;clear hK K)|(refine wpQuiet_step (λK hK=>?_);rw[if_pos (by rfl)];refine Lst.aF _ _ rfl _ rfl _ (by assumption) _ Tryz.underlying9 rfl ?_;go_simp;refine hK _ ?_;clear hK K)|(refine wpQuiet_step (λK hK=>?_);go_simp;refine⟨_,λ_ _=>rfl,hK _ ?_⟩;clear hK K))
      refine wpQuiet_nil ?_;intro X1 hX1 K hK;have HAT:=hid (Chk.bP HI.out HFb.out hX1 (Chk.order x m1) (Chk.part rn m0) 134);clear iw iq ig gZ iK qY qX dS hCt hOr hPt;go_simp;refine HAT.out.mono ?_;rintro e X⟨rfl,hg,hi,hf⟩;refine hK _ _ ?_;replace HQ1:=hid (Bk.grown HQ1.out hg (Chk.aN HFb.out HQ1.out (by decide)));replace HQ2:=hid (Bk.grown HQ2.out hg (Chk.aN HFb.out HQ2.out (by decide)));clear HI HFb;have HI:=hid hi;have HFb:=hid hf;clear hi hf hg;clear hK K HAT;have bV:Hid ((Chk.run 134 (((x.services).drop (k1+1)).flatMap (Chk.fU x)) (Chk.run 134 (((rf).drop (k2+1)).flatMap (Chk.jd x rn)) (Chk.at_ (Chk.order x m1) (Chk.part rn m0) 134 cu2)))=R):=hid (by rw[<-HD2.out];unfold Chk.jd;simp only[HC.out,hE];rfl);go_wp2_with fail;go_roundw
      case rel=>exact⟨k2+1,_,by omega,by go_num,bV,HI,HFb,HQ1⟩
      case measure=>simp[intOf];omega
    have HS2:Hid ((Chk.run 134 (((x.services).drop (k1+1)).flatMap (Chk.fU x)) cu2)=R):=hid (by have h:=HK.out;rw[Chk.dZ _ _ (show(rf).length<=k2 by rw[<-HN5.out];omega)]at h;exact h);clear HK hk2;have gX:Hid ((Chk.run 134 (((x.services).drop (k1+1)).flatMap (Chk.fU x)) cu2)=R):=hid (by exact HS2.out);go_wp2_with fail;go_roundw
    case rel=>exact⟨k1+1,_,by omega,by go_num,gX,HI,HFb⟩
    case measure=>simp[intOf];omega
  have HS1:Hid (cu1=R):=hid (by have h:=HK.out;rw[Chk.dZ _ _ (show(x.services).length<=k1 by rw[<-HN2.out];omega)]at h;exact h);clear HK hk1;go_wp2_with fail;refine bodyPost_end (results_none rfl _ _ _) rfl ?_;exact⟨rfl,HI.out.gb,by rw[<-HS1.out];exact HFb.out⟩
