import Derived.Test.YtogijkhenihaaaaGreatDoorGB08
set_option linter.all false
set_option maxRecDepth 100000
set_option maxHeartbeats 0
namespace Go.Proofs.YtogijkhenihaaaaGreatDoor
open Lib (hid)
section
open Go.BigFrame Go.RowKit
theorem kM(b:Nat)(L xs:List ByteArray)(n:Nat)(cs:Array Value)(hn:xs.length=n)(hc:(xs.map Value.string).toArray=cs)(w0 w W:World)(M:List ByteArray)(h:Prn.Put w0 w b L M W)(hl:L.length+M.length+xs.length<=8000000000000)
  {g:Nat} {T:TypeId} {bx:Array Value} (hq:Bk W g T bx) (h1:T≠9) (h2:T≠96) :
  Calls Tryz.prog 49 #[.pointer (some ⟨b,0,none⟩),.slice (some ⟨W.heap.size,0,none⟩) n n] (W.alloc (.cells cs 9)) λe w'=>e=.returned (.tuple #[])/\Prn.Put w0 w b L (M++xs) w'/\Bk w' g T bx:=by
 subst hn hc;have h1':=h.below (w2:=W.alloc (.cells (xs.map Value.string).toArray 9)) ((Below.refl _ _).alloc (xB _) _);have hrow:=Et (W:=W) (l:=xs) rfl (by omega);have hbs:=h.bel.size;refine(CW b (L++M) xs _ w0 _ h1'.bel h1'.wr (ah.mono hrow (λ_ _ hr=>hr.weak (λb' e'=>⟨_,rfl,by injection e' with e';omega⟩)) (λ_ _ h=>h)) (by rw[xI];omega)).mono ?_;exact λe w' ⟨k2,k3⟩=>⟨k2,h1'.step k3,k3.on.bk (hq.alloc _) h1 h2⟩
theorem ET(b:Nat)(L:List ByteArray)(r:Id.Rec)(u:Value)(w0 w:World)(hb:Below w0.heap.size w0 w)(hw:Prn.Wr w w0.heap.size b L)(hv:Id.jC w0 none u r.fields)(hl:L.length+(Prn.eu r).length<=8000000000000) :
  Calls Tryz.prog 50 #[.pointer (some ⟨b,0,none⟩),.agg #[.string r.name,.bool r.choice,u]] w λe w'=>e=.returned (.tuple #[])/\Prn.Put w0 w b L (Prn.eu r) w':=by
 obtain⟨rn,rc,rf⟩:=r;simp only at hv hl ⊢;obtain⟨A5,n5,c5,rfl⟩:=ah.is hv;have HN5:Hid (n5=rf.length):=hid (by obtain⟨_,_,e,_⟩:=ah.slice hv;injection e);have hm5:n5<=9223372036854775807:=by obtain⟨_,_,e,_,_⟩:=ah.slice hv;injection e;omega
 have H5:=hid hv;have HP0:=hid (Prn.Put.start hb hw);have hlen:L.length+(rf.flatMap Prn.fF).length+4<=8000000000000:=by have h:=hl;simp only[Prn.eu,xJ,xI,xO]at h;omega
 clear hb hw hv hl;obtain⟨wd,HWD⟩:∃ wd,Hid ((if rc then Id.jo else Id.jm)=wd):=⟨_,hid rfl⟩;have HRW:Hid (Prn.eu ⟨rn,rc,rf⟩=[wd,rn,Id.bF]++(rf.flatMap Prn.fF++[Id.aJ])):=hid (by rw[<-HWD.out];rfl);rw[HRW.out];go_enter Tryz.func50,Tryz.ntmps50;go_upto_region 1 with(fail)
 refine aj (λV0 hW=>?_);obtain⟨hbx,hqx,-⟩:=au hW;have HPa:=hid (HP0.out.below hbx);have HQ:=hid hqx;clear hW hbx hqx;obtain⟨⟨b0,b1,b2⟩,-⟩:=HQ.out.k3;cases rc
 case false =>
  obtain rfl:Id.jm=wd:=HWD.out;clear HWD HRW;go_wp2_with fail;refine(kM b L [Id.jm,rn,Id.bF] 3 #[.string Id.jm,.string rn,.string Id.bF] rfl rfl w0 w _ _ HPa.out (by simp only[xJ,xO];omega) HQ.out (by decide) (by decide)).mono ?_;rintro e V1⟨rfl,hp,hq⟩;have HPb:=hid hp;clear hp HQ;have HQ:=hid hq;clear hq;clear b0 b1 b2;obtain⟨⟨b0,b1,b2⟩,-⟩:=HQ.out.k3;go_wp2_with fail;go_loopw [18] (λi wr=>∃(k:Nat),k<=n5/\i=.int .i64 k/\Hid (Prn.Put w0 w b L ([Id.jm,rn,Id.bF]++(rf.take k).flatMap Prn.fF) wr)) (λi _=>n5 - (intOf i).toNat)
  case atStart=>exact⟨0,by omega,rfl,HPb⟩
  case round =>
   clear HPb HPa HQ b0 b1 b2;obtain⟨k,hk,rfl,HP⟩:=hrel;obtain⟨V,rfl⟩:∃ w',w'=wr:=⟨_,rfl⟩;have ik0:(0:Int)<=(k:Int):=by omega
   by_cases hlt:k<n5
   case neg =>
    have HPx:Hid (Prn.Put w0 w b L ([Id.jm,rn,Id.bF]++rf.flatMap Prn.fF) V):=hid (by have h:=HP.out;rw[yE (by have:=HN5.out;omega)]at h;exact h);go_wp2_with fail;refine(fB b L [Id.aJ] 1 #[.string Id.aJ] rfl rfl w0 w _ _ HPx.out (by simp only[xI,xJ,xO];omega)).mono ?_;rintro e V9⟨rfl,hp⟩;have HP9:=hid hp;clear hp;have HPy:Hid (Prn.Put w0 w b L ([Id.jm,rn,Id.bF]++(rf.flatMap Prn.fF++[Id.aJ])) V9):=hid (HP9.out.cast (by simp only[xU]));go_wp2_with fail;exact bodyPost_end (results_none rfl _ _ _) rfl ⟨rfl,HPy.out⟩
   have hka:k<rf.length:=by rw[<-HN5.out];exact hlt
   obtain⟨g,off,cs,rfl,-,⟨u,he,HU⟩,hc⟩:=ah.get H5.out hka (by omega);have hfl:=Prn.jS Prn.fF hka;have HTK:=Prn.lX Prn.fF hka;obtain⟨⟨yn,yt⟩,Hy⟩:∃ y,Hid (rf[k]=y):=⟨_,hid rfl⟩;rw[Hy.out]at he HU hfl HTK;subst he;simp only at HU hc;obtain⟨A7,n7,c7,rfl⟩:=ah.is HU;have H7:=hid HU;have yc:=hid HTK;have hfw:(Prn.fF ⟨yn,yt⟩).length=yt.length+3:=by simp[Prn.fF]
   rw[hfw]at hfl;have a0:=hc 0 _ rfl;have a1:=hc 1 _ rfl;simp only[xK]at a0;have hgl:g<w0.heap.size:=xH w0 _ a0;have a0:=(HP.out.bel.cell hgl).trans a0;have a1:=(HP.out.bel.cell hgl).trans a1;have hbs:=HP.out.bel.size;have qP:¬g=V.heap.size:=by omega
   have ik1:(k:Int)<(n5:Int):=by omega
   generalize hM:((rf.take k).flatMap Prn.fF).length=m at hfl;have HM:=hid hM;generalize hT:yt.length=tl at hfl;have HTL:=hid hT;clear hc HU HTK hfw hM hT Hy hbs;go_upto_region 8 with(fail)
   refine aj (λV1 hW=>?_);obtain⟨hbx,hqx,-⟩:=au hW;have HPc:=hid (HP.out.below hbx);have HQ:=hid hqx;clear hW hbx hqx a0 a1 HP;obtain⟨⟨b0,b1⟩,-⟩:=HQ.out.k2;go_wp2_with fail;refine(kM b L [yn,Id.iU] 2 #[.string yn,.string Id.iU] rfl rfl w0 w _ _ HPc.out (by simp only[xI,xJ,xO,HM.out];omega) HQ.out (by decide) (by decide)).mono ?_;rintro e V2⟨rfl,hp,hq⟩;have HPd:=hid hp;clear hp HQ;have HQ:=hid hq;clear hq;clear b0 b1;obtain⟨⟨b0,b1⟩,-⟩:=HQ.out.k2;go_wp2_with fail;refine(ql b _ yt _ w0 V2 HPd.out.bel HPd.out.wr (λw' hb _=>ah.below H7.out hb (λ_ _ h=>h)) (by simp only[xI,xJ,xO,HM.out,HTL.out];omega)).mono ?_;rintro e V3⟨rfl,hp⟩;have HPe:=hid (HPd.out.step hp);clear hp b0 b1 HQ;go_wp2_with fail;refine(fB b L [Id.aQ] 1 #[.string Id.aQ] rfl rfl w0 w _ _ HPe.out (by simp only[xI,xJ,xO,List.length_map,HM.out,HTL.out];omega)).mono ?_;rintro e V4⟨rfl,hp⟩;have HPf:=hid hp;clear hp;have HPg:Hid (Prn.Put w0 w b L ([Id.jm,rn,Id.bF]++(rf.take (k+1)).flatMap Prn.fF) V4):=hid (HPf.out.cast (by rw[yc.out];simp only[Prn.fF,xU,List.cons_append,yI]));go_wp2_with fail;go_roundw
   case rel=>exact⟨k+1,by omega,by go_num,HPg⟩
   case measure=>simp[intOf]<;>omega
 case true =>
  obtain rfl:Id.jo=wd:=HWD.out;clear HWD HRW;go_wp2_with fail;refine(kM b L [Id.jo,rn,Id.bF] 3 #[.string Id.jo,.string rn,.string Id.bF] rfl rfl w0 w _ _ HPa.out (by simp only[xJ,xO];omega) HQ.out (by decide) (by decide)).mono ?_;rintro e V1⟨rfl,hp,hq⟩;have HPb:=hid hp;clear hp HQ;have HQ:=hid hq;clear hq;clear b0 b1 b2;obtain⟨⟨b0,b1,b2⟩,-⟩:=HQ.out.k3;go_wp2_with fail;go_loopw [18] (λi wr=>∃(k:Nat),k<=n5/\i=.int .i64 k/\Hid (Prn.Put w0 w b L ([Id.jo,rn,Id.bF]++(rf.take k).flatMap Prn.fF) wr)) (λi _=>n5 - (intOf i).toNat)
  case atStart=>exact⟨0,by omega,rfl,HPb⟩
  case round =>
   clear HPb HPa HQ b0 b1 b2;obtain⟨k,hk,rfl,HP⟩:=hrel;obtain⟨V,rfl⟩:∃ w',w'=wr:=⟨_,rfl⟩;have ik0:(0:Int)<=(k:Int):=by omega
   by_cases hlt:k<n5
   case neg =>
    have HPx:Hid (Prn.Put w0 w b L ([Id.jo,rn,Id.bF]++rf.flatMap Prn.fF) V):=hid (by have h:=HP.out;rw[yE (by have:=HN5.out;omega)]at h;exact h);go_wp2_with fail;refine(fB b L [Id.aJ] 1 #[.string Id.aJ] rfl rfl w0 w _ _ HPx.out (by simp only[xI,xJ,xO];omega)).mono ?_;rintro e V9⟨rfl,hp⟩;have HP9:=hid hp;clear hp;have HPy:Hid (Prn.Put w0 w b L ([Id.jo,rn,Id.bF]++(rf.flatMap Prn.fF++[Id.aJ])) V9):=hid (HP9.out.cast (by simp only[xU]));go_wp2_with fail;exact bodyPost_end (results_none rfl _ _ _) rfl ⟨rfl,HPy.out⟩
   have hka:k<rf.length:=by rw[<-HN5.out];exact hlt
   obtain⟨g,off,cs,rfl,-,⟨u,he,HU⟩,hc⟩:=ah.get H5.out hka (by omega);have hfl:=Prn.jS Prn.fF hka;have HTK:=Prn.lX Prn.fF hka;obtain⟨⟨yn,yt⟩,Hy⟩:∃ y,Hid (rf[k]=y):=⟨_,hid rfl⟩;rw[Hy.out]at he HU hfl HTK;subst he;simp only at HU hc;obtain⟨A7,n7,c7,rfl⟩:=ah.is HU;have H7:=hid HU;have yc:=hid HTK;have hfw:(Prn.fF ⟨yn,yt⟩).length=yt.length+3:=by simp[Prn.fF]
   rw[hfw]at hfl;have a0:=hc 0 _ rfl;have a1:=hc 1 _ rfl;simp only[xK]at a0;have hgl:g<w0.heap.size:=xH w0 _ a0;have a0:=(HP.out.bel.cell hgl).trans a0;have a1:=(HP.out.bel.cell hgl).trans a1;have hbs:=HP.out.bel.size;have qP:¬g=V.heap.size:=by omega
   have ik1:(k:Int)<(n5:Int):=by omega
   generalize hM:((rf.take k).flatMap Prn.fF).length=m at hfl;have HM:=hid hM;generalize hT:yt.length=tl at hfl;have HTL:=hid hT;clear hc HU HTK hfw hM hT Hy hbs;go_upto_region 8 with(fail)
   refine aj (λV1 hW=>?_);obtain⟨hbx,hqx,-⟩:=au hW;have HPc:=hid (HP.out.below hbx);have HQ:=hid hqx;clear hW hbx hqx a0 a1 HP;obtain⟨⟨b0,b1⟩,-⟩:=HQ.out.k2;go_wp2_with fail;refine(kM b L [yn,Id.iU] 2 #[.string yn,.string Id.iU] rfl rfl w0 w _ _ HPc.out (by simp only[xI,xJ,xO,HM.out];omega) HQ.out (by decide) (by decide)).mono ?_;rintro e V2⟨rfl,hp,hq⟩;have HPd:=hid hp;clear hp HQ;have HQ:=hid hq;clear hq;clear b0 b1;obtain⟨⟨b0,b1⟩,-⟩:=HQ.out.k2;go_wp2_with fail;refine(ql b _ yt _ w0 V2 HPd.out.bel HPd.out.wr (λw' hb _=>ah.below H7.out hb (λ_ _ h=>h)) (by simp only[xI,xJ,xO,HM.out,HTL.out];omega)).mono ?_;rintro e V3⟨rfl,hp⟩;have HPe:=hid (HPd.out.step hp);clear hp b0 b1 HQ;go_wp2_with fail;refine(fB b L [Id.aQ] 1 #[.string Id.aQ] rfl rfl w0 w _ _ HPe.out (by simp only[xI,xJ,xO,List.length_map,HM.out,HTL.out];omega)).mono ?_;rintro e V4⟨rfl,hp⟩;have HPf:=hid hp;clear hp;have HPg:Hid (Prn.Put w0 w b L ([Id.jo,rn,Id.bF]++(rf.take (k+1)).flatMap Prn.fF) V4):=hid (HPf.out.cast (by rw[yc.out];simp only[Prn.fF,xU,List.cons_append,yI]));go_wp2_with fail;go_roundw
   case rel=>exact⟨k+1,by omega,by go_num,HPg⟩
   case measure=>simp[intOf]<;>omega
theorem DX(b:Nat)(L:List ByteArray)(r:Id.Svc)(u:Value)(w0 w:World)(hb:Below w0.heap.size w0 w)(hw:Prn.Wr w w0.heap.size b L)(hv:ah w0 none 180 5 Id.dV u r.methods)(hl:L.length+(Prn.dn r).length<=8000000000000) :
  Calls Tryz.prog 51 #[.pointer (some ⟨b,0,none⟩),.agg #[.string r.name,u]] w λe w'=>e=.returned (.tuple #[])/\Prn.Put w0 w b L (Prn.dn r) w':=by
 obtain⟨rn,rf⟩:=r;simp only at hv hl ⊢;obtain⟨A5,n5,c5,rfl⟩:=ah.is hv;have HN5:Hid (n5=rf.length):=hid (by obtain⟨_,_,e,_⟩:=ah.slice hv;injection e);have hm5:n5<=9223372036854775807:=by obtain⟨_,_,e,_,_⟩:=ah.slice hv;injection e;omega
 have H5:=hid hv;have HP0:=hid (Prn.Put.start hb hw);have hlen:L.length+(rf.flatMap Prn.iZ).length+4<=8000000000000:=by have h:=hl;simp only[Prn.dn,xJ,xI,xO]at h;omega
 clear hb hw hv hl;have HRW:Hid (Prn.dn ⟨rn,rf⟩=[Id.iL,rn,Id.bF]++(rf.flatMap Prn.iZ++[Id.aJ])):=hid rfl;rw[HRW.out];clear HRW;go_enter Tryz.func51,Tryz.ntmps51;go_upto_region 1 with(fail)
 refine aj (λV0 hW=>?_);obtain⟨hbx,hqx,-⟩:=au hW;have HPa:=hid (HP0.out.below hbx);have HQ:=hid hqx;clear hW hbx hqx;obtain⟨⟨b0,b1⟩,-⟩:=HQ.out.k2;go_wp2_with fail;refine(kM b L [Id.iL,rn,Id.bF] 3 #[.string Id.iL,.string rn,.string Id.bF] rfl rfl w0 w _ _ HPa.out (by simp only[xJ,xO];omega) HQ.out (by decide) (by decide)).mono ?_;rintro e V1⟨rfl,hp,hq⟩;have HPb:=hid hp;clear hp HQ;have HQ:=hid hq;clear hq;clear b0 b1;obtain⟨⟨b0,b1⟩,-⟩:=HQ.out.k2;go_wp2_with fail;go_loopw [14] (λi wr=>∃(k:Nat),k<=n5/\i=.int .i64 k/\Hid (Prn.Put w0 w b L ([Id.iL,rn,Id.bF]++(rf.take k).flatMap Prn.iZ) wr)) (λi _=>n5 - (intOf i).toNat)
 case atStart=>exact⟨0,by omega,rfl,HPb⟩
 case round =>
  clear HPb HPa HQ b0 b1;obtain⟨k,hk,rfl,HP⟩:=hrel;obtain⟨V,rfl⟩:∃ w',w'=wr:=⟨_,rfl⟩;have ik0:(0:Int)<=(k:Int):=by omega
  by_cases hlt:k<n5
  case neg =>
   have HPx:Hid (Prn.Put w0 w b L ([Id.iL,rn,Id.bF]++rf.flatMap Prn.iZ) V):=hid (by have h:=HP.out;rw[yE (by have:=HN5.out;omega)]at h;exact h);go_wp2_with fail;refine(fB b L [Id.aJ] 1 #[.string Id.aJ] rfl rfl w0 w _ _ HPx.out (by simp only[xI,xJ,xO];omega)).mono ?_;rintro e V9⟨rfl,hp⟩;have HP9:=hid hp;clear hp;have HPy:Hid (Prn.Put w0 w b L ([Id.iL,rn,Id.bF]++(rf.flatMap Prn.iZ++[Id.aJ])) V9):=hid (HP9.out.cast (by simp only[xU]));go_wp2_with fail;exact bodyPost_end (results_none rfl _ _ _) rfl ⟨rfl,HPy.out⟩
  have hka:k<rf.length:=by rw[<-HN5.out];exact hlt
  obtain⟨g,off,cs,rfl,-,he,hc⟩:=ah.get H5.out hka (by omega);have hfl:=Prn.jS Prn.iZ hka;have HTK:=Prn.lX Prn.iZ hka;obtain⟨⟨m0,m1,m2,m3,m4⟩,Hy⟩:∃ y,Hid (rf[k]=y):=⟨_,hid rfl⟩;rw[Hy.out]at he hfl HTK;unfold Id.dV Id.Mth.cells at he;subst he;have yc:=hid HTK;have hfw:(Prn.iZ ⟨m0,m1,m2,m3,m4⟩).length=(Prn.kR ⟨m0,m1,m2,m3,m4⟩).length+8:=by simp[Prn.iZ]
  rw[hfw]at hfl;have a0:=hc 0 _ rfl;have a1:=hc 1 _ rfl;have a2:=hc 2 _ rfl;have a3:=hc 3 _ rfl;have a4:=hc 4 _ rfl;simp only[xK]at a0;have hgl:g<w0.heap.size:=xH w0 _ a0;have a0:=(HP.out.bel.cell hgl).trans a0;have a1:=(HP.out.bel.cell hgl).trans a1;have a2:=(HP.out.bel.cell hgl).trans a2;have a3:=(HP.out.bel.cell hgl).trans a3;have a4:=(HP.out.bel.cell hgl).trans a4;have hbs:=HP.out.bel.size;have qP:¬g=V.heap.size:=by omega
  have ik1:(k:Int)<(n5:Int):=by omega
  generalize hM:((rf.take k).flatMap Prn.iZ).length=m at hfl;have HM:=hid hM;clear hc HTK hfw hM Hy hbs;go_upto_region 5 with(fail)
  refine aj (λV1 hW=>?_);obtain⟨hbx,hqx,-⟩:=au hW;have HPc:=hid (HP.out.below hbx);have HQ:=hid hqx;clear hW hbx hqx a0 a1 a2 a3 a4 HP;obtain⟨⟨b0,b1,b2,b3,b4⟩,-⟩:=HQ.out.k5;go_wp2_with fail;refine(kM b L [m3,m0,Id.iJ,m1,Id.gu,Id.jw] 6 #[.string m3,.string m0,.string Id.iJ,.string m1,.string Id.gu,.string Id.jw] rfl rfl w0 w _ _ HPc.out (by simp only[xI,xJ,xO,HM.out];omega) HQ.out (by decide) (by decide)).mono ?_;rintro e V2⟨rfl,hp,hq⟩;have HPd:=hid hp;clear hp HQ;have HQ:=hid hq;clear hq;clear b0 b1 b2 b3 b4;obtain⟨⟨b0,b1,b2,b3,b4⟩,-⟩:=HQ.out.k5;go_wp2_with fail;have Pv:=hid (HPd.out.below (w2:=V2.alloc (.cells #[.int .u8 m2,.string ⟨#[]⟩] 44)) ((Below.refl _ _).alloc (xB _) _));refine(ql b _ [⟨m2,⟨#[]⟩⟩] _ w0 _ Pv.out.bel Pv.out.wr (λw' _ ho=>Ll (ho.bk (Bk.new V2 _ _) (by decide) (by decide))) (by simp only[xI,xJ,xO,HM.out];omega)).mono ?_;rintro e V3⟨rfl,hp⟩;have HPe:=hid (Pv.out.step hp);have hq3:=hp.on.bk (HQ.out.alloc _) (by decide) (by decide);clear hp b0 b1 b2 b3 b4 HQ;have HQ:=hid hq3;clear hq3;obtain⟨⟨b0,b1,b2,b3,b4⟩,-⟩:=HQ.out.k5;cases hu:m4.toList.isEmpty
  case true =>
   have HUW:Hid (Prn.kR ⟨m0,m1,m2,m3,m4⟩=[]):=hid (by unfold Prn.kR;rw[if_pos hu]);have hul:(Prn.kR ⟨m0,m1,m2,m3,m4⟩).length=0:=by rw[HUW.out];rfl
   rw[hul]at hfl;clear hul HQ;go_wp2_with fail;refine(fB b L [Id.aQ] 1 #[.string Id.aQ] rfl rfl w0 w _ _ HPe.out (by simp only[xI,xJ,xO,List.length_map,HM.out];omega)).mono ?_;rintro e V5⟨rfl,hp⟩;have HPf:=hid hp;clear hp;have HPg:Hid (Prn.Put w0 w b L ([Id.iL,rn,Id.bF]++(rf.take (k+1)).flatMap Prn.iZ) V5):=hid (HPf.out.cast (by rw[yc.out];simp only[Prn.iZ,HUW.out,xU,List.cons_append,yI,List.map_cons,List.map_nil]));go_wp2_with fail;go_roundw
   case rel=>exact⟨k+1,by omega,by go_num,HPg⟩
   case measure=>simp[intOf]<;>omega
  case false =>
   have HUW:Hid (Prn.kR ⟨m0,m1,m2,m3,m4⟩=[Id.iI,m4]):=hid (by unfold Prn.kR;rw[if_neg (by rw[hu];decide)]);have hul:(Prn.kR ⟨m0,m1,m2,m3,m4⟩).length=2:=by rw[HUW.out];rfl
   rw[hul]at hfl;clear hul;go_wp2_with fail;refine(kM b L [Id.iI,m4] 2 #[.string Id.iI,.string m4] rfl rfl w0 w _ _ HPe.out (by simp only[xI,xJ,xO,List.length_map,HM.out];omega) HQ.out (by decide) (by decide)).mono ?_;rintro e V4⟨rfl,hp,hq⟩;have HPq:=hid hp;clear hp HQ;have HQ:=hid hq;clear hq;clear b0 b1 b2 b3 b4 HQ;go_wp2_with fail;refine(fB b L [Id.aQ] 1 #[.string Id.aQ] rfl rfl w0 w _ _ HPq.out (by simp only[xI,xJ,xO,List.length_map,HM.out];omega)).mono ?_;rintro e V5⟨rfl,hp⟩;have HPf:=hid hp;clear hp;have HPg:Hid (Prn.Put w0 w b L ([Id.iL,rn,Id.bF]++(rf.take (k+1)).flatMap Prn.iZ) V5):=hid (HPf.out.cast (by rw[yc.out];simp only[Prn.iZ,HUW.out,xU,List.cons_append,yI,List.map_cons,List.map_nil]));go_wp2_with fail;go_roundw
   case rel=>exact⟨k+1,by omega,by go_num,HPg⟩
   case measure=>simp[intOf]<;>omega
theorem Jo(b:Nat)(L:List ByteArray)(r:Id.Sag)(u:Value)(w0 w:World)(hb:Below w0.heap.size w0 w)(hw:Prn.Wr w w0.heap.size b L)(hv:ah w0 none 184 3 Id.dU u r.steps)(ha:∀ p∈r.steps,0<=p.at_/\p.at_<100)(hl:L.length+(Prn.bW r).length<=8000000000000) :
  Calls Tryz.prog 52 #[.pointer (some ⟨b,0,none⟩),.agg #[.string r.name,.string r.arg,u]] w λe w'=>e=.returned (.tuple #[])/\Prn.Put w0 w b L (Prn.bW r) w':=by
 have HAT:=hid ha;clear ha;obtain⟨rn,ra,rf⟩:=r;simp only at hv hl HAT ⊢;obtain⟨A5,n5,c5,rfl⟩:=ah.is hv;have HN5:Hid (n5=rf.length):=hid (by obtain⟨_,_,e,_⟩:=ah.slice hv;injection e);have hm5:n5<=9223372036854775807:=by obtain⟨_,_,e,_,_⟩:=ah.slice hv;injection e;omega
 have H5:=hid hv;have HP0:=hid (Prn.Put.start hb hw);have hlen:L.length+(rf.flatMap Prn.kD).length+7<=8000000000000:=by have h:=hl;simp only[Prn.bW,xJ,xI,xO]at h;omega
 clear hb hw hv hl;have HRW:Hid (Prn.bW ⟨rn,ra,rf⟩=[Id.lT,rn,Id.iJ,ra,Id.gu,Id.bF]++(rf.flatMap Prn.kD++[Id.aJ])):=hid rfl;rw[HRW.out];clear HRW;go_enter Tryz.func52,Tryz.ntmps52;go_upto_region 1 with(fail)
 refine aj (λV0 hW=>?_);obtain⟨hbx,hqx,-⟩:=au hW;have HPa:=hid (HP0.out.below hbx);have HQ:=hid hqx;clear hW hbx hqx;obtain⟨⟨b0,b1,b2⟩,-⟩:=HQ.out.k3;go_wp2_with fail;refine(kM b L [Id.lT,rn,Id.iJ,ra,Id.gu,Id.bF] 6 #[.string Id.lT,.string rn,.string Id.iJ,.string ra,.string Id.gu,.string Id.bF] rfl rfl w0 w _ _ HPa.out (by simp only[xJ,xO];omega) HQ.out (by decide) (by decide)).mono ?_;rintro e V1⟨rfl,hp,hq⟩;have HPb:=hid hp;clear hp HQ;have HQ:=hid hq;clear hq;clear b0 b1 b2;obtain⟨⟨b0,b1,b2⟩,-⟩:=HQ.out.k3;go_wp2_with fail;go_loopw [16] (λi wr=>∃(k:Nat),k<=n5/\i=.int .i64 k/\Hid (Prn.Put w0 w b L ([Id.lT,rn,Id.iJ,ra,Id.gu,Id.bF]++(rf.take k).flatMap Prn.kD) wr)) (λi _=>n5 - (intOf i).toNat)
 case atStart=>exact⟨0,by omega,rfl,HPb⟩
 case round =>
  clear HPb HPa HQ b0 b1 b2;obtain⟨k,hk,rfl,HP⟩:=hrel;obtain⟨V,rfl⟩:∃ w',w'=wr:=⟨_,rfl⟩;have ik0:(0:Int)<=(k:Int):=by omega
  by_cases hlt:k<n5
  case neg =>
   have HPx:Hid (Prn.Put w0 w b L ([Id.lT,rn,Id.iJ,ra,Id.gu,Id.bF]++rf.flatMap Prn.kD) V):=hid (by have h:=HP.out;rw[yE (by have:=HN5.out;omega)]at h;exact h);go_wp2_with fail;refine(fB b L [Id.aJ] 1 #[.string Id.aJ] rfl rfl w0 w _ _ HPx.out (by simp only[xI,xJ,xO];omega)).mono ?_;rintro e V9⟨rfl,hp⟩;have HP9:=hid hp;clear hp;have HPy:Hid (Prn.Put w0 w b L ([Id.lT,rn,Id.iJ,ra,Id.gu,Id.bF]++(rf.flatMap Prn.kD++[Id.aJ])) V9):=hid (HP9.out.cast (by simp only[xU]));go_wp2_with fail;exact bodyPost_end (results_none rfl _ _ _) rfl ⟨rfl,HPy.out⟩
  have hka:k<rf.length:=by rw[<-HN5.out];exact hlt
  obtain⟨g,off,cs,rfl,-,he,hc⟩:=ah.get H5.out hka (by omega);have hfl:=Prn.jS Prn.kD hka;have HTK:=Prn.lX Prn.kD hka;have hat:=HAT.out _ (xR hka);obtain⟨⟨p0,p1,p2⟩,Hy⟩:∃ y,Hid (rf[k]=y):=⟨_,hid rfl⟩;rw[Hy.out]at he hfl HTK hat;unfold Id.dU Id.Stp.cells at he;subst he;have yc:=hid HTK;simp only at hat;obtain⟨q,rfl⟩:∃ q:Nat,p2=q:=⟨p2.toNat,by omega⟩;have J8:q<100:=by omega
  have HNW:Hid ((⟨(Lib.decDigits q).toArray⟩:ByteArray)=Prn.qO q):=hid (by unfold Prn.qO;rw[Lib.itoa_nonneg]);have hfw:(Prn.kD ⟨p0,p1,(q:Int)⟩).length=7:=rfl;rw[hfw]at hfl;have a0:=hc 0 _ rfl;have a1:=hc 1 _ rfl;have a2:=hc 2 _ rfl;simp only[xK]at a0;have hgl:g<w0.heap.size:=xH w0 _ a0;have a0:=(HP.out.bel.cell hgl).trans a0;have a1:=(HP.out.bel.cell hgl).trans a1;have a2:=(HP.out.bel.cell hgl).trans a2;have hbs:=HP.out.bel.size;have qP:¬g=V.heap.size:=by omega
  have ik1:(k:Int)<(n5:Int):=by omega
  generalize hM:((rf.take k).flatMap Prn.kD).length=m at hfl;have HM:=hid hM;clear hc HTK hfw hM Hy hbs hat;go_upto_region 5 with(fail)
  refine aj (λV1 hW=>?_);obtain⟨hbx,hqx,-⟩:=au hW;have HPc:=hid (HP.out.below hbx);have HQ:=hid hqx;clear hW hbx hqx a0 a1 a2 HP;have hS:Bk V1.drew V.heap.size 184 _:=HQ.out.drew;refine aO (λw'=>Bk w' V.heap.size 184 _) [9] (by kernel_rfl) hS (λhHeld=>?_);(refine aG 0 (v:=?_) rfl (by kernel_rfl) (λ_ _ _ h=>h) (λ_=>by assumption) (by rfl) ?_ ?_;rotate_left;· (intro w;go_simp;try with_reducible rfl);try simp only[Act.put,xA,xE,xC])
  (refine aG 1 (v:=?_) rfl (by kernel_rfl) (λ_ _ _ h=>h) (λ_=>by assumption) (by rfl) ?_ ?_;rotate_left;· (intro w;go_simp;try with_reducible rfl);try simp only[Act.put,xA,xE,xC])
  (refine Lst.kS 9 2 (v:=?_) rfl (by kernel_rfl) (by kernel_rfl) (by kernel_rfl) (by kernel_rfl) (by kernel_rfl) (by kernel_rfl) (λ_ _ _ h=>h) (by assumption) (by rfl) ?_ ?_;rotate_left;· (intro w hSw;obtain⟨⟨e0,e1,e2⟩,-⟩:=hSw.k3;go_simp;try with_reducible rfl);try simp only[Act.put,xA,xE,xC])
  (refine aG 3 (v:=?_) rfl (by kernel_rfl) (λ_ _ _ h=>h) (λ_=>by assumption) (by rfl) ?_ ?_;rotate_left;· (intro w;go_simp;try with_reducible rfl);try simp only[Act.put,xA,xE,xC])
  (refine Lst.kS 9 4 (v:=?_) rfl (by kernel_rfl) (by kernel_rfl) (by kernel_rfl) (by kernel_rfl) (by kernel_rfl) (by kernel_rfl) (λ_ _ _ h=>h) (by assumption) (by rfl) ?_ ?_;rotate_left;· (intro w hSw;obtain⟨⟨e0,e1,e2⟩,-⟩:=hSw.k3;go_simp;try with_reducible rfl);try simp only[Act.put,xA,xE,xC])
  (refine aG 5 (v:=?_) rfl (by kernel_rfl) (λ_ _ _ h=>h) (λ_=>by assumption) (by rfl) ?_ ?_;rotate_left;· (intro w;go_simp;try with_reducible rfl);try simp only[Act.put,xA,xE,xC])
  (refine Lst.kS 9 6 (v:=?_) rfl (by kernel_rfl) (by kernel_rfl) (by kernel_rfl) (by kernel_rfl) (by kernel_rfl) (by kernel_rfl) (λ_ _ _ h=>h) (by assumption) (by rfl) ?_ ?_;rotate_left;· (intro w hSw;obtain⟨⟨e0,e1,e2⟩,-⟩:=hSw.k3;go_simp;try with_reducible rfl);try simp only[Act.put,xA,xE,xC])
  (refine aB 7 (by kernel_rfl) rfl (λK hK=>?_))
  go_simp;refine(Tryz.strconv_Itoa_small q J8 _).mono ?_;rw[HNW.out];rintro e X⟨rfl,rfl⟩;(refine hK.out _ _ (λhnn=>hS) ?_;clear hK K;try simp only[Act.put,xA,xE,xC])
  (refine aB 8 (by kernel_rfl) rfl (λK hK=>?_))
  go_simp;have hbl:Below V1.heap.size V1 (V1.drew.alloc (.cells #[.string Id.wDo,.string p0,.string Id.kW,.string p1,.string Id.wAt,.string (Prn.qO q),.string Id.aQ] 9)):=(Below.refl _ _).drew.alloc (xB _) _;(refine hK.out _ _ (λhnn=>HQ.out.below hbl HQ.out.lt) ?_;clear hK K;try simp only[Act.put,xA,xE,xC])
  (refine aB 9 (by kernel_rfl) rfl (λK hK=>?_))
  go_simp;have Ug:=hid (HPc.out.below (w2:=V1.drew) ((Below.refl _ _).drew));refine(fB b L [Id.wDo,p0,Id.kW,p1,Id.wAt,Prn.qO q,Id.aQ] 7 #[.string Id.wDo,.string p0,.string Id.kW,.string p1,.string Id.wAt,.string (Prn.qO q),.string Id.aQ] rfl rfl w0 w V1.drew _ Ug.out (by simp only[xI,xJ,xO,HM.out];omega)).mono ?_;rintro e V2⟨rfl,hp⟩;have HPg:Hid (Prn.Put w0 w b L ([Id.lT,rn,Id.iJ,ra,Id.gu,Id.bF]++(rf.take (k+1)).flatMap Prn.kD) V2):=hid (hp.cast (by rw[yc.out];simp only[Prn.kD,xU]));clear hp;(refine hK.out _ _ (λhnn=>absurd hnn (by decide)) ?_;clear hK K;try simp only[Act.put,xA,xE,xC])
  refine aV (by kernel_rfl) ?_ _;refine NoPanic.normal ?_;clear hHeld hS;go_wp2_with fail;go_roundw
  case rel=>exact⟨k+1,by omega,by go_num,HPg⟩
  case measure=>simp[intOf]<;>omega
end
namespace Tk
theorem D9(s:ByteArray)(k:Nat):byte s k=((from_ s k).getD 0 0).toNat:=by
 unfold byte from_;simp[yG]
theorem extract_eq{s t:ByteArray}{k e k' e':Nat}(h:(from_ s k).take (e - k)=(from_ t k').take (e' - k')):s.extract k e=t.extract k' e':=by
 have h1:=Lib.extract_data s k e;have h2:=Lib.extract_data t k' e';unfold from_ at h;rw[h,<-h2]at h1;have h3:(s.extract k e).data=(t.extract k' e').data:=Array.toList_inj.1 h1;cases hs:s.extract k e
 cases ht:t.extract k' e'
 rw[hs,ht]at h3;simp only at h3;rw[h3]
theorem vH(s:ByteArray)(k e:Nat):num s k e=Jt 0 ((from_ s k).take (e - k)):=by
 unfold num from_;rw[List.drop_take]
theorem jX(s:ByteArray)(k:Nat):(from_ s k).length=s.size - k:=by unfold from_;simp
def Tok.move(m:Nat)(t:Tok):Tok:={ t with at_:=m+t.at_ }
theorem scan_ok{d:Nat}{s:ByteArray}{k f:Nat}{acc:List Tok}(h:k<s.size)(he:(aW d s k).2=0):scan d s (f+1) k acc=scan d s f (bM false s (k+(aW d s k).1.text.size)) (acc++[(aW d s k).1]):=by
 rw[scan,if_pos h,if_neg (by simpa using he)]
section shift
variable {c b : ByteArray} {m : Nat} (hc : ∀ k, from_ c (m + k) = from_ b k) (hz : c.size = m + b.size)
include hc
theorem Ac(k:Nat):byte c (m+k)=byte b k:=by rw[D9,D9,hc]
theorem Ci(p:Nat->Bool)(k:Nat):bQ p c (m+k)=m+bQ p b k:=by unfold bQ;rw[hc];omega
theorem qH(k e:Nat):c.extract (m+k) (m+e)=b.extract k e:=extract_eq (by rw[hc];congr 1;omega)
theorem Ls(k e:Nat):num c (m+k) (m+e)=num b k e:=by rw[vH,vH,hc];congr 2;omega
include hz
theorem Lr(d k:Nat):aW d c (m+k)=((aW d b k).1.move m,(aW d b k).2):=by
 unfold aW;dsimp only;rw[Ac hc,Nat.add_assoc,Ac hc,Ci hc,Ci hc,qH hc,qH hc,qH hc,Ls hc];have e1:∀ x,m+x - (m+k)=x - k:=λx=>by omega
 have e2:(m+(k+1)<c.size)=(k+1<b.size):=by rw[hz];simp
 simp only[e1,e2];split
 ·rfl
 ·split
  ·split
   ·rfl
   ·split<;>rfl
  ·split
   ·rfl
   ·split<;>rfl
end shift
theorem jq{p:Nat->Bool}{x:UInt8}(hp:p x.toNat=false)(r:List UInt8):∀ l:List UInt8,run p (l++x::r)=run p l
 |[]=>by simp[run,hp]
 |c::l=>by
  have ih:=jq hp r l;simp only[List.cons_append,run];rw[ih]
section front
variable {c a : ByteArray} {x : UInt8} {r : List UInt8} (hc : c.data.toList = a.data.toList ++ x :: r)
include hc
theorem vP{k:Nat}(hk:k<=a.size):from_ c k=from_ a k++x::r:=by
 unfold from_;rw[hc,List.drop_append_of_le_length (by simpa using hk)]
theorem JC:c.size=a.size+1+r.length:=by
 have:=congrArg List.length hc;simp at this;omega
theorem AU{k:Nat}(hk:k<a.size):byte c k=byte a k:=by
 unfold byte;rw[hc,yG,yG,List.getElem?_append_left (by simpa using hk)]
theorem BM:byte c a.size=x.toNat:=by
 unfold byte;rw[hc,yG,List.getElem?_append_right (by simp)];simp
theorem Dp{p:Nat->Bool}(hp:p x.toNat=false){k:Nat}(hk:k<=a.size):bQ p c k=bQ p a k:=by
 unfold bQ;rw[vP hc hk,jq hp]
theorem qQ{k e:Nat}(he:e<=a.size):c.extract k e=a.extract k e:=by
 by_cases hk:k<=a.size
 ·refine extract_eq ?_
  rw[vP hc hk,List.take_append_of_le_length (by rw[jX];omega)]
 ·refine extract_eq ?_
  rw[show e - k=0 from by omega];simp
theorem MW{k e:Nat}(hk:k<=a.size)(he:e<=a.size):num c k e=num a k e:=by
 rw[vH,vH,vP hc hk,List.take_append_of_le_length (by rw[jX];omega)]
theorem MV(hi:bC x.toNat=false)(hd:isDigit x.toNat=false)(h62:x.toNat≠62)(d:Nat){k:Nat}(hk:k<a.size):aW d c k=aW d a k:=by
 have h1:=oC (p:=bC) (s:=a) (k:=k+1) (by omega);have h2:=oC (p:=isDigit) (s:=a) (k:=k+1) (by omega);have h3:=tJ isDigit a (k+1);unfold aW;dsimp only;rw[AU hc hk,Dp hc hi (by omega),Dp hc hd (by omega),qQ hc h1,qQ hc h2,MW hc (by omega) h2,qQ hc (by omega)];have e:(byte a k=45/\k+1<c.size/\byte c (k+1)=62)↔(byte a k=45/\k+1<a.size/\byte a (k+1)=62):=by
  by_cases h:k+1<a.size
  ·rw[AU hc h]
   have:=JC hc;simp only[h,show k+1<c.size from by omega,true_and]
  ·have e2:k+1=a.size:=by omega
   rw[e2,BM hc];constructor
   ·rintro⟨_,_,h4⟩;exact absurd h4 h62
   ·rintro⟨_,h4,_⟩;exact absurd h4 (by omega)
 simp only[e]
end front
end Tk
namespace Tk
theorem Qh:∀ x,x<256->(fE x||isDigit x||nR x||decide (x=45))=true->lK x=false/\x≠47:=by decide +kernel
theorem MH{d:Nat}{s:ByteArray}{k:Nat}(he:(aW d s k).2=0):(fE (byte s k)||isDigit (byte s k)||nR (byte s k)||decide (byte s k=45))=true:=by
 unfold aW at he;dsimp only at he;split at he
 ·rename_i h;rw[h];rfl
 ·split at he
  ·rename_i h;rw[h];simp
  ·split at he
   ·rename_i h;rw[h];simp
   ·split at he
    ·rename_i h;simp[h.1]
    ·cases he
theorem OV{d:Nat}{s:ByteArray}{k:Nat}(hk:k<s.size)(he:(aW d s k).2=0):bM false s k=k:=by
 have h:=MH he;rw[nI hk]at h;obtain⟨h1,h2⟩:=Qh _ s[k].toNat_lt h;exact nU hk h1 (λe=>h2 e.1)
theorem bytes_eq{a b:ByteArray}(h:a.data.toList=b.data.toList):a=b:=by
 have h3:a.data=b.data:=Array.toList_inj.1 h;cases a;cases b
 simp only at h3;rw[h3]
theorem FI(s:ByteArray):s.extract 0 s.size=s:=by
 apply bytes_eq;rw[Lib.extract_data,List.drop_zero,Nat.sub_zero];exact yE (by simp)
def placed:List Tok->Nat->List Tok
 |[],_=>[]
 |t::l,k=>{ t with at_:=k }::placed l (k+t.text.size+1)
def lH(l:List Tok):Prop:=∀ t∈l,0<t.text.size/\aW 3 t.text 0=({ t with at_:=0 },0)
theorem G9{c:ByteArray}{k:Nat}{t:Tok}{r:List UInt8}(hf:from_ c k=t.text.data.toList++r)(hr:r=[]∨∃ r',r=32::r')(h0:0<t.text.size)(ho:aW 3 t.text 0=({ t with at_:=0 },0))(hz:k<=c.size) :
  aW 3 c k=({ t with at_:=k },0):=by
 obtain⟨b,hb⟩:∃ b:ByteArray,b.data.toList=t.text.data.toList++r:=⟨⟨(t.text.data.toList++r).toArray⟩,by simp⟩;have hcb:∀ j,from_ c (k+j)=from_ b j:=λj=>by
  unfold from_ at hf ⊢;rw[hb,<-hf,List.drop_drop]
 have hsz:c.size=k+b.size:=by
  have:=congrArg List.length (hcb 0);rw[jX,jX]at this;have h2:b.size=b.data.toList.length:=by simp
  omega
 have hs:=Lr hcb hsz 3 0;rw[xK]at hs;have hbt:aW 3 b 0=aW 3 t.text 0:=by
  rcases hr with rfl|⟨r',rfl⟩
  ·rw[List.append_nil]at hb
   rw[bytes_eq hb]
  ·exact MV hb (by decide) (by decide) (by decide) 3 h0
 rw[hs,hbt,ho];rfl
def nX:List Tok->List UInt8
 |[]=>[]
 |t::l=>t.text.data.toList++l.flatMap λu=>32::u.text.data.toList
def AB:List Tok->List UInt8
 |[]=>[]
 |u::r=>32::nX (u::r)
theorem Jy(t:Tok)(l:List Tok):nX (t::l)=t.text.data.toList++AB l:=by
 cases l with
 |nil=>simp[nX,AB]
 |cons u r=>simp[nX,AB]
theorem Ae(c:ByteArray):∀(l:List Tok)(f k:Nat)(acc:List Tok),lH l->k<=c.size->from_ c k=nX l->c.size<f+k ->
  (l≠[]->bM false c k=k)/\scan 3 c f k acc=(acc++placed l k,0,0)
 |[],f,k,acc,_,hk,hf,hF=>by
  have hz:¬k<c.size:=by
   have:=congrArg List.length hf;rw[jX]at this;simp[nX]at this;omega
  exact⟨λh=>absurd rfl h,by rw[EC hz];simp[placed]⟩
 |t::l,f,k,acc,ho,hk,hf,hF=>by
  have ht:=ho t (by simp);have hl:lH l:=λu hu=>ho u (by simp[hu])
  rw[Jy]at hf;have hone:=G9 (r:=AB l) hf (by cases l with|nil=>exact .inl rfl|cons u r=>exact .inr ⟨_,rfl⟩) ht.1 ht.2 hk;have hlt:k<c.size:=by
   have:=congrArg List.length hf;rw[jX,xI]at this;have e:t.text.data.toList.length=t.text.size:=by simp
   omega
  refine⟨λ_=>OV hlt (by rw[hone]),?_⟩;obtain⟨f,rfl⟩:∃ f',f=f'+1:=⟨f - 1,by omega⟩;rw[scan_ok hlt (by rw[hone]),hone];simp only;have hok:=zA hlt (d:=3) (by rw[hone]);rw[hone]at hok;simp only at hok;have hnext:from_ c (k+t.text.size)=AB l:=by
   have e1:from_ c (k+t.text.size)=(from_ c k).drop t.text.size:=by unfold from_;rw[List.drop_drop]
   have e2:t.text.size=t.text.data.toList.length:=by simp
   rw[e1,hf,e2,List.drop_append_length]
  cases l with
  |nil =>
   have hnext:from_ c (k+t.text.size)=[]:=hnext;have hend:¬k+t.text.size<c.size:=by
    have:=congrArg List.length hnext;rw[jX]at this;simp at this;omega
   rw[kX false (by omega),EC hend];simp[placed]
  |cons u r =>
   have hnext:from_ c (k+t.text.size)=32::nX (u::r):=hnext;have hlt2:k+t.text.size<c.size:=by
    have:=congrArg List.length hnext;rw[jX]at this;simp at this;omega
   have hb:c[k+t.text.size]=32/\from_ c (k+t.text.size+1)=nX (u::r):=by
    rw[iC hlt2]at hnext;injection hnext with n1 n2
    exact⟨n1,n2⟩
   have ih:=Ae c (u::r) f (k+t.text.size+1) (acc++[{ t with at_:=k }]) hl (by omega) hb.2 (by omega);rw[rY hlt2 (by rw[hb.1];decide),ih.1 (by simp),ih.2];simp[placed]
theorem Nz{l:List Tok}{c:ByteArray}(ho:lH l)(hc:c.data.toList=nX l)(hs:c.size<=65536):all c=(placed l 0,0,0):=by
 have hf:from_ c 0=nX l:=by unfold from_;rw[hc,List.drop_zero]
 have h:=Ae c l (c.size+1) 0 [] ho (Nat.zero_le _) hf (by omega);unfold all;rw[if_neg (by omega)];cases l with
 |nil =>
  have hz:c.size=0:=by
   have:=congrArg List.length hf;rw[jX]at this;simpa[nX]using this
  rw[kX false (by omega),h.2,yI]
 |cons t r=>rw[h.1 (by simp),h.2,yI]
end Tk
namespace Id
def z(t:Tk.Tok):Tk.Tok:={ t with at_:=0 }
def zs(s:St):St:=(s.1.map z,s.2)
theorem RF(s:St)(x:ByteArray):is (zs s) x=is s x:=by
 obtain⟨l,b⟩:=s;cases l<;>rfl
theorem P6(s:St):((zs s).1.tail,(zs s).2)=zs (s.1.tail,s.2):=by
 obtain⟨l,b⟩:=s;cases l<;>rfl
theorem Tm(s:St)(k:Nat)(p:Tk.Tok->Bool)(hp:∀ t,p (z t)=p t):(one (zs s) k p).1.text=(one s k p).1.text/\(one (zs s) k p).1.num=(one s k p).1.num/\(one (zs s) k p).2=zs (one s k p).2:=by
 obtain⟨l,b⟩:=s;cases b
 ·cases l with
  |nil=>exact⟨rfl,rfl,rfl⟩
  |cons t r =>
   unfold one zs;simp only[List.map_cons,hp];have hk:(z t).kind=t.kind:=rfl;rw[hk];split
   ·exact⟨rfl,rfl,rfl⟩
   ·exact⟨rfl,rfl,rfl⟩
 ·cases l<;>exact⟨rfl,rfl,rfl⟩
theorem Ry(s:St):name (zs s)=((name s).1,zs (name s).2):=by
 obtain⟨h1,_,h3⟩:=Tm s 1 (λt=>Tk.isName t.text) (λt=>rfl);unfold name;rw[h1,h3]
theorem Nb(s:St):ends (zs s)=ends s/\head (zs s)=head s:=by
 obtain⟨l,b⟩:=s;cases l<;>exact⟨rfl,rfl⟩
theorem zq:∀(f:Nat)(s:St)(acc:List Srt),fA f (zs s) acc=((fA f s acc).1,zs (fA f s acc).2)
 |0,s,acc=>rfl
 |f+1,s,acc=>by
  unfold fA;have hb:(zs s).2=s.2:=rfl;have ht:((zs s).1.tail,s.2)=zs (s.1.tail,s.2):=P6 s;rw[hb,RF,RF,(Nb s).1,(Nb s).2,ht,Ry,zq f,zq f];split
  ·rfl
  ·split
   ·rfl
   ·split
    ·rfl
    ·split<;>rfl
theorem QK(s:St):(zs s).1.length=s.1.length:=by simp[zs]
theorem PN(s:St):sorts (zs s)=((sorts s).1,zs (sorts s).2):=by
 unfold sorts;rw[QK,zq]
end Id
