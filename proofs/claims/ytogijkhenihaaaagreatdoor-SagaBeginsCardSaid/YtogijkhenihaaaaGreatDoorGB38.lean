import Derived.Test.YtogijkhenihaaaaGreatDoorGB36
set_option linter.all false
set_option maxRecDepth 100000
set_option maxHeartbeats 0
namespace Go.Proofs.YtogijkhenihaaaaGreatDoor
open Lib (hid)
open Go.BigFrame Go.RowKit
theorem EJ(s:Id.Sch)(hF:Chk.Fine s)(hR:Chk.Right s)(q:Cd.Q4)(bb:ByteArray)(hbb:bb.size<=1000000)(w0:World)(hs:Id.ay w0 none (Cd.qK q) s)(k:Nat)(hk:k+1<=12)(ih:Cd.og s q bb w0 k):Cd.Ed s q bb w0 (k+1) (λx y=>¬Cd.full x/\(y.kind=5∨y.kind=6)):=by
 intro tv t x vv w hkk ht h12 hx hb0 hrow hst;obtain⟨R,HR⟩:∃ R,Hid (Cd.aY s bb.data.toList (k+1) t x=R):=⟨_,hid rfl⟩;rw[HR.out];obtain⟨⟨xk,xn⟩,t,rfl⟩:∃ x l,t=x::l:=List.exists_cons_of_ne_nil (Vl.lJ ht);have hkx:=hkk _ _ rfl;clear hkk;obtain⟨ar,har⟩:∃ ar:Nat,ar+k+1=12:=⟨11 - k,by omega⟩;have e12:(12 - ((k+1:Nat):Int))=(ar:Int):=by omega
 have e13:(12 - (k:Int))=(ar:Int)+1:=by omega
 rw[e12];unfold Cd.og at ih;rw[e13]at ih;have HIH:=hid ih;have HTT:=hid ht;have HKN:=hid (Vl.pF ht);obtain⟨A,n,c,rfl⟩:=ah.is hst;have hn:n=t.length+1:=by obtain⟨_,_,e,_⟩:=ah.slice hst;injection e
 have hcn:n<=c:=by obtain⟨_,_,e,h,_⟩:=ah.slice hst;injection e with _ e2 e3;rw[e3,e2];exact h
 have hcm:c<=9223372036854775807:=by obtain⟨_,_,e,_,h,_⟩:=ah.slice hst;injection e with _ _ e3;omega
 have hnm:n<=12:=by rw[hn];simpa using h12
 obtain⟨g7,dJ,cs,rfl,-⟩:=ah.get hst (i:=0) (by simp) (by omega);have HLT:Hid (n=t.length+1):=hid hn;have hn1:0<n:=by omega
 have hn0:(0:Int)<(n:Int):=by omega
 obtain⟨tt0,tt1⟩:=Cd.sW hst;have hg7:g7<w0.heap.size:=xH w0 _ tt0;have hg8:g7<w0.heap.size:=hg7;have HT0:=hid (λ(W:World) (h:Below w0.heap.size w0 W)=>((h.cell (p:=⟨g7,dJ,none⟩) hg7).trans tt0));have HT1:=hid (λ(W:World) (h:Below w0.heap.size w0 W)=>((h.cell (p:=⟨g7,dJ+1,none⟩) hg7).trans tt1));have HTL:=hid (λ(y:Id.Srt) (l:List Id.Srt) (e:t=y::l)=>ah.tail hst);have HFI:=hid (λW hW=>qj (Cd.qK q) s xn w0 W hs hW);have HTY:Hid (∀ r,Chk.find s xn=some r->r.fields.length<=99/\∀ f∈r.fields,Chk.okT s f.type=true/\f.type.length<=12):=hid (λr hr=>by
  have hrm:r∈s.records:=List.mem_of_find?_eq_some hr;exact⟨(hF.re r hrm).2.1,λf hf=>Vl.lZ (Vl.nV hR hrm hf)⟩)
 obtain⟨p,v,z⟩:=x;obtain⟨A9,n9,c9⟩:=vv;have HN9:Hid (n9=v.length):=hid (by obtain⟨_,_,e,_⟩:=ah.slice hrow;injection e);have hv9:n9<=4096:=by rw[HN9.out];exact hx.hv
 have hz9:z<=4096:=hx.hz;have hp9:p<=bb.size:=hx.ha;have HRW:=hid hrow;have HB0:=hid hb0;have hB:=hb0.size;clear hx hb0 hrow hst ht h12 ih e12 e13 hn hs hF hR tt0 tt1 hg7;have hnf:¬(4096<=v.length∨4096<=z):=hkx.1;have h1:¬n9=4096:=by rw[HN9.out];omega
 have h2:¬z=4096:=by omega
 replace hkx:xk=5∨xk=6:=hkx.2;clear hnf;go_enter Tryz.func192,Tryz.ntmps192;go_upto_region 1 with(fail)
 refine aj (λV hV=>?_);have HP:=hid (Cd.PS.start hB hV);have HRV:=hid (Vl.bT.below HRW.out (Cd.DI.start hV).bel);clear hV HRW;(have c4:=HP.out.y.cell 4;have c5:=HP.out.y.cell 5;have c6:=HP.out.y.cell 6;have c7:=HP.out.y.cell 7;have c8:=HP.out.y.cell 8;have f6:=HP.out.y.frozen 6;simp only[List.getElem?_toArray,List.getElem?_cons_zero,List.getElem?_cons_succ]at c4 c5 c6 c7 c8)
 try simp only[xY]at c8
 have ha1:¬(12:Int)<=(ar:Int):=by omega
 have hwz:IntKind.i64.wrap ((z:Int)+1)=((z+1:Nat):Int):=by rw[IntKind.wrap_i64];omega
 have t1:¬(4096:Int)<=(n9:Int):=by omega
 have t2:¬(4096:Int)<((z+1:Nat):Int):=by omega
 have HNF:Hid (¬Cd.full ⟨p,v,z⟩):=hid (by unfold Cd.full;simp only;rw[<-HN9.out];omega);have hvl:v.length<4096:=by rw[<-HN9.out];omega
 go_upto_region 7 with(fail)
 refine aj (λV2 hV=>?_);have HRR:Hid ((if Cd.iy xk then Cd.uH bb.data.toList xk ⟨p,v,z+1⟩else Cd.goD (Cd.aY s bb.data.toList k) (Cd.o7 s bb.data.toList ⟨xk,xn⟩ t ⟨p,v,z+1⟩))=R):=hid (by rw[<-HR.out,Cd.aY,if_neg HNF.out];rfl);have HP2:Hid (Cd.PS w0.heap.size w w.heap.size (Cd.stC q bb ⟨A9,n9,c9⟩ (z+1) p 0) V2):=hid (by rw[hV];exact HP.out.set 6 (.int .i64 ((z+1:Nat):Int)));have jT:Hid (Vl.bT V2 (some w0.heap.size) (.slice A9 n9 c9) v):=hid (by rw[hV];exact Cd.pq HRV.out HP.out.y (by decide) 6 _);have hz1:z+1<=4096:=by omega
 clear hV HP HRV HR HNF h1 h2 t1 t2 hwz hz9 ha1;(clear c4 c5 c6 c7 c8 f6)
 generalize z+1=z1 at *;have hb2:=HB0.out.trans HP2.out.on.bel;have HB2:=hid hb2;have t0:=HT0.out _ hb2;clear hb2;(have c4:=HP2.out.y.cell 4;have c5:=HP2.out.y.cell 5;have c6:=HP2.out.y.cell 6;have c7:=HP2.out.y.cell 7;have c8:=HP2.out.y.cell 8;have f6:=HP2.out.y.frozen 6;simp only[List.getElem?_toArray,List.getElem?_cons_zero,List.getElem?_cons_succ]at c4 c5 c6 c7 c8)
 try simp only[xY]at c8
 have HNL:Hid (¬Cd.iy xk):=hid (by unfold Cd.iy;omega);by_cases k5:xk=5
 case pos =>
  subst k5;have hot:Chk.okT s t=true:=Vl.vG HTT.out (by simp);obtain⟨y0,l0,hyl⟩:∃ y l,t=y::l:=List.exists_cons_of_ne_nil (Vl.lJ hot);have HTS:=hid (HTL.out y0 l0 hyl);have hpos:=List.length_pos_iff.2 (Vl.lJ hot);have HOT:=hid hot;have HTN:Hid (t.length<=12):=hid (by have:=HLT.out;omega);have hn2:2<=n:=by have:=HLT.out;omega
  have i1:(1:Int)<=(n:Int):=by omega
  have i2:(1:Int)<=(c:Int):=by omega
  have i3:(n:Int)<=(c:Int):=by omega
  have i4:((n:Int) - 1).toNat=n - 1:=by omega
  have i5:((c:Int) - 1).toNat=c - 1:=by omega
  have i6:¬c=1:=by omega
  have i7:¬n=1:=by omega
  have hwa:IntKind.i64.wrap ((ar:Int)+1)=(ar:Int)+1:=by rw[IntKind.wrap_i64];omega
  clear hot hpos hyl;have hrb:(match Cd.num bb.data.toList p with
   | .error e=>.error e
   | .ok q=>if 4096<q.1 then .error (p,3)else Cd.eP (Cd.aY s bb.data.toList k) (List.replicate q.1 t) ⟨q.2,v++[⟨5,0,Cd.E0,q.1⟩],z1⟩:Cd.Rs Cd.S)=R:=by
   rw[<-HRR.out,if_neg HNL.out];unfold Cd.o7;rw[if_pos rfl];simp only;generalize Cd.num bb.data.toList p=O;cases O with
   |error e=>rfl
   |ok q=>(simp only;split<;>rfl)
  have hrd:=λW=>tX q bb hbb ⟨A9,n9,c9⟩ z1 p 0 hp9 W
  obtain⟨O,HO⟩:∃ O,Hid (Cd.num bb.data.toList p=O):=⟨_,hid rfl⟩;rw[HO.out]at hrb hrd;have HRB:=hid hrb;have HRD:=hid hrd;have HER:=hid (λ(r:Nat × Nat) (h:O=.error r)=>Cd.vw (HO.out.trans h));have HOK:=hid (λ(u j:Nat) (h:O=.ok (u,j))=>Cd.uQ (HO.out.trans h));have HBL:Hid (bb.data.toList.length=bb.size):=hid (by simp);clear hrb hrd HO HRR;(have hL:=Sg.bk HP2.out.y;go_wp2_with(refine wpList_load_row rfl _ _ rfl _ rfl _ _ _ _ hL Tryz.underlying258 rfl (by kernel_rfl) ?_);refine(HRD.out _).mono ?_;rintro en W2⟨hen,hb2⟩;have HP3:=hid (HP2.out.below hb2);have lI:=hid (Vl.bT.below jT.out hb2);clear hb2 hL HRD HP2 jT t0;(clear c4 c5 c6 c7 c8 f6))
  match O,hen,HRB,HER,HOK with
  | .error r,hen,HRB,HER,HOK=>(obtain⟨pp,ee⟩:=r;obtain rfl:=hen;have hee:ee≠0:=HER.out (pp,ee) rfl;have HEE:=hid hee;have HE:Hid (R=.error (pp,ee)):=hid HRB.out.symm;obtain rfl:=HE.out;have t1:((ee:Int) != 0)=true:=(by rw[bne_iff_ne];omega);simp only;go_upto_region 26 with(fail);refine aj (λV3 hV=>?_);have HP4:=hid (HP3.out.new hV);clear hV hee HER HOK HRB HE HP3 lI;(have c4:=HP4.out.y.cell 4;have c5:=HP4.out.y.cell 5;have c6:=HP4.out.y.cell 6;have c7:=HP4.out.y.cell 7;have c8:=HP4.out.y.cell 8;have f6:=HP4.out.y.frozen 6;simp only[List.getElem?_toArray,List.getElem?_cons_zero,List.getElem?_cons_succ]at c4 c5 c6 c7 c8);(have hL:=Sg.bk HP4.out.y;have hQ:=Sg.bk HP4.out.res;go_wp2_with(first|(refine wpList_load_row rfl _ _ rfl _ rfl _ _ _ _ hL Tryz.underlying258 rfl (by kernel_rfl) ?_)|(refine wpList_store_row rfl _ _ _ rfl _ _ rfl rfl _ _ hQ (by kernel_rfl) (by rfl) (by simp[Value.oneCell']) ?_));exact Sg.dW rfl _ rfl _ _ _ (HP4.out.res.row _) Tryz.underlying258 rfl (by kernel_rfl) rfl ⟨⟨A9,n9,c9⟩,z1,rfl,HEE.out,HP4.out.out _⟩))
  | .ok r,hen,HRB,HER,HOK =>
   obtain⟨u,pp⟩:=r;obtain rfl:=hen;obtain⟨hu,-,hlt,hpp⟩:=HOK.out u pp rfl;rw[HBL.out]at hpp;(simp only;go_upto_region 26 with(fail);refine aj (λV3 hV=>?_);have hp4:=HP3.out.new hV;have oO:Vl.bT V3 (some w0.heap.size) (.slice A9 n9 c9) v:=(by rw[hV];exact Vl.bT.below lI.out ((Below.refl W2.heap.size W2).alloc (xB _) _));obtain⟨g,hg⟩:∃ g,W2.heap.size=g:=⟨_,rfl⟩;rw[hg]at hp4 ⊢;have HP4:=hid hp4;have pW:=hid oO;clear hV hp4 oO hg HP3 lI HER HOK;(have c4:=HP4.out.y.cell 4;have c5:=HP4.out.y.cell 5;have c6:=HP4.out.y.cell 6;have c7:=HP4.out.y.cell 7;have c8:=HP4.out.y.cell 8;have f6:=HP4.out.y.frozen 6;simp only[List.getElem?_toArray,List.getElem?_cons_zero,List.getElem?_cons_succ]at c4 c5 c6 c7 c8);try simp only[xY]at c8)
   by_cases h1:4096<u
   ·have HE:Hid (R=.error (p,3)):=hid (by rw[<-HRB.out];simp only;rw[if_pos h1])
    obtain rfl:=HE.out;have t1:(4096:Int)<(u:Int):=by omega
    (have hL:=Sg.bk HP4.out.y;go_wp2_with(refine wpList_load_row rfl _ _ rfl _ rfl _ _ _ _ hL Tryz.underlying258 rfl (by kernel_rfl) ?_);refine(gy q bb ⟨A9,n9,c9⟩ z1 pp 0 p 3 _).mono ?_;rintro en W3⟨rfl,hb3⟩;have HF:=hid (HP4.out.below hb3);clear hb3 hL;have hQ:=Sg.bk HF.out.res;go_wp2_with(refine wpList_store_row rfl _ _ _ rfl _ _ rfl rfl _ _ hQ (by kernel_rfl) (by rfl) (by simp[Value.oneCell']) ?_);exact Sg.dW rfl _ rfl _ _ _ (HF.out.res.row _) Tryz.underlying258 rfl (by kernel_rfl) rfl ⟨⟨A9,n9,c9⟩,z1,rfl,(show(3:Nat)≠0 by decide),HF.out.out _⟩)
   have HRM:Hid (Cd.eP (Cd.aY s bb.data.toList k) (List.replicate u t) ⟨pp,v++[⟨5,0,Cd.E0,u⟩],z1⟩=R):=hid (by rw[<-HRB.out];simp only;rw[if_neg h1]);have t1:¬(4096:Int)<(u:Int):=by omega
   have hwu:IntKind.i64.wrap (u:Int)=(u:Int):=by rw[IntKind.wrap_i64];omega
   have hL:=Sg.bk HP4.out.y;go_wp2_with(refine wpList_load_row rfl _ _ rfl _ rfl _ _ _ _ hL Tryz.underlying258 rfl (by kernel_rfl) ?_);refine(jY q bb ⟨A9,n9,c9⟩ z1 pp 0 w0.heap.size v ⟨5,0,Cd.E0,u⟩ _ pW.out (by omega) HP4.out.big).mono ?_;rintro en W5⟨v5,rfl,hr5,ho5⟩;have hp5:=HP4.out.go ho5;have FY:Hid (Cd.Acc q bb w0.heap.size w g R (Cd.eP (Cd.aY s bb.data.toList k) (List.replicate (u - 0) t)) (W5.setRow g (Cd.stC q bb v5 z1 pp 0))):=hid (.inl ⟨⟨pp,v++[⟨5,0,Cd.E0,u⟩],z1⟩,v5,HRM.out,Cd.Fit.put (by omega) (by omega) (by omega),Cd.gY hr5 hp5.y (by decide) _,hp5.row _⟩);have hQ:=Sg.bk hp5.y;(clear c4 c5 c6 c7 c8 f6)
   clear hL ho5 hr5 HP4 pW HRB HRM;go_wp2_with(refine wpList_store_row rfl _ _ _ rfl _ _ rfl rfl _ _ hQ (by kernel_rfl) (by rfl) (by simp[Value.oneCell']) ?_);clear hQ hp5;go_loopw [14] (λi wr=>∃ j:Nat,j<=u/\i=.int .u64 j/\Hid (Cd.Acc q bb w0.heap.size w g R (Cd.eP (Cd.aY s bb.data.toList k) (List.replicate (u - j) t)) wr)) (λi _=>u - (intOf i).toNat)
   case atStart=>exact⟨0,by omega,rfl,FY⟩
   case round =>
    obtain⟨j,hj,rfl,HJ⟩:=hrel;obtain⟨W,rfl⟩:∃ w',w'=wr:=⟨_,rfl⟩;clear FY;rcases HJ.out with⟨⟨yp,yv,yz⟩,yy,hF,hfit,hval,hps⟩|⟨⟨rp,re⟩,yy,yz,hF,hne,hps⟩
    case inr =>
     subst hF;simp only at hne hps;have HP6:=hid hps;have HNE:=hid hne;have t8:((re:Int)==0)=false:=by rw[xG];omega
     clear hps hne HJ;(have c4:=HP6.out.y.cell 4;have c5:=HP6.out.y.cell 5;have c6:=HP6.out.y.cell 6;have c7:=HP6.out.y.cell 7;have c8:=HP6.out.y.cell 8;have f6:=HP6.out.y.frozen 6;simp only[List.getElem?_toArray,List.getElem?_cons_zero,List.getElem?_cons_succ]at c4 c5 c6 c7 c8)
     by_cases hlt:j<u
     ·have h3:(j:Int)<(u:Int):=by omega
      (have hL:=Sg.bk HP6.out.y;have hQ:=Sg.bk HP6.out.res;go_wp2_with(first|(refine wpList_load_row rfl _ _ rfl _ rfl _ _ _ _ hL Tryz.underlying258 rfl (by kernel_rfl) ?_)|(refine wpList_store_row rfl _ _ _ rfl _ _ rfl rfl _ _ hQ (by kernel_rfl) (by rfl) (by simp[Value.oneCell']) ?_));exact Sg.dW rfl _ rfl _ _ _ (HP6.out.res.row _) Tryz.underlying258 rfl (by kernel_rfl) rfl ⟨yy,yz,rfl,HNE.out,HP6.out.out _⟩)
     ·have h3:¬(j:Int)<(u:Int):=by omega
      (have hL:=Sg.bk HP6.out.y;have hQ:=Sg.bk HP6.out.res;go_wp2_with(first|(refine wpList_load_row rfl _ _ rfl _ rfl _ _ _ _ hL Tryz.underlying258 rfl (by kernel_rfl) ?_)|(refine wpList_store_row rfl _ _ _ rfl _ _ rfl rfl _ _ hQ (by kernel_rfl) (by rfl) (by simp[Value.oneCell']) ?_));exact Sg.dW rfl _ rfl _ _ _ (HP6.out.res.row _) Tryz.underlying258 rfl (by kernel_rfl) rfl ⟨yy,yz,rfl,HNE.out,HP6.out.out _⟩)
    simp only at hval hps;have HP6:=hid hps;have HV6:=hid hval;have uJ:=hid hfit;have HFF:=hid hF;clear hps hval hfit hF HJ;(have c4:=HP6.out.y.cell 4;have c5:=HP6.out.y.cell 5;have c6:=HP6.out.y.cell 6;have c7:=HP6.out.y.cell 7;have c8:=HP6.out.y.cell 8;have f6:=HP6.out.y.frozen 6;simp only[List.getElem?_toArray,List.getElem?_cons_zero,List.getElem?_cons_succ]at c4 c5 c6 c7 c8)
    try simp only[xY]at c8
    by_cases hlt:j<u
    case neg =>
     have HE:Hid (R=.ok ⟨yp,yv,yz⟩):=hid (by rw[<-HFF.out,show u - j=0 by omega];rfl);obtain rfl:=HE.out;have h3:¬(j:Int)<(u:Int):=by omega
     (have hL:=Sg.bk HP6.out.y;have hQ:=Sg.bk HP6.out.res;go_wp2_with(first|(refine wpList_load_row rfl _ _ rfl _ rfl _ _ _ _ hL Tryz.underlying258 rfl (by kernel_rfl) ?_)|(refine wpList_store_row rfl _ _ _ rfl _ _ rfl rfl _ _ hQ (by kernel_rfl) (by rfl) (by simp[Value.oneCell']) ?_));exact Sg.dW rfl _ rfl _ _ _ (HP6.out.res.row _) Tryz.underlying258 rfl (by kernel_rfl) rfl ⟨⟨yy,rfl,Cd.gY HV6.out HP6.out.res (by decide) _,HP6.out.out _⟩,uJ.out⟩)
    have h3:(j:Int)<(u:Int):=by omega
    have HFK:Hid (Cd.eP (Cd.aY s bb.data.toList k) (t::List.replicate (u - (j+1)) t) ⟨yp,yv,yz⟩=R):=hid (by rw[<-HFF.out,show u - j=(u - (j+1))+1 by omega];rfl);go_upto_region 34 with(fail)
    (clear c4 c5 c6 c7 c8 f6)
    have HPd:=hid (HP6.out.below (Below.refl _ _).drew);have HVd:=hid (Vl.bT.below HV6.out (Below.refl _ _).drew);refine aO (λw'=>Bk w' g 258 (Cd.stC q bb yy yz yp 0)) [5] (by kernel_rfl) HPd.out.y (λhHeld=>?_);(refine Lst.takeN 5 0 (v:=.agg (Cd.stC q bb yy yz yp 0)) rfl (by kernel_rfl) (λ_ _ _ h=>h) (by assumption) (by kernel_rfl) (λw' hSw=>Sg.kY _ _ rfl g rfl _ _ _ hSw Tryz.underlying258 rfl (by kernel_rfl)) ?_;try simp only[Act.put,xA,xE,xC])
    (refine aG 1 (v:=?_) rfl (by kernel_rfl) (λ_ _ _ h=>h) (λ_=>by assumption) (by rfl) ?_ ?_;rotate_left;· (intro w;go_simp;try with_reducible rfl);try simp only[Act.put,xA,xE,xC])
    (refine aG 2 (v:=?_) rfl (by kernel_rfl) (λ_ _ _ h=>h) (λ_=>by assumption) (by rfl) ?_ ?_;rotate_left;· (intro w;go_simp;try with_reducible rfl);try simp only[Act.put,xA,xE,xC])
    (refine aG 3 (v:=?_) rfl (by kernel_rfl) (λ_ _ _ h=>h) (λ_=>by assumption) (by rfl) ?_ ?_;rotate_left;· (intro w;go_simp;try with_reducible rfl);try simp only[Act.put,xA,xE,xC])
    (refine aG 4 (v:=?_) rfl (by kernel_rfl) (λ_ _ _ h=>h) (λ_=>by assumption) (by rfl) ?_ ?_;rotate_left;· (intro w;go_simp;try with_reducible rfl);try simp only[Act.put,xA,xE,xC])
    clear hHeld;(refine aB 5 (by kernel_rfl) rfl (λK hK=>?_))
    go_simp;refine(HIH.out _ t ⟨yp,yv,yz⟩ yy _ HOT.out HTN.out uJ.out (HB0.out.trans HPd.out.on.bel) HVd.out HTS.out).mono ?_;obtain⟨D,HD⟩:∃ D,Hid (Cd.aY s bb.data.toList k t ⟨yp,yv,yz⟩=D):=⟨_,hid rfl⟩;rw[HD.out];rintro en W7 hen;match D,HD,hen with
    | .error r,HD,hen =>
     obtain⟨v7,z7,rfl,hne,ho7⟩:=hen;have HNE:=hid hne;have HP7:=hid (HPd.out.go ho7);clear ho7 hne;(refine hK.out _ _ (λhnn=>absurd hnn (by decide)) ?_;clear hK K;try simp only[Act.put,xA,xE,xC])
     (refine aB 6 (by kernel_rfl) rfl (λK hK=>?_))
     rw[if_pos (by rfl)];(with_reducible refine wp_store_row 258 _ _ rfl (g) (Cd.stC q bb v7 z7 r.1 r.2) (by kernel_rfl) (by kernel_rfl) 258 _ (Sg.bk HP7.out.y) (by kernel_rfl) (by kernel_rfl) (by simp[Value.oneCell']) ?_)
     (refine hK.out _ _ (λhnn=>absurd hnn (by decide)) ?_;clear hK K;try simp only[Act.put,xA,xE,xC])
     refine aV (by kernel_rfl) ?_ _;refine NoPanic.normal ?_;go_wp2_with fail;go_roundw
     case rel=>exact⟨j+1,by omega,by go_num,hid (.inr ⟨r,v7,z7,by rw[<-HFK.out];exact Cd.kP HD.out,HNE.out,HP7.out.row _⟩)⟩
     case measure=>simp[intOf];omega
    | .ok y2,HD,hen =>
     obtain⟨⟨v7,rfl,hr7,ho7⟩,hf7⟩:=hen;have HP7:=hid (HPd.out.go ho7);have HV7:=hid hr7;have HF7:=hid hf7;clear ho7 hr7 hf7;(refine hK.out _ _ (λhnn=>absurd hnn (by decide)) ?_;clear hK K;try simp only[Act.put,xA,xE,xC])
     (refine aB 6 (by kernel_rfl) rfl (λK hK=>?_))
     rw[if_pos (by rfl)];(with_reducible refine wp_store_row 258 _ _ rfl (g) (Cd.stC q bb v7 y2.sz y2.at_ 0) (by kernel_rfl) (by kernel_rfl) 258 _ (Sg.bk HP7.out.y) (by kernel_rfl) (by kernel_rfl) (by simp[Value.oneCell']) ?_)
     (refine hK.out _ _ (λhnn=>absurd hnn (by decide)) ?_;clear hK K;try simp only[Act.put,xA,xE,xC])
     refine aV (by kernel_rfl) ?_ _;refine NoPanic.normal ?_;go_wp2_with fail;go_roundw
     case rel=>exact⟨j+1,by omega,by go_num,hid (.inl ⟨y2,v7,by rw[<-HFK.out,Cd.mJ HD.out],HF7.out,Cd.gY HV7.out HP7.out.y (by decide) _,HP7.out.row _⟩)⟩
     case measure=>simp[intOf];omega
 by_cases k6:xk=6
 case pos =>
  subst k6;have hot:Chk.okT s t=true:=Vl.vG HTT.out (by simp);obtain⟨y0,l0,hyl⟩:∃ y l,t=y::l:=List.exists_cons_of_ne_nil (Vl.lJ hot);have HTS:=hid (HTL.out y0 l0 hyl);have hpos:=List.length_pos_iff.2 (Vl.lJ hot);have HOT:=hid hot;have HTN:Hid (t.length<=12):=hid (by have:=HLT.out;omega);have hn2:2<=n:=by have:=HLT.out;omega
  have i1:(1:Int)<=(n:Int):=by omega
  have i2:(1:Int)<=(c:Int):=by omega
  have i3:(n:Int)<=(c:Int):=by omega
  have i4:((n:Int) - 1).toNat=n - 1:=by omega
  have i5:((c:Int) - 1).toNat=c - 1:=by omega
  have i6:¬c=1:=by omega
  have i7:¬n=1:=by omega
  have hwa:IntKind.i64.wrap ((ar:Int)+1)=(ar:Int)+1:=by rw[IntKind.wrap_i64];omega
  clear hot hpos hyl;have hrb:(match Cd.bit bb.data.toList p with
   | .error e=>.error e
   | .ok q=>Cd.eP (Cd.aY s bb.data.toList k) (List.replicate q.1 t) ⟨q.2,v++[⟨6,0,Cd.E0,q.1⟩],z1⟩:Cd.Rs Cd.S)=R:=by
   rw[<-HRR.out,if_neg HNL.out];unfold Cd.o7;rw[if_neg (show ¬(6:Nat)=5 by decide),if_pos rfl];simp only;generalize Cd.bit bb.data.toList p=O;cases O with
   |error e=>rfl
   |ok q=>rfl
  have hrd:=λW=>ES q bb hbb ⟨A9,n9,c9⟩ z1 p 0 hp9 W
  obtain⟨O,HO⟩:∃ O,Hid (Cd.bit bb.data.toList p=O):=⟨_,hid rfl⟩;rw[HO.out]at hrb hrd;have HRB:=hid hrb;have HRD:=hid hrd;have HER:=hid (λ(r:Nat × Nat) (h:O=.error r)=>Cd.ER (HO.out.trans h));have HOK:=hid (λ(u j:Nat) (h:O=.ok (u,j))=>Cd.Ic (HO.out.trans h));have HBL:Hid (bb.data.toList.length=bb.size):=hid (by simp);clear hrb hrd HO HRR;(have hL:=Sg.bk HP2.out.y;go_wp2_with(refine wpList_load_row rfl _ _ rfl _ rfl _ _ _ _ hL Tryz.underlying258 rfl (by kernel_rfl) ?_);refine(HRD.out _).mono ?_;rintro en W2⟨hen,hb2⟩;have HP3:=hid (HP2.out.below hb2);have lI:=hid (Vl.bT.below jT.out hb2);clear hb2 hL HRD HP2 jT t0;(clear c4 c5 c6 c7 c8 f6))
  match O,hen,HRB,HER,HOK with
  | .error r,hen,HRB,HER,HOK=>(obtain⟨pp,ee⟩:=r;obtain rfl:=hen;have hee:ee≠0:=HER.out (pp,ee) rfl;have HEE:=hid hee;have HE:Hid (R=.error (pp,ee)):=hid HRB.out.symm;obtain rfl:=HE.out;have t1:((ee:Int) != 0)=true:=(by rw[bne_iff_ne];omega);simp only;go_upto_region 38 with(fail);refine aj (λV3 hV=>?_);have HP4:=hid (HP3.out.new hV);clear hV hee HER HOK HRB HE HP3 lI;(have c4:=HP4.out.y.cell 4;have c5:=HP4.out.y.cell 5;have c6:=HP4.out.y.cell 6;have c7:=HP4.out.y.cell 7;have c8:=HP4.out.y.cell 8;have f6:=HP4.out.y.frozen 6;simp only[List.getElem?_toArray,List.getElem?_cons_zero,List.getElem?_cons_succ]at c4 c5 c6 c7 c8);(have hL:=Sg.bk HP4.out.y;have hQ:=Sg.bk HP4.out.res;go_wp2_with(first|(refine wpList_load_row rfl _ _ rfl _ rfl _ _ _ _ hL Tryz.underlying258 rfl (by kernel_rfl) ?_)|(refine wpList_store_row rfl _ _ _ rfl _ _ rfl rfl _ _ hQ (by kernel_rfl) (by rfl) (by simp[Value.oneCell']) ?_));exact Sg.dW rfl _ rfl _ _ _ (HP4.out.res.row _) Tryz.underlying258 rfl (by kernel_rfl) rfl ⟨⟨A9,n9,c9⟩,z1,rfl,HEE.out,HP4.out.out _⟩))
  | .ok r,hen,HRB,HER,HOK =>
   obtain⟨u,pp⟩:=r;obtain rfl:=hen;obtain⟨hu,hpp,hlt⟩:=HOK.out u pp rfl;rw[HBL.out]at hlt;have HPP:=hid hpp;have TJ:pp<=bb.size:=by omega
   clear hpp;(simp only;go_upto_region 38 with(fail);refine aj (λV3 hV=>?_);have hp4:=HP3.out.new hV;have oO:Vl.bT V3 (some w0.heap.size) (.slice A9 n9 c9) v:=(by rw[hV];exact Vl.bT.below lI.out ((Below.refl W2.heap.size W2).alloc (xB _) _));obtain⟨g,hg⟩:∃ g,W2.heap.size=g:=⟨_,rfl⟩;rw[hg]at hp4 ⊢;have HP4:=hid hp4;have pW:=hid oO;clear hV hp4 oO hg HP3 lI HER HOK;(have c4:=HP4.out.y.cell 4;have c5:=HP4.out.y.cell 5;have c6:=HP4.out.y.cell 6;have c7:=HP4.out.y.cell 7;have c8:=HP4.out.y.cell 8;have f6:=HP4.out.y.frozen 6;simp only[List.getElem?_toArray,List.getElem?_cons_zero,List.getElem?_cons_succ]at c4 c5 c6 c7 c8);try simp only[xY]at c8)
   have HRM:Hid (Cd.eP (Cd.aY s bb.data.toList k) (List.replicate u t) ⟨pp,v++[⟨6,0,Cd.E0,u⟩],z1⟩=R):=hid HRB.out;have hwu:IntKind.i64.wrap (u:Int)=(u:Int):=by rw[IntKind.wrap_i64];omega
   have hL:=Sg.bk HP4.out.y;go_wp2_with(refine wpList_load_row rfl _ _ rfl _ rfl _ _ _ _ hL Tryz.underlying258 rfl (by kernel_rfl) ?_);refine(jY q bb ⟨A9,n9,c9⟩ z1 pp 0 w0.heap.size v ⟨6,0,Cd.E0,u⟩ _ pW.out (by omega) HP4.out.big).mono ?_;rintro en W5⟨yy,rfl,hr5,ho5⟩;have hp5:=HP4.out.go ho5;have HP6:=hid (hp5.row (Cd.stC q bb yy z1 pp 0));have HV6:=hid (Cd.gY hr5 hp5.y (by decide) (Cd.stC q bb yy z1 pp 0));have uJ:Hid (Cd.Fit bb ⟨pp,v++[⟨6,0,Cd.E0,u⟩],z1⟩):=hid (Cd.Fit.put (by omega) (by omega) (by omega));have hQ:=Sg.bk hp5.y;(clear c4 c5 c6 c7 c8 f6)
   clear hL ho5 hr5 HP4 pW HRB;by_cases hm:u=1
   case neg =>
    obtain rfl:u=0:=by omega
    have HE:Hid (R=.ok ⟨pp,v++[⟨6,0,Cd.E0,(0:Nat)⟩],z1⟩):=hid (by rw[<-HRM.out];rfl);obtain rfl:=HE.out;go_upto_region 43 with(refine wpList_store_row rfl _ _ _ rfl _ _ rfl rfl _ _ hQ (by kernel_rfl) (by rfl) (by simp[Value.oneCell']) ?_)
    clear hQ hp5;generalize W5.setRow g (Cd.stC q bb yy z1 pp 0)=W6 at *;(have hL:=Sg.bk HP6.out.y;have hQ:=Sg.bk HP6.out.res;go_wp2_with(first|(refine wpList_load_row rfl _ _ rfl _ rfl _ _ _ _ hL Tryz.underlying258 rfl (by kernel_rfl) ?_)|(refine wpList_store_row rfl _ _ _ rfl _ _ rfl rfl _ _ hQ (by kernel_rfl) (by rfl) (by simp[Value.oneCell']) ?_));exact Sg.dW rfl _ rfl _ _ _ (HP6.out.res.row _) Tryz.underlying258 rfl (by kernel_rfl) rfl ⟨⟨yy,rfl,Cd.gY HV6.out HP6.out.res (by decide) _,HP6.out.out _⟩,uJ.out⟩)
   subst hm;have HFK:Hid (Cd.eP (Cd.aY s bb.data.toList k) [t] ⟨pp,v++[⟨6,0,Cd.E0,(1:Nat)⟩],z1⟩=R):=hid HRM.out;go_upto_region 42 with(refine wpList_store_row rfl _ _ _ rfl _ _ rfl rfl _ _ hQ (by kernel_rfl) (by rfl) (by simp[Value.oneCell']) ?_)
   clear hQ hp5 HRM;generalize W5.setRow g (Cd.stC q bb yy z1 pp 0)=W6 at *;generalize v++[(⟨6,0,Cd.E0,(1:Nat)⟩:Vl.Node)]=yv at *;have HPd:=hid (HP6.out.below (Below.refl _ _).drew);have HVd:=hid (Vl.bT.below HV6.out (Below.refl _ _).drew);refine aO (λw'=>Bk w' g 258 (Cd.stC q bb yy z1 pp 0)) [5] (by kernel_rfl) HPd.out.y (λhHeld=>?_);(refine Lst.takeN 5 0 (v:=.agg (Cd.stC q bb yy z1 pp 0)) rfl (by kernel_rfl) (λ_ _ _ h=>h) (by assumption) (by kernel_rfl) (λw' hSw=>Sg.kY _ _ rfl g rfl _ _ _ hSw Tryz.underlying258 rfl (by kernel_rfl)) ?_;try simp only[Act.put,xA,xE,xC])
   (refine aG 1 (v:=?_) rfl (by kernel_rfl) (λ_ _ _ h=>h) (λ_=>by assumption) (by rfl) ?_ ?_;rotate_left;· (intro w;go_simp;try with_reducible rfl);try simp only[Act.put,xA,xE,xC])
   (refine aG 2 (v:=?_) rfl (by kernel_rfl) (λ_ _ _ h=>h) (λ_=>by assumption) (by rfl) ?_ ?_;rotate_left;· (intro w;go_simp;try with_reducible rfl);try simp only[Act.put,xA,xE,xC])
   (refine aG 3 (v:=?_) rfl (by kernel_rfl) (λ_ _ _ h=>h) (λ_=>by assumption) (by rfl) ?_ ?_;rotate_left;· (intro w;go_simp;try with_reducible rfl);try simp only[Act.put,xA,xE,xC])
   (refine aG 4 (v:=?_) rfl (by kernel_rfl) (λ_ _ _ h=>h) (λ_=>by assumption) (by rfl) ?_ ?_;rotate_left;· (intro w;go_simp;try with_reducible rfl);try simp only[Act.put,xA,xE,xC])
   clear hHeld;(refine aB 5 (by kernel_rfl) rfl (λK hK=>?_))
   go_simp;refine(HIH.out _ t ⟨pp,yv,z1⟩ yy _ HOT.out HTN.out uJ.out (HB0.out.trans HPd.out.on.bel) HVd.out HTS.out).mono ?_;obtain⟨D,HD⟩:∃ D,Hid (Cd.aY s bb.data.toList k t ⟨pp,yv,z1⟩=D):=⟨_,hid rfl⟩;rw[HD.out];rintro en W7 hen;match D,HD,hen with
   | .error r,HD,hen =>
    obtain⟨v7,z7,rfl,hne,ho7⟩:=hen;have HNE:=hid hne;have HP7:=hid (HPd.out.go ho7);clear ho7 hne;(refine hK.out _ _ (λhnn=>absurd hnn (by decide)) ?_;clear hK K;try simp only[Act.put,xA,xE,xC])
    (refine aB 6 (by kernel_rfl) rfl (λK hK=>?_))
    rw[if_pos (by rfl)];(with_reducible refine wp_store_row 258 _ _ rfl (g) (Cd.stC q bb v7 z7 r.1 r.2) (by kernel_rfl) (by kernel_rfl) 258 _ (Sg.bk HP7.out.y) (by kernel_rfl) (by kernel_rfl) (by simp[Value.oneCell']) ?_)
    (refine hK.out _ _ (λhnn=>absurd hnn (by decide)) ?_;clear hK K;try simp only[Act.put,xA,xE,xC])
    refine aV (by kernel_rfl) ?_ _;refine NoPanic.normal ?_;have HE:Hid (R=.error r):=hid (by rw[<-HFK.out];exact Cd.kP HD.out);obtain rfl:=HE.out;have HP8:=hid (HP7.out.row (Cd.stC q bb v7 z7 r.1 r.2));generalize W7.setRow g (Cd.stC q bb v7 z7 r.1 r.2)=W8 at *;(have hL:=Sg.bk HP8.out.y;have hQ:=Sg.bk HP8.out.res;go_wp2_with(first|(refine wpList_load_row rfl _ _ rfl _ rfl _ _ _ _ hL Tryz.underlying258 rfl (by kernel_rfl) ?_)|(refine wpList_store_row rfl _ _ _ rfl _ _ rfl rfl _ _ hQ (by kernel_rfl) (by rfl) (by simp[Value.oneCell']) ?_));exact Sg.dW rfl _ rfl _ _ _ (HP8.out.res.row _) Tryz.underlying258 rfl (by kernel_rfl) rfl ⟨v7,z7,rfl,HNE.out,HP8.out.out _⟩)
   | .ok y2,HD,hen =>
    obtain⟨⟨v7,rfl,hr7,ho7⟩,hf7⟩:=hen;have HP7:=hid (HPd.out.go ho7);have HV7:=hid hr7;have HF7:=hid hf7;clear ho7 hr7 hf7;(refine hK.out _ _ (λhnn=>absurd hnn (by decide)) ?_;clear hK K;try simp only[Act.put,xA,xE,xC])
    (refine aB 6 (by kernel_rfl) rfl (λK hK=>?_))
    rw[if_pos (by rfl)];(with_reducible refine wp_store_row 258 _ _ rfl (g) (Cd.stC q bb v7 y2.sz y2.at_ 0) (by kernel_rfl) (by kernel_rfl) 258 _ (Sg.bk HP7.out.y) (by kernel_rfl) (by kernel_rfl) (by simp[Value.oneCell']) ?_)
    (refine hK.out _ _ (λhnn=>absurd hnn (by decide)) ?_;clear hK K;try simp only[Act.put,xA,xE,xC])
    refine aV (by kernel_rfl) ?_ _;refine NoPanic.normal ?_;have HE:Hid (R=.ok y2):=hid (by rw[<-HFK.out,Cd.mJ HD.out];rfl);obtain rfl:=HE.out;have HP8:=hid (HP7.out.row (Cd.stC q bb v7 y2.sz y2.at_ 0));have HV8:=hid (Cd.gY HV7.out HP7.out.y (by decide) (Cd.stC q bb v7 y2.sz y2.at_ 0));generalize W7.setRow g (Cd.stC q bb v7 y2.sz y2.at_ 0)=W8 at *;(have hL:=Sg.bk HP8.out.y;have hQ:=Sg.bk HP8.out.res;go_wp2_with(first|(refine wpList_load_row rfl _ _ rfl _ rfl _ _ _ _ hL Tryz.underlying258 rfl (by kernel_rfl) ?_)|(refine wpList_store_row rfl _ _ _ rfl _ _ rfl rfl _ _ hQ (by kernel_rfl) (by rfl) (by simp[Value.oneCell']) ?_));exact Sg.dW rfl _ rfl _ _ _ (HP8.out.res.row _) Tryz.underlying258 rfl (by kernel_rfl) rfl ⟨⟨v7,rfl,Cd.gY HV8.out HP8.out.res (by decide) _,HP8.out.out _⟩,HF7.out⟩)
 exact absurd hkx (by omega)
