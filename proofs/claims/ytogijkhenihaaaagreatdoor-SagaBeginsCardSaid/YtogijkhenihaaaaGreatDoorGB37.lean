import Derived.Test.YtogijkhenihaaaaGreatDoorGB36
set_option linter.all false
set_option maxRecDepth 100000
set_option maxHeartbeats 0
namespace Go.Proofs.YtogijkhenihaaaaGreatDoor
open Lib (hid)
open Go.BigFrame Go.RowKit
theorem EK(s:Id.Sch)(hF:Chk.Fine s)(hR:Chk.Right s)(q:Cd.Q4)(bb:ByteArray)(hbb:bb.size<=1000000)(w0:World)(hs:Id.ay w0 none (Cd.qK q) s)(k:Nat)(hk:k+1<=12)(ih:Cd.og s q bb w0 k):Cd.Ed s q bb w0 (k+1) (λx y=>Cd.full x∨Cd.iy y.kind):=by
 intro tv t x vv w hkk ht h12 hx hb0 hrow hst;obtain⟨R,HR⟩:∃ R,Hid (Cd.aY s bb.data.toList (k+1) t x=R):=⟨_,hid rfl⟩;rw[HR.out];obtain⟨⟨xk,xn⟩,t,rfl⟩:∃ x l,t=x::l:=List.exists_cons_of_ne_nil (Vl.lJ ht);have hkx:=hkk _ _ rfl;clear hkk;obtain⟨ar,har⟩:∃ ar:Nat,ar+k+1=12:=⟨11 - k,by omega⟩;have e12:(12 - ((k+1:Nat):Int))=(ar:Int):=by omega
 have e13:(12 - (k:Int))=(ar:Int)+1:=by omega
 rw[e12];unfold Cd.og at ih;rw[e13]at ih;have HIH:=hid ih;have HTT:=hid ht;have HKN:=hid (Vl.pF ht);obtain⟨A,n,c,rfl⟩:=ah.is hst;have hn:n=t.length+1:=by obtain⟨_,_,e,_⟩:=ah.slice hst;injection e
 have hcn:n<=c:=by obtain⟨_,_,e,h,_⟩:=ah.slice hst;injection e with _ e2 e3;rw[e3,e2];exact h
 have hcm:c<=9223372036854775807:=by obtain⟨_,_,e,_,h,_⟩:=ah.slice hst;injection e with _ _ e3;omega
 have hnm:n<=12:=by rw[hn];simpa using h12
 obtain⟨g7,dJ,cs,rfl,-⟩:=ah.get hst (i:=0) (by simp) (by omega);have HLT:Hid (n=t.length+1):=hid hn;have hn1:0<n:=by omega
 have hn0:(0:Int)<(n:Int):=by omega
 obtain⟨tt0,tt1⟩:=Cd.sW hst;have hg7:g7<w0.heap.size:=xH w0 _ tt0;have hg8:g7<w0.heap.size:=hg7;have HT0:=hid (λ(W:World) (h:Below w0.heap.size w0 W)=>((h.cell (p:=⟨g7,dJ,none⟩) hg7).trans tt0));have HT1:=hid (λ(W:World) (h:Below w0.heap.size w0 W)=>((h.cell (p:=⟨g7,dJ+1,none⟩) hg7).trans tt1));have HTL:=hid (λ(y:Id.Srt) (l:List Id.Srt) (e:t=y::l)=>ah.tail hst);have HFI:=hid (λW hW=>qj (Cd.qK q) s xn w0 W hs hW);have HTY:Hid (∀ r,Chk.find s xn=some r->r.fields.length<=99/\∀ f∈r.fields,Chk.okT s f.type=true/\f.type.length<=12):=hid (λr hr=>by
  have hrm:r∈s.records:=List.mem_of_find?_eq_some hr;exact⟨(hF.re r hrm).2.1,λf hf=>Vl.lZ (Vl.nV hR hrm hf)⟩)
 obtain⟨p,v,z⟩:=x;obtain⟨A9,n9,c9⟩:=vv;have HN9:Hid (n9=v.length):=hid (by obtain⟨_,_,e,_⟩:=ah.slice hrow;injection e);have hv9:n9<=4096:=by rw[HN9.out];exact hx.hv
 have hz9:z<=4096:=hx.hz;have hp9:p<=bb.size:=hx.ha;have HRW:=hid hrow;have HB0:=hid hb0;have hB:=hb0.size;clear hx hb0 hrow hst ht h12 ih e12 e13 hn hs hF hR tt0 tt1 hg7;go_enter Tryz.func192,Tryz.ntmps192;go_upto_region 1 with(fail)
 refine aj (λV hV=>?_);have HP:=hid (Cd.PS.start hB hV);have HRV:=hid (Vl.bT.below HRW.out (Cd.DI.start hV).bel);clear hV HRW;(have c4:=HP.out.y.cell 4;have c5:=HP.out.y.cell 5;have c6:=HP.out.y.cell 6;have c7:=HP.out.y.cell 7;have c8:=HP.out.y.cell 8;have f6:=HP.out.y.frozen 6;simp only[List.getElem?_toArray,List.getElem?_cons_zero,List.getElem?_cons_succ]at c4 c5 c6 c7 c8)
 try simp only[xY]at c8
 have ha1:¬(12:Int)<=(ar:Int):=by omega
 have hwz:IntKind.i64.wrap ((z:Int)+1)=((z+1:Nat):Int):=by rw[IntKind.wrap_i64];omega
 by_cases h1:n9=4096
 case pos =>
  have HE:Hid (R=.error (p,3)):=hid (by rw[<-HR.out,Cd.aY,if_pos (.inl (by simp only;rw[<-HN9.out];omega))]);obtain rfl:=HE.out;have t1:(4096:Int)<=(n9:Int):=by omega
  have HH1:=hid h1;clear h1;(have hL:=Sg.bk HP.out.y;go_wp2_with(refine wpList_load_row rfl _ _ rfl _ rfl _ _ _ _ hL Tryz.underlying258 rfl (by kernel_rfl) ?_);refine(gy q bb ⟨A9,n9,c9⟩ z p 0 p 3 _).mono ?_;rintro en W3⟨rfl,hb3⟩;have HF:=hid (HP.out.below hb3);clear hb3 hL;have hQ:=Sg.bk HF.out.res;go_wp2_with(refine wpList_store_row rfl _ _ _ rfl _ _ rfl rfl _ _ hQ (by kernel_rfl) (by rfl) (by simp[Value.oneCell']) ?_);exact Sg.dW rfl _ rfl _ _ _ (HF.out.res.row _) Tryz.underlying258 rfl (by kernel_rfl) rfl ⟨⟨A9,n9,c9⟩,z,rfl,(show(3:Nat)≠0 by decide),HF.out.out _⟩)
 have t1:¬(4096:Int)<=(n9:Int):=by omega
 by_cases h2:z=4096
 case pos =>
  have HE:Hid (R=.error (p,3)):=hid (by rw[<-HR.out,Cd.aY,if_pos (.inr (by simp only;omega))]);obtain rfl:=HE.out;have t2:(4096:Int)<((z+1:Nat):Int):=by omega
  have HH2:=hid h2;clear h2;(have hL:=Sg.bk HP.out.y;go_wp2_with(refine wpList_load_row rfl _ _ rfl _ rfl _ _ _ _ hL Tryz.underlying258 rfl (by kernel_rfl) ?_);refine(gy q bb ⟨A9,n9,c9⟩ z p 0 p 3 _).mono ?_;rintro en W3⟨rfl,hb3⟩;have HF:=hid (HP.out.below hb3);clear hb3 hL;have hQ:=Sg.bk HF.out.res;go_wp2_with(refine wpList_store_row rfl _ _ _ rfl _ _ rfl rfl _ _ hQ (by kernel_rfl) (by rfl) (by simp[Value.oneCell']) ?_);exact Sg.dW rfl _ rfl _ _ _ (HF.out.res.row _) Tryz.underlying258 rfl (by kernel_rfl) rfl ⟨⟨A9,n9,c9⟩,z,rfl,(show(3:Nat)≠0 by decide),HF.out.out _⟩)
 have t2:¬(4096:Int)<((z+1:Nat):Int):=by omega
 have HNF:Hid (¬Cd.full ⟨p,v,z⟩):=hid (by unfold Cd.full;simp only;rw[<-HN9.out];omega);have SC:Hid (¬Cd.full ⟨p,v,z⟩):=HNF;have hvl:v.length<4096:=by rw[<-HN9.out];omega
 go_upto_region 7 with(fail)
 refine aj (λV2 hV=>?_);have HRR:Hid ((if Cd.iy xk then Cd.uH bb.data.toList xk ⟨p,v,z+1⟩else Cd.goD (Cd.aY s bb.data.toList k) (Cd.o7 s bb.data.toList ⟨xk,xn⟩ t ⟨p,v,z+1⟩))=R):=hid (by rw[<-HR.out,Cd.aY,if_neg HNF.out];rfl);have HP2:Hid (Cd.PS w0.heap.size w w.heap.size (Cd.stC q bb ⟨A9,n9,c9⟩ (z+1) p 0) V2):=hid (by rw[hV];exact HP.out.set 6 (.int .i64 ((z+1:Nat):Int)));have jT:Hid (Vl.bT V2 (some w0.heap.size) (.slice A9 n9 c9) v):=hid (by rw[hV];exact Cd.pq HRV.out HP.out.y (by decide) 6 _);have hz1:z+1<=4096:=by omega
 clear hV HP HRV HR HNF h1 h2 t1 t2 hwz hz9 ha1;(clear c4 c5 c6 c7 c8 f6)
 have hlf:Cd.iy xk:=(by
  rcases hkx with h|h
  ·exact absurd h SC.out
  ·exact h)
 clear hkx SC;generalize z+1=z1 at *;have hb2:=HB0.out.trans HP2.out.on.bel;have HB2:=hid hb2;have t0:=HT0.out _ hb2;clear hb2;(have c4:=HP2.out.y.cell 4;have c5:=HP2.out.y.cell 5;have c6:=HP2.out.y.cell 6;have c7:=HP2.out.y.cell 7;have c8:=HP2.out.y.cell 8;have f6:=HP2.out.y.frozen 6;simp only[List.getElem?_toArray,List.getElem?_cons_zero,List.getElem?_cons_succ]at c4 c5 c6 c7 c8)
 try simp only[xY]at c8
 by_cases k1:xk=1
 case pos =>
  subst k1;have HE:Hid (R=.ok ⟨p,v++[⟨1,0,Cd.E0,0⟩],z1⟩):=hid (by rw[<-HRR.out];rfl);obtain rfl:=HE.out;(have hL:=Sg.bk HP2.out.y;go_wp2_with(refine wpList_load_row rfl _ _ rfl _ rfl _ _ _ _ hL Tryz.underlying258 rfl (by kernel_rfl) ?_);refine(jY q bb ⟨A9,n9,c9⟩ z1 p 0 w0.heap.size v ⟨1,0,Cd.E0,0⟩ _ jT.out (by omega) HP2.out.big).mono ?_;rintro en W5⟨v5,rfl,hr5,ho5⟩;have HF:=hid (HP2.out.go ho5);have HV5:=hid hr5;clear hr5 ho5 hL;have hQ:=Sg.bk HF.out.res;go_wp2_with(refine wpList_store_row rfl _ _ _ rfl _ _ rfl rfl _ _ hQ (by kernel_rfl) (by rfl) (by simp[Value.oneCell']) ?_);exact Sg.dW rfl _ rfl _ _ _ (HF.out.res.row _) Tryz.underlying258 rfl (by kernel_rfl) rfl ⟨⟨v5,rfl,Cd.gY HV5.out HF.out.res (by decide) _,HF.out.out _⟩,Cd.Fit.put (by omega) (by omega) (by omega)⟩)
 by_cases k2:xk=2
 case pos =>
  subst k2;have hrb:(match Cd.bit bb.data.toList p with
   | .error e=>.error e
   | .ok q=>.ok ⟨q.2,v++[⟨2,q.1,Cd.E0,0⟩],z1⟩:Cd.Rs Cd.S)=R:=by rw[<-HRR.out];rfl
  have hrd:=λW=>ES q bb hbb ⟨A9,n9,c9⟩ z1 p 0 hp9 W
  obtain⟨O,HO⟩:∃ O,Hid (Cd.bit bb.data.toList p=O):=⟨_,hid rfl⟩;rw[HO.out]at hrb hrd;have HRB:=hid hrb;have HRD:=hid hrd;have HER:=hid (λ(r:Nat × Nat) (h:O=.error r)=>Cd.ER (HO.out.trans h));have HOK:=hid (λ(u j:Nat) (h:O=.ok (u,j))=>Cd.Ic (HO.out.trans h));have HBL:Hid (bb.data.toList.length=bb.size):=hid (by simp);clear hrb hrd HO HRR;(have hL:=Sg.bk HP2.out.y;go_wp2_with(refine wpList_load_row rfl _ _ rfl _ rfl _ _ _ _ hL Tryz.underlying258 rfl (by kernel_rfl) ?_);refine(HRD.out _).mono ?_;rintro en W2⟨hen,hb2⟩;have HP3:=hid (HP2.out.below hb2);have lI:=hid (Vl.bT.below jT.out hb2);clear hb2 hL HRD HP2 jT t0;(clear c4 c5 c6 c7 c8 f6))
  match O,hen,HRB,HER,HOK with
  | .error r,hen,HRB,HER,HOK=>(obtain⟨pp,ee⟩:=r;obtain rfl:=hen;have hee:ee≠0:=HER.out (pp,ee) rfl;have HEE:=hid hee;have HE:Hid (R=.error (pp,ee)):=hid HRB.out.symm;obtain rfl:=HE.out;have t1:((ee:Int) != 0)=true:=(by rw[bne_iff_ne];omega);simp only;go_upto_region 12 with(fail);refine aj (λV3 hV=>?_);have HP4:=hid (HP3.out.new hV);clear hV hee HER HOK HRB HE HP3 lI;(have c4:=HP4.out.y.cell 4;have c5:=HP4.out.y.cell 5;have c6:=HP4.out.y.cell 6;have c7:=HP4.out.y.cell 7;have c8:=HP4.out.y.cell 8;have f6:=HP4.out.y.frozen 6;simp only[List.getElem?_toArray,List.getElem?_cons_zero,List.getElem?_cons_succ]at c4 c5 c6 c7 c8);(have hL:=Sg.bk HP4.out.y;have hQ:=Sg.bk HP4.out.res;go_wp2_with(first|(refine wpList_load_row rfl _ _ rfl _ rfl _ _ _ _ hL Tryz.underlying258 rfl (by kernel_rfl) ?_)|(refine wpList_store_row rfl _ _ _ rfl _ _ rfl rfl _ _ hQ (by kernel_rfl) (by rfl) (by simp[Value.oneCell']) ?_));exact Sg.dW rfl _ rfl _ _ _ (HP4.out.res.row _) Tryz.underlying258 rfl (by kernel_rfl) rfl ⟨⟨A9,n9,c9⟩,z1,rfl,HEE.out,HP4.out.out _⟩))
  | .ok r,hen,HRB,HER,HOK =>
   obtain⟨u,pp⟩:=r;obtain rfl:=hen;obtain⟨hu,hpp,hlt⟩:=HOK.out u pp rfl;rw[HBL.out]at hlt;have HPP:=hid hpp;have TJ:pp<=bb.size:=by omega
   clear hpp;have HE:Hid (R=.ok ⟨pp,v++[⟨2,u,Cd.E0,0⟩],z1⟩):=hid HRB.out.symm;obtain rfl:=HE.out;have hwu:IntKind.i64.wrap (u:Int)=(u:Int):=by rw[IntKind.wrap_i64];omega
   (simp only;go_upto_region 12 with(fail);refine aj (λV3 hV=>?_);have hp4:=HP3.out.new hV;have oO:Vl.bT V3 (some w0.heap.size) (.slice A9 n9 c9) v:=(by rw[hV];exact Vl.bT.below lI.out ((Below.refl W2.heap.size W2).alloc (xB _) _));obtain⟨g,hg⟩:∃ g,W2.heap.size=g:=⟨_,rfl⟩;rw[hg]at hp4 ⊢;have HP4:=hid hp4;have pW:=hid oO;clear hV hp4 oO hg HP3 lI HER HOK;(have c4:=HP4.out.y.cell 4;have c5:=HP4.out.y.cell 5;have c6:=HP4.out.y.cell 6;have c7:=HP4.out.y.cell 7;have c8:=HP4.out.y.cell 8;have f6:=HP4.out.y.frozen 6;simp only[List.getElem?_toArray,List.getElem?_cons_zero,List.getElem?_cons_succ]at c4 c5 c6 c7 c8);try simp only[xY]at c8)
   (have hL:=Sg.bk HP4.out.y;go_wp2_with(refine wpList_load_row rfl _ _ rfl _ rfl _ _ _ _ hL Tryz.underlying258 rfl (by kernel_rfl) ?_);refine(jY q bb ⟨A9,n9,c9⟩ z1 pp 0 w0.heap.size v ⟨2,u,Cd.E0,0⟩ _ pW.out (by omega) HP4.out.big).mono ?_;rintro en W5⟨v5,rfl,hr5,ho5⟩;have HF:=hid (HP4.out.go ho5);have HV5:=hid hr5;clear hr5 ho5 hL;have hQ:=Sg.bk HF.out.res;go_wp2_with(refine wpList_store_row rfl _ _ _ rfl _ _ rfl rfl _ _ hQ (by kernel_rfl) (by rfl) (by simp[Value.oneCell']) ?_);exact Sg.dW rfl _ rfl _ _ _ (HF.out.res.row _) Tryz.underlying258 rfl (by kernel_rfl) rfl ⟨⟨v5,rfl,Cd.gY HV5.out HF.out.res (by decide) _,HF.out.out _⟩,Cd.Fit.put (by omega) (by omega) (by omega)⟩)
 by_cases k3:xk=3
 case pos =>
  subst k3;have hrb:(match Cd.num bb.data.toList p with
   | .error e=>.error e
   | .ok q=>.ok ⟨q.2,v++[⟨3,Cd.un q.1,Cd.E0,0⟩],z1⟩:Cd.Rs Cd.S)=R:=by rw[<-HRR.out];rfl
  have hrd:=λW=>tX q bb hbb ⟨A9,n9,c9⟩ z1 p 0 hp9 W
  obtain⟨O,HO⟩:∃ O,Hid (Cd.num bb.data.toList p=O):=⟨_,hid rfl⟩;rw[HO.out]at hrb hrd;have HRB:=hid hrb;have HRD:=hid hrd;have HER:=hid (λ(r:Nat × Nat) (h:O=.error r)=>Cd.vw (HO.out.trans h));have HOK:=hid (λ(u j:Nat) (h:O=.ok (u,j))=>Cd.uQ (HO.out.trans h));have HBL:Hid (bb.data.toList.length=bb.size):=hid (by simp);clear hrb hrd HO HRR;(have hL:=Sg.bk HP2.out.y;go_wp2_with(refine wpList_load_row rfl _ _ rfl _ rfl _ _ _ _ hL Tryz.underlying258 rfl (by kernel_rfl) ?_);refine(HRD.out _).mono ?_;rintro en W2⟨hen,hb2⟩;have HP3:=hid (HP2.out.below hb2);have lI:=hid (Vl.bT.below jT.out hb2);clear hb2 hL HRD HP2 jT t0;(clear c4 c5 c6 c7 c8 f6))
  match O,hen,HRB,HER,HOK with
  | .error r,hen,HRB,HER,HOK=>(obtain⟨pp,ee⟩:=r;obtain rfl:=hen;have hee:ee≠0:=HER.out (pp,ee) rfl;have HEE:=hid hee;have HE:Hid (R=.error (pp,ee)):=hid HRB.out.symm;obtain rfl:=HE.out;have t1:((ee:Int) != 0)=true:=(by rw[bne_iff_ne];omega);simp only;go_upto_region 17 with(fail);refine aj (λV3 hV=>?_);have HP4:=hid (HP3.out.new hV);clear hV hee HER HOK HRB HE HP3 lI;(have c4:=HP4.out.y.cell 4;have c5:=HP4.out.y.cell 5;have c6:=HP4.out.y.cell 6;have c7:=HP4.out.y.cell 7;have c8:=HP4.out.y.cell 8;have f6:=HP4.out.y.frozen 6;simp only[List.getElem?_toArray,List.getElem?_cons_zero,List.getElem?_cons_succ]at c4 c5 c6 c7 c8);(have hL:=Sg.bk HP4.out.y;have hQ:=Sg.bk HP4.out.res;go_wp2_with(first|(refine wpList_load_row rfl _ _ rfl _ rfl _ _ _ _ hL Tryz.underlying258 rfl (by kernel_rfl) ?_)|(refine wpList_store_row rfl _ _ _ rfl _ _ rfl rfl _ _ hQ (by kernel_rfl) (by rfl) (by simp[Value.oneCell']) ?_));exact Sg.dW rfl _ rfl _ _ _ (HP4.out.res.row _) Tryz.underlying258 rfl (by kernel_rfl) rfl ⟨⟨A9,n9,c9⟩,z1,rfl,HEE.out,HP4.out.out _⟩))
  | .ok r,hen,HRB,HER,HOK =>
   obtain⟨u,pp⟩:=r;obtain rfl:=hen;obtain⟨hu,-,hlt,hpp⟩:=HOK.out u pp rfl;rw[HBL.out]at hpp;(simp only;go_upto_region 17 with(fail);refine aj (λV3 hV=>?_);have hp4:=HP3.out.new hV;have oO:Vl.bT V3 (some w0.heap.size) (.slice A9 n9 c9) v:=(by rw[hV];exact Vl.bT.below lI.out ((Below.refl W2.heap.size W2).alloc (xB _) _));obtain⟨g,hg⟩:∃ g,W2.heap.size=g:=⟨_,rfl⟩;rw[hg]at hp4 ⊢;have HP4:=hid hp4;have pW:=hid oO;clear hV hp4 oO hg HP3 lI HER HOK;(have c4:=HP4.out.y.cell 4;have c5:=HP4.out.y.cell 5;have c6:=HP4.out.y.cell 6;have c7:=HP4.out.y.cell 7;have c8:=HP4.out.y.cell 8;have f6:=HP4.out.y.frozen 6;simp only[List.getElem?_toArray,List.getElem?_cons_zero,List.getElem?_cons_succ]at c4 c5 c6 c7 c8);try simp only[xY]at c8)
   obtain⟨h,hh⟩:∃ h:Nat,u / 2=h:=⟨_,rfl⟩;have hq:(u:Int) / 2=(h:Int):=by omega
   have hw1:IntKind.i64.wrap (h:Int)=(h:Int):=by rw[IntKind.wrap_i64];omega
   by_cases hodd:u % 2=1
   ·have HU:Hid (Cd.un u=-(h:Int) - 1):=hid (by unfold Cd.un;rw[if_neg (by omega),hh])
    have t1:(u:Int) % 2=1:=by omega
    have hw2:IntKind.i64.wrap (-(h:Int))=-(h:Int):=by rw[IntKind.wrap_i64];omega
    have hw3:IntKind.i64.wrap (-(h:Int) - 1)=-(h:Int) - 1:=by rw[IntKind.wrap_i64];omega
    have HH:=hid hh;clear hh;have HE:Hid (R=.ok ⟨pp,v++[⟨3,-(h:Int) - 1,Cd.E0,0⟩],z1⟩):=hid (by rw[<-HRB.out,<-HU.out]);obtain rfl:=HE.out;(have hL:=Sg.bk HP4.out.y;go_wp2_with(refine wpList_load_row rfl _ _ rfl _ rfl _ _ _ _ hL Tryz.underlying258 rfl (by kernel_rfl) ?_);refine(jY q bb ⟨A9,n9,c9⟩ z1 pp 0 w0.heap.size v ⟨3,-(h:Int) - 1,Cd.E0,0⟩ _ pW.out (by omega) HP4.out.big).mono ?_;rintro en W5⟨v5,rfl,hr5,ho5⟩;have HF:=hid (HP4.out.go ho5);have HV5:=hid hr5;clear hr5 ho5 hL;have hQ:=Sg.bk HF.out.res;go_wp2_with(refine wpList_store_row rfl _ _ _ rfl _ _ rfl rfl _ _ hQ (by kernel_rfl) (by rfl) (by simp[Value.oneCell']) ?_);exact Sg.dW rfl _ rfl _ _ _ (HF.out.res.row _) Tryz.underlying258 rfl (by kernel_rfl) rfl ⟨⟨v5,rfl,Cd.gY HV5.out HF.out.res (by decide) _,HF.out.out _⟩,Cd.Fit.put (by omega) (by omega) (by omega)⟩)
   ·have HU:Hid (Cd.un u=(h:Int)):=hid (by unfold Cd.un;rw[if_pos (by omega),hh])
    have t1:(u:Int) % 2=0:=by omega
    have HH:=hid hh;clear hh;have HE:Hid (R=.ok ⟨pp,v++[⟨3,(h:Int),Cd.E0,0⟩],z1⟩):=hid (by rw[<-HRB.out,<-HU.out]);obtain rfl:=HE.out;(have hL:=Sg.bk HP4.out.y;go_wp2_with(refine wpList_load_row rfl _ _ rfl _ rfl _ _ _ _ hL Tryz.underlying258 rfl (by kernel_rfl) ?_);refine(jY q bb ⟨A9,n9,c9⟩ z1 pp 0 w0.heap.size v ⟨3,(h:Int),Cd.E0,0⟩ _ pW.out (by omega) HP4.out.big).mono ?_;rintro en W5⟨v5,rfl,hr5,ho5⟩;have HF:=hid (HP4.out.go ho5);have HV5:=hid hr5;clear hr5 ho5 hL;have hQ:=Sg.bk HF.out.res;go_wp2_with(refine wpList_store_row rfl _ _ _ rfl _ _ rfl rfl _ _ hQ (by kernel_rfl) (by rfl) (by simp[Value.oneCell']) ?_);exact Sg.dW rfl _ rfl _ _ _ (HF.out.res.row _) Tryz.underlying258 rfl (by kernel_rfl) rfl ⟨⟨v5,rfl,Cd.gY HV5.out HF.out.res (by decide) _,HF.out.out _⟩,Cd.Fit.put (by omega) (by omega) (by omega)⟩)
 by_cases k4:xk=4
 case pos =>
  subst k4;have hrb:Cd.uH bb.data.toList 4 ⟨p,v,z1⟩=R:=by rw[<-HRR.out];rfl
  have hrd:=λW hr hW=>Gi q bb hbb ⟨A9,n9,c9⟩ z1 p w0.heap.size v W hr hvl hz1 hW hp9
  rw[hrb]at hrd;have HRD:=hid hrd;clear hrb hrd HRR;have hL:=Sg.bk HP2.out.y;go_wp2_with(refine wpList_load_row rfl _ _ rfl _ rfl _ _ _ _ hL Tryz.underlying258 rfl (by kernel_rfl) ?_);refine(HRD.out _ jT.out HP2.out.big).mono ?_;rintro en W2 hen;clear hL HRD t0;(clear c4 c5 c6 c7 c8 f6)
  match R,hen with
  | .error r,hen =>
   obtain⟨v5,z5,rfl,hne,ho5⟩:=hen;have HF:=hid (HP2.out.go ho5);have hQ:=Sg.bk HF.out.res;clear ho5;go_wp2_with(refine wpList_store_row rfl _ _ _ rfl _ _ rfl rfl _ _ hQ (by kernel_rfl) (by rfl) (by simp[Value.oneCell']) ?_);exact Sg.dW rfl _ rfl _ _ _ (HF.out.res.row _) Tryz.underlying258 rfl (by kernel_rfl) rfl ⟨v5,z5,rfl,hne,HF.out.out _⟩
  | .ok y,hen =>
   obtain⟨⟨v5,rfl,hr5,ho5⟩,hf5⟩:=hen;have HF:=hid (HP2.out.go ho5);have hQ:=Sg.bk HF.out.res;clear ho5;go_wp2_with(refine wpList_store_row rfl _ _ _ rfl _ _ rfl rfl _ _ hQ (by kernel_rfl) (by rfl) (by simp[Value.oneCell']) ?_);exact Sg.dW rfl _ rfl _ _ _ (HF.out.res.row _) Tryz.underlying258 rfl (by kernel_rfl) rfl ⟨⟨v5,rfl,Cd.gY hr5 HF.out.res (by decide) _,HF.out.out _⟩,hf5⟩
 exact absurd hlf (by unfold Cd.iy;omega)
