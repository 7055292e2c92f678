import Derived.Test.YtogijkhenihaaaaGreatDoorGT14
set_option linter.all false
set_option maxRecDepth 100000
set_option maxHeartbeats 0
namespace Go.Proofs.YtogijkhenihaaaaGreatDoor
open Lib (hid)
open Go.RowKit
section
open Go.BigFrame
theorem TG(s:Id.Sch)(v:List Vl.Node)(vs:Value)(w0:World)(b g m k:Nat)(hv:Vl.fP w0 none vs v)(hl:v.length<=100000)(hR:Chk.Right s)(ih:Vl.OfC s v vs w0 b g m k):Vl.OfC s v vs w0 b g m (k+1):=by
 intro tv t a w ht h12 ha hlen hE hC hs;obtain⟨⟨xk,xn⟩,t,rfl⟩:∃ x l,t=x::l:=List.exists_cons_of_ne_nil (Vl.y8 ht);obtain⟨R,HR⟩:∃ R,Hid (Vl.ofF s none (k+1) (⟨xk,xn⟩::t) (v.drop a)=R):=⟨_,hid rfl⟩;rw[HR.out];have HV:=hid hv;have HIH:=hid ih;have HE:=hid hE;have HC:=hid hC;have HS:=hid hs;have HTT:=hid ht;have hRR:=hid hR;obtain⟨A,n,c,rfl⟩:=ah.is hs;have hn:n=t.length+1:=by obtain⟨_,_,e,_⟩:=ah.slice hs;injection e
 have hnm:n<=12:=by rw[hn];simpa using h12
 obtain⟨g7,fG,cs,rfl,-,e1,hc⟩:=ah.get hs (i:=0) (by simp) (by omega);unfold Id.dF Id.Srt.cells at e1;simp only[List.getElem_cons_zero]at e1;subst e1;have a0:=hc 0 _ rfl;have a1:=hc 1 _ rfl;simp only[Nat.zero_mul,xK]at a0 a1;have hg7:g7<w0.heap.size:=xH w0 _ a0;have hn0:(0:Int)<(n:Int):=by omega
 have hn1:0<n:=by omega
 have HLT:Hid (n=t.length+1):=hid hn;have HKN:=hid (Vl.Jr ht);obtain⟨B0,hB0⟩:∃ B:Nat,B=g7:=⟨_,rfl⟩;clear hv ih hE hC hs hc ht hR hB0 hn h12 B0;go_enter Tryz.func65,Tryz.ntmps65;go_upto_region 1 with(fail)
 refine ak (λV hV=>?_);obtain⟨hb1,hq1,-⟩:=ay hV;clear hV;have HEV:=hid (HE.out.below hb1);have HCV:=hid (HC.out.below hb1);have HGV:=hid (aQ hb1 (some b));have HQ:=hid hq1;have hrw:w.heap.size<V.heap.size:=hq1.lt;have hbw:b<w.heap.size:=HE.out.lt;have hbr:b≠w.heap.size:=by omega
 obtain⟨q0,-⟩:=hq1.k1;have a0:=(HEV.out.bel.cell hg7).trans a0;have a1:=(HEV.out.bel.cell hg7).trans a1;clear hb1 hq1;by_cases h1:xk=1
 case pos =>
  subst h1;rw[Vl.zu (x:=⟨1,xn⟩) (by simp)]at HR;clear HIH HTT;go_wp2_with fail;refine(l9 b a vs (Vl.jW g) v 1 w0 V HV.out HEV.out.bel HEV.out.lo HCV.out ha hl).mono ?_;rintro e V1⟨rfl,hg1,hc1⟩;have HEN:=hid (HEV.out.grown hg1);have HGN:=hid (Vl.aI HGV.out hg1);have HQ1:Hid (Bk V1 w.heap.size 45 #[.slice (some ⟨g7,fG,none⟩) n c]):=hid (HQ.out.grown hg1 (by intro e;injection e with e;exact hbr e.symm));unfold Vl.rX at hc1;obtain⟨Z,hz⟩:∃ Z,Vl.nxt (v.drop a) 1=Z:=⟨_,rfl⟩;rw[hz]at hc1;rw[hz];have HZ:=hid hz;clear hz q0 a0 a1;cases Z with
  |none =>
   have HCN:=hid hc1;clear hc1 hg1;have HX:Hid (R=none):=hid (by rw[<-HR.out];rw[if_neg (by unfold Vl.jq;rw[HZ.out];decide)]);simp only[Option.getD_none,Option.isSome_none,Vl.qC,Vl.Node.val];go_wp2_with fail;refine(iT false _).mono ?_;rintro e W9⟨rfl,rfl⟩;go_wp2_with fail;go_ret;refine⟨a,by rw[HX.out];rfl,Vl.aI HGN.out (aQ ?_ _),Vl.Cur.below HCN.out ?_,ha,λp hp=>by rw[HX.out]at hp;cases hp⟩;all_goals exact(Below.refl _ _).alloc (xB _) _
  |some nd =>
   have HCN:=hid hc1;obtain⟨n0,n1,n2,n3⟩:=nd;clear hc1 hg1;simp only[Option.getD_some,Option.isSome_some,Vl.Node.val,if_true]at HCN ⊢;have hlt:a<v.length:=by
    by_cases h:a<v.length
    ·exact h
    ·exfalso
     have h1:=HZ.out;rw[xP (by omega)]at h1;cases h1
   go_upto_region 4 with(fail)
   refine ak (λV2 hV=>?_);obtain⟨hb2,hq2,-⟩:=ay hV;clear hV;have HE2:=hid (HEN.out.below hb2);have HC2:=hid (HCN.out.below hb2);have HG2:=hid (Vl.aI HGN.out (aQ hb2 _));have dQ:=hid (HQ1.out.below hb2 HQ1.out.lt);have bM:=hid hq2;have hnb:V1.heap.size<V2.heap.size:=hq2.lt;obtain⟨⟨p0,p1,p2,p3⟩,-⟩:=hq2.k4;obtain⟨q0,-⟩:=dQ.out.k1;clear hb2 hq2 HEN HCN HGN HQ1;obtain⟨B,HBB⟩:∃ B,Hid (Vl.bare ⟨n0,n1,n2,n3⟩ false false false=B):=⟨_,hid rfl⟩;go_wp2_with fail;refine(jB ⟨n0,n1,n2,n3⟩ false false false _).mono ?_;rw[HBB.out];rintro e V3⟨rfl,hb3⟩;have HE3:=hid (HE2.out.below hb3);have HC3:=hid (HC2.out.below hb3);have HG3:=hid (Vl.aI HG2.out (aQ hb3 _));have jR:=hid (dQ.out.below hb3 dQ.out.lt);have jm:=hid (bM.out.below hb3 bM.out.lt);clear p0 p1 p2 p3 q0;obtain⟨⟨p0,p1,p2,p3⟩,-⟩:=jm.out.k4;obtain⟨q0,-⟩:=jR.out.k1;clear hb3 HE2 HC2 HG2 dQ bM;cases B
   case false =>
    have hok:Vl.kQ 1 ⟨n0,n1,n2,n3⟩=false:=HBB.out;have HX:Hid (R=none):=hid (by rw[<-HR.out,if_neg (by unfold Vl.jq;rw[HZ.out];simp only;rw[hok];decide)]);go_wp2_with fail;refine(iT false _).mono ?_;rintro e W9⟨rfl,rfl⟩;go_wp2_with fail;go_ret;exact⟨a+1,by rw[HX.out];rfl,HG3.out,HC3.out,by omega,λp hp=>by rw[HX.out]at hp;cases hp⟩
   have hok:Vl.kQ 1 ⟨n0,n1,n2,n3⟩=true:=HBB.out;have HX:Hid (R=some (1,v.drop (a+1))):=hid (by rw[<-HR.out,if_pos (by unfold Vl.jq;rw[HZ.out];exact hok),List.drop_drop]);go_wp2_with fail;refine(iT true _).mono ?_;rintro e W9⟨rfl,rfl⟩;go_wp2_with fail;go_ret;exact⟨a+1,by rw[HX.out];rfl,HG3.out,HC3.out,by omega,λp hp=>by rw[HX.out]at hp;injection hp with hp;rw[<-hp]⟩
 by_cases h2:xk=2
 case pos =>
  subst h2;rw[Vl.zu (x:=⟨2,xn⟩) (by simp)]at HR;clear HIH HTT;go_wp2_with fail;refine(l9 b a vs (Vl.jW g) v 2 w0 V HV.out HEV.out.bel HEV.out.lo HCV.out ha hl).mono ?_;rintro e V1⟨rfl,hg1,hc1⟩;have HEN:=hid (HEV.out.grown hg1);have HGN:=hid (Vl.aI HGV.out hg1);have HQ1:Hid (Bk V1 w.heap.size 45 #[.slice (some ⟨g7,fG,none⟩) n c]):=hid (HQ.out.grown hg1 (by intro e;injection e with e;exact hbr e.symm));unfold Vl.rX at hc1;obtain⟨Z,hz⟩:∃ Z,Vl.nxt (v.drop a) 2=Z:=⟨_,rfl⟩;rw[hz]at hc1;rw[hz];have HZ:=hid hz;clear hz q0 a0 a1;cases Z with
  |none =>
   have HCN:=hid hc1;clear hc1 hg1;have HX:Hid (R=none):=hid (by rw[<-HR.out];rw[if_neg (by unfold Vl.jq;rw[HZ.out];decide)]);simp only[Option.getD_none,Option.isSome_none,Vl.qC,Vl.Node.val];go_wp2_with fail;refine(iT false _).mono ?_;rintro e W9⟨rfl,rfl⟩;go_wp2_with fail;go_ret;refine⟨a,by rw[HX.out];rfl,Vl.aI HGN.out (aQ ?_ _),Vl.Cur.below HCN.out ?_,ha,λp hp=>by rw[HX.out]at hp;cases hp⟩;all_goals exact(Below.refl _ _).alloc (xB _) _
  |some nd =>
   have HCN:=hid hc1;obtain⟨n0,n1,n2,n3⟩:=nd;clear hc1 hg1;simp only[Option.getD_some,Option.isSome_some,Vl.Node.val,if_true]at HCN ⊢;have hlt:a<v.length:=by
    by_cases h:a<v.length
    ·exact h
    ·exfalso
     have h1:=HZ.out;rw[xP (by omega)]at h1;cases h1
   go_upto_region 7 with(fail)
   refine ak (λV2 hV=>?_);obtain⟨hb2,hq2,-⟩:=ay hV;clear hV;have HE2:=hid (HEN.out.below hb2);have HC2:=hid (HCN.out.below hb2);have HG2:=hid (Vl.aI HGN.out (aQ hb2 _));have dQ:=hid (HQ1.out.below hb2 HQ1.out.lt);have bM:=hid hq2;have hnb:V1.heap.size<V2.heap.size:=hq2.lt;obtain⟨⟨p0,p1,p2,p3⟩,-⟩:=hq2.k4;obtain⟨q0,-⟩:=dQ.out.k1;clear hb2 hq2 HEN HCN HGN HQ1;obtain⟨B,HBB⟩:∃ B,Hid (Vl.bare ⟨n0,n1,n2,n3⟩ true false false=B):=⟨_,hid rfl⟩;go_wp2_with fail;refine(jB ⟨n0,n1,n2,n3⟩ true false false _).mono ?_;rw[HBB.out];rintro e V3⟨rfl,hb3⟩;have HE3:=hid (HE2.out.below hb3);have HC3:=hid (HC2.out.below hb3);have HG3:=hid (Vl.aI HG2.out (aQ hb3 _));have jR:=hid (dQ.out.below hb3 dQ.out.lt);have jm:=hid (bM.out.below hb3 bM.out.lt);clear p0 p1 p2 p3 q0;obtain⟨⟨p0,p1,p2,p3⟩,-⟩:=jm.out.k4;obtain⟨q0,-⟩:=jR.out.k1;clear hb3 HE2 HC2 HG2 dQ bM;cases B
   case false =>
    have hok:Vl.kQ 2 ⟨n0,n1,n2,n3⟩=false:=by unfold Vl.kQ;rw[if_neg (by decide),if_pos rfl,HBB.out];rfl
    have HX:Hid (R=none):=hid (by rw[<-HR.out,if_neg (by unfold Vl.jq;rw[HZ.out];simp only;rw[hok];decide)]);go_wp2_with fail;refine(iT false _).mono ?_;rintro e W9⟨rfl,rfl⟩;go_wp2_with fail;go_ret;exact⟨a+1,by rw[HX.out];rfl,HG3.out,HC3.out,by omega,λp hp=>by rw[HX.out]at hp;cases hp⟩
   by_cases g0:0<=n1
   case neg =>
    have d0:decide (0<=n1)=false:=decide_eq_false g0;have hok:Vl.kQ 2 ⟨n0,n1,n2,n3⟩=false:=by unfold Vl.kQ;rw[if_neg (by decide),if_pos rfl,decide_eq_false g0,Bool.and_false,Bool.false_and]
    have HX:Hid (R=none):=hid (by rw[<-HR.out,if_neg (by unfold Vl.jq;rw[HZ.out];simp only;rw[hok];decide)]);go_wp2_with fail;refine(iT false _).mono ?_;rintro e W9⟨rfl,rfl⟩;go_wp2_with fail;go_ret;exact⟨a+1,by rw[HX.out];rfl,HG3.out,HC3.out,by omega,λp hp=>by rw[HX.out]at hp;cases hp⟩
   have d0:decide (0<=n1)=true:=decide_eq_true g0;by_cases g1:n1<=1
   case neg =>
    have d1:decide (n1<=1)=false:=decide_eq_false g1;have hok:Vl.kQ 2 ⟨n0,n1,n2,n3⟩=false:=by unfold Vl.kQ;rw[if_neg (by decide),if_pos rfl,decide_eq_false g1,Bool.and_false]
    have HX:Hid (R=none):=hid (by rw[<-HR.out,if_neg (by unfold Vl.jq;rw[HZ.out];simp only;rw[hok];decide)]);go_wp2_with fail;refine(iT false _).mono ?_;rintro e W9⟨rfl,rfl⟩;go_wp2_with fail;go_ret;exact⟨a+1,by rw[HX.out];rfl,HG3.out,HC3.out,by omega,λp hp=>by rw[HX.out]at hp;cases hp⟩
   have d1:decide (n1<=1)=true:=decide_eq_true g1;have hok:Vl.kQ 2 ⟨n0,n1,n2,n3⟩=true:=by unfold Vl.kQ;rw[if_neg (by decide),if_pos rfl,HBB.out,decide_eq_true g0,decide_eq_true g1];rfl
   have HX:Hid (R=some (1,v.drop (a+1))):=hid (by rw[<-HR.out,if_pos (by unfold Vl.jq;rw[HZ.out];exact hok),List.drop_drop]);go_wp2_with fail;refine(iT true _).mono ?_;rintro e W9⟨rfl,rfl⟩;go_wp2_with fail;go_ret;exact⟨a+1,by rw[HX.out];rfl,HG3.out,HC3.out,by omega,λp hp=>by rw[HX.out]at hp;injection hp with hp;rw[<-hp]⟩
 by_cases h3:xk=3
 case pos =>
  subst h3;rw[Vl.zu (x:=⟨3,xn⟩) (by simp)]at HR;clear HIH HTT;go_wp2_with fail;refine(l9 b a vs (Vl.jW g) v 3 w0 V HV.out HEV.out.bel HEV.out.lo HCV.out ha hl).mono ?_;rintro e V1⟨rfl,hg1,hc1⟩;have HEN:=hid (HEV.out.grown hg1);have HGN:=hid (Vl.aI HGV.out hg1);have HQ1:Hid (Bk V1 w.heap.size 45 #[.slice (some ⟨g7,fG,none⟩) n c]):=hid (HQ.out.grown hg1 (by intro e;injection e with e;exact hbr e.symm));unfold Vl.rX at hc1;obtain⟨Z,hz⟩:∃ Z,Vl.nxt (v.drop a) 3=Z:=⟨_,rfl⟩;rw[hz]at hc1;rw[hz];have HZ:=hid hz;clear hz q0 a0 a1;cases Z with
  |none =>
   have HCN:=hid hc1;clear hc1 hg1;have HX:Hid (R=none):=hid (by rw[<-HR.out];rw[if_neg (by unfold Vl.jq;rw[HZ.out];decide)]);simp only[Option.getD_none,Option.isSome_none,Vl.qC,Vl.Node.val];go_wp2_with fail;refine(iT false _).mono ?_;rintro e W9⟨rfl,rfl⟩;go_wp2_with fail;go_ret;refine⟨a,by rw[HX.out];rfl,Vl.aI HGN.out (aQ ?_ _),Vl.Cur.below HCN.out ?_,ha,λp hp=>by rw[HX.out]at hp;cases hp⟩;all_goals exact(Below.refl _ _).alloc (xB _) _
  |some nd =>
   have HCN:=hid hc1;obtain⟨n0,n1,n2,n3⟩:=nd;clear hc1 hg1;simp only[Option.getD_some,Option.isSome_some,Vl.Node.val,if_true]at HCN ⊢;have hlt:a<v.length:=by
    by_cases h:a<v.length
    ·exact h
    ·exfalso
     have h1:=HZ.out;rw[xP (by omega)]at h1;cases h1
   go_upto_region 10 with(fail)
   refine ak (λV2 hV=>?_);obtain⟨hb2,hq2,-⟩:=ay hV;clear hV;have HE2:=hid (HEN.out.below hb2);have HC2:=hid (HCN.out.below hb2);have HG2:=hid (Vl.aI HGN.out (aQ hb2 _));have dQ:=hid (HQ1.out.below hb2 HQ1.out.lt);have bM:=hid hq2;have hnb:V1.heap.size<V2.heap.size:=hq2.lt;obtain⟨⟨p0,p1,p2,p3⟩,-⟩:=hq2.k4;obtain⟨q0,-⟩:=dQ.out.k1;clear hb2 hq2 HEN HCN HGN HQ1;obtain⟨B,HBB⟩:∃ B,Hid (Vl.bare ⟨n0,n1,n2,n3⟩ true false false=B):=⟨_,hid rfl⟩;go_wp2_with fail;refine(jB ⟨n0,n1,n2,n3⟩ true false false _).mono ?_;rw[HBB.out];rintro e V3⟨rfl,hb3⟩;have HE3:=hid (HE2.out.below hb3);have HC3:=hid (HC2.out.below hb3);have HG3:=hid (Vl.aI HG2.out (aQ hb3 _));have jR:=hid (dQ.out.below hb3 dQ.out.lt);have jm:=hid (bM.out.below hb3 bM.out.lt);clear p0 p1 p2 p3 q0;obtain⟨⟨p0,p1,p2,p3⟩,-⟩:=jm.out.k4;obtain⟨q0,-⟩:=jR.out.k1;clear hb3 HE2 HC2 HG2 dQ bM;cases B
   case false =>
    have hok:Vl.kQ 3 ⟨n0,n1,n2,n3⟩=false:=HBB.out;have HX:Hid (R=none):=hid (by rw[<-HR.out,if_neg (by unfold Vl.jq;rw[HZ.out];simp only;rw[hok];decide)]);go_wp2_with fail;refine(iT false _).mono ?_;rintro e W9⟨rfl,rfl⟩;go_wp2_with fail;go_ret;exact⟨a+1,by rw[HX.out];rfl,HG3.out,HC3.out,by omega,λp hp=>by rw[HX.out]at hp;cases hp⟩
   have hok:Vl.kQ 3 ⟨n0,n1,n2,n3⟩=true:=HBB.out;have HX:Hid (R=some (1,v.drop (a+1))):=hid (by rw[<-HR.out,if_pos (by unfold Vl.jq;rw[HZ.out];exact hok),List.drop_drop]);go_wp2_with fail;refine(iT true _).mono ?_;rintro e W9⟨rfl,rfl⟩;go_wp2_with fail;go_ret;exact⟨a+1,by rw[HX.out];rfl,HG3.out,HC3.out,by omega,λp hp=>by rw[HX.out]at hp;injection hp with hp;rw[<-hp]⟩
 by_cases h4:xk=4
 case pos =>
  subst h4;rw[Vl.zu (x:=⟨4,xn⟩) (by simp)]at HR;clear HIH HTT;go_wp2_with fail;refine(l9 b a vs (Vl.jW g) v 4 w0 V HV.out HEV.out.bel HEV.out.lo HCV.out ha hl).mono ?_;rintro e V1⟨rfl,hg1,hc1⟩;have HEN:=hid (HEV.out.grown hg1);have HGN:=hid (Vl.aI HGV.out hg1);have HQ1:Hid (Bk V1 w.heap.size 45 #[.slice (some ⟨g7,fG,none⟩) n c]):=hid (HQ.out.grown hg1 (by intro e;injection e with e;exact hbr e.symm));unfold Vl.rX at hc1;obtain⟨Z,hz⟩:∃ Z,Vl.nxt (v.drop a) 4=Z:=⟨_,rfl⟩;rw[hz]at hc1;rw[hz];have HZ:=hid hz;clear hz q0 a0 a1;cases Z with
  |none =>
   have HCN:=hid hc1;clear hc1 hg1;have HX:Hid (R=none):=hid (by rw[<-HR.out];rw[if_neg (by unfold Vl.jq;rw[HZ.out];decide)]);simp only[Option.getD_none,Option.isSome_none,Vl.qC,Vl.Node.val];go_wp2_with fail;refine(iT false _).mono ?_;rintro e W9⟨rfl,rfl⟩;go_wp2_with fail;go_ret;refine⟨a,by rw[HX.out];rfl,Vl.aI HGN.out (aQ ?_ _),Vl.Cur.below HCN.out ?_,ha,λp hp=>by rw[HX.out]at hp;cases hp⟩;all_goals exact(Below.refl _ _).alloc (xB _) _
  |some nd =>
   have HCN:=hid hc1;obtain⟨n0,n1,n2,n3⟩:=nd;clear hc1 hg1;simp only[Option.getD_some,Option.isSome_some,Vl.Node.val,if_true]at HCN ⊢;have hlt:a<v.length:=by
    by_cases h:a<v.length
    ·exact h
    ·exfalso
     have h1:=HZ.out;rw[xP (by omega)]at h1;cases h1
   go_upto_region 13 with(fail)
   refine ak (λV2 hV=>?_);obtain⟨hb2,hq2,-⟩:=ay hV;clear hV;have HE2:=hid (HEN.out.below hb2);have HC2:=hid (HCN.out.below hb2);have HG2:=hid (Vl.aI HGN.out (aQ hb2 _));have dQ:=hid (HQ1.out.below hb2 HQ1.out.lt);have bM:=hid hq2;have hnb:V1.heap.size<V2.heap.size:=hq2.lt;obtain⟨⟨p0,p1,p2,p3⟩,-⟩:=hq2.k4;obtain⟨q0,-⟩:=dQ.out.k1;clear hb2 hq2 HEN HCN HGN HQ1;obtain⟨B,HBB⟩:∃ B,Hid (Vl.bare ⟨n0,n1,n2,n3⟩ false true false=B):=⟨_,hid rfl⟩;go_wp2_with fail;refine(jB ⟨n0,n1,n2,n3⟩ false true false _).mono ?_;rw[HBB.out];rintro e V3⟨rfl,hb3⟩;have HE3:=hid (HE2.out.below hb3);have HC3:=hid (HC2.out.below hb3);have HG3:=hid (Vl.aI HG2.out (aQ hb3 _));have jR:=hid (dQ.out.below hb3 dQ.out.lt);have jm:=hid (bM.out.below hb3 bM.out.lt);clear p0 p1 p2 p3 q0;obtain⟨⟨p0,p1,p2,p3⟩,-⟩:=jm.out.k4;obtain⟨q0,-⟩:=jR.out.k1;clear hb3 HE2 HC2 HG2 dQ bM;cases B
   case false =>
    have hok:Vl.kQ 4 ⟨n0,n1,n2,n3⟩=false:=HBB.out;have HX:Hid (R=none):=hid (by rw[<-HR.out,if_neg (by unfold Vl.jq;rw[HZ.out];simp only;rw[hok];decide)]);go_wp2_with fail;refine(iT false _).mono ?_;rintro e W9⟨rfl,rfl⟩;go_wp2_with fail;go_ret;exact⟨a+1,by rw[HX.out];rfl,HG3.out,HC3.out,by omega,λp hp=>by rw[HX.out]at hp;cases hp⟩
   have hok:Vl.kQ 4 ⟨n0,n1,n2,n3⟩=true:=HBB.out;have HX:Hid (R=some (1,v.drop (a+1))):=hid (by rw[<-HR.out,if_pos (by unfold Vl.jq;rw[HZ.out];exact hok),List.drop_drop]);go_wp2_with fail;refine(iT true _).mono ?_;rintro e W9⟨rfl,rfl⟩;go_wp2_with fail;go_ret;exact⟨a+1,by rw[HX.out];rfl,HG3.out,HC3.out,by omega,λp hp=>by rw[HX.out]at hp;injection hp with hp;rw[<-hp]⟩
 by_cases h5:xk=5
 case pos =>
  subst h5;rw[Vl.Js (x:=⟨5,xn⟩) (by simp)]at HR;have HOT:Hid (Chk.okT s t=true):=hid (Vl.zl HTT.out (by simp));go_wp2_with fail;refine(l9 b a vs (Vl.jW g) v 5 w0 V HV.out HEV.out.bel HEV.out.lo HCV.out ha hl).mono ?_;rintro e V1⟨rfl,hg1,hc1⟩;have HEN:=hid (HEV.out.grown hg1);have HGN:=hid (Vl.aI HGV.out hg1);have HQ1:Hid (Bk V1 w.heap.size 45 #[.slice (some ⟨g7,fG,none⟩) n c]):=hid (HQ.out.grown hg1 (by intro e;injection e with e;exact hbr e.symm));unfold Vl.rX at hc1;obtain⟨Z,hz⟩:∃ Z,Vl.nxt (v.drop a) 5=Z:=⟨_,rfl⟩;rw[hz]at hc1;rw[hz];have HZ:=hid hz;clear hz q0 a0 a1;cases Z with
  |none =>
   have HCN:=hid hc1;clear hc1 hg1;have HX:Hid (R=none):=hid (by rw[<-HR.out];have h:Vl.jo (v.drop a) 5=none:=(by unfold Vl.jo;rw[HZ.out]);rw[h]);simp only[Option.getD_none,Option.isSome_none,Vl.qC,Vl.Node.val];go_upto_region 16 with(fail)
   go_quiet (fail);go_wp2_with fail;go_ret;refine⟨a,by rw[HX.out];rfl,Vl.aI HGN.out (aQ ?_ _),Vl.Cur.below HCN.out ?_,ha,λp hp=>by rw[HX.out]at hp;cases hp⟩;all_goals exact below_drewN ((Below.refl _ _).alloc (xB _) _) _
  |some nd =>
   have HCN:=hid hc1;obtain⟨n0,n1,n2,n3⟩:=nd;clear hc1 hg1;simp only[Option.getD_some,Option.isSome_some,Vl.Node.val,if_true]at HCN ⊢;have hlt:a<v.length:=by
    by_cases h:a<v.length
    ·exact h
    ·exfalso
     have h1:=HZ.out;rw[xP (by omega)]at h1;cases h1
   go_upto_region 16 with(fail)
   refine ak (λV2 hV=>?_);obtain⟨hb2,hq2,-⟩:=ay hV;clear hV;have HE2:=hid (HEN.out.below hb2);have HC2:=hid (HCN.out.below hb2);have HG2:=hid (Vl.aI HGN.out (aQ hb2 _));have dQ:=hid (HQ1.out.below hb2 HQ1.out.lt);have bM:=hid hq2;have hnb:V1.heap.size<V2.heap.size:=hq2.lt;obtain⟨⟨p0,p1,p2,p3⟩,-⟩:=hq2.k4;obtain⟨q0,-⟩:=dQ.out.k1;clear hb2 hq2 HEN HCN HGN HQ1;obtain⟨B,HBB⟩:∃ B,Hid (Vl.bare ⟨n0,n1,n2,n3⟩ false false true=B):=⟨_,hid rfl⟩;have HNO:Hid (¬(Vl.bare ⟨n0,n1,n2,n3⟩ false false true=true/\0<=n3/\n3<=((v.length - (a+1):Nat):Int))->R=none):=hid (λh=>by rw[<-HR.out];have h2:Vl.jo (v.drop a) 5=none:=(by unfold Vl.jo;rw[HZ.out];simp only;rw[if_neg];rw[if_neg (by decide),List.length_drop,Nat.sub_sub];exact h);rw[h2]);obtain⟨A9,N9,C9,hvs⟩:=ah.is HV.out;have hNv:N9=v.length:=by have h:=HV.out;rw[hvs]at h;obtain⟨_,_,e,_⟩:=ah.slice h;injection e
   have HVS:=hid hvs;have HNV:=hid hNv;have hN9:N9<=100000/\a<N9:=by rw[hNv];exact⟨hl,hlt⟩
   have hwr:IntKind.i64.wrap ((N9:Int) - ((a:Int)+1))=(N9:Int) - ((a:Int)+1):=by unfold IntKind.wrap;simp[IntKind.bits,IntKind.signed];omega
   clear hvs hNv;have hcb:∀ W,Bl V2 W->Calls Tryz.prog 131 #[.agg #[.int .u8 n0,.int .i64 n1,.string n2,.int .i64 n3],.bool false,.bool false,.bool true] W λe w'=>e=.returned (.bool B)/\Bl V2 w':=λW hW=>by have h:=o7 hW (jB ⟨n0,n1,n2,n3⟩ false false true W);rw[HBB.out]at h;exact h
   have HCB:=hid hcb;clear hcb;cases B
   case false =>
    have HX:Hid (R=none):=hid (HNO.out (by rw[HBB.out];exact λh=>by cases h.1));clear HNO;have dN:∀ w',Bl V2 w'->Bk w' V1.heap.size 92 #[.int .u8 n0,.int .i64 n1,.string n2,.int .i64 n3]:=λw' hb=>bM.out.below hb bM.out.lt
    have dN3:=λ(w':World) (hb:Bl V2 w')=>(Bk.k4 (bM.out.below hb bM.out.lt)).1.2.2.2
    have dC0:=λ(w':World) (hb:Bl V2 w')=>(Bk.k3 (show Bk w' b 127 #[.slice A9 N9 C9,.int .i64 (a+1:Nat),Vl.jW g]from by have h:=Vl.Cur.below HC2.out hb;rw[HVS.out]at h;exact h)).1.1
    have dC1:=λ(w':World) (hb:Bl V2 w')=>(Bk.k3 (show Bk w' b 127 #[.slice A9 N9 C9,.int .i64 (a+1:Nat),Vl.jW g]from by have h:=Vl.Cur.below HC2.out hb;rw[HVS.out]at h;exact h)).1.2.1
    clear p0 p1 p2 p3 q0;refine nG V2 (by kernel_rfl) (by kernel_rfl) (Bl.refl _) ?_;repeat(first|go_big_quiet_step((intro hb;exact HCB.out _ hb))|(refine wpQuiet_step (λK hK=>?_);rw[if_pos (by rfl)];refine iJ _ _ rfl _ rfl _ _ _ (by assumption) Tryz.underlying92 rfl (by kernel_rfl) ?_;go_simp;refine hK _ ?_;clear hK K)|(refine wpQuiet_step (λK hK=>?_);rw[if_pos (by rfl)];refine Lst.aV _ _ rfl _ rfl _ (by assumption) _ Tryz.underlying3 rfl ?_;go_simp;refine hK _ ?_;clear hK K)|(refine wpQuiet_step (λK hK=>?_);rw[if_pos (by rfl)];refine Lst.aV _ _ rfl _ rfl _ (by assumption) _ Tryz.underlying23 rfl ?_;go_simp;refine hK _ ?_;clear hK K)|(refine wpQuiet_step (λK hK=>?_);go_simp;refine⟨_,λ_ _=>rfl,hK _ ?_⟩;clear hK K))
    refine wpQuiet_nil ?_;intro V3 hb3;clear dN dN3 dC0 dC1;obtain⟨⟨p0,p1,p2,p3⟩,-⟩:=bM.out.k4;obtain⟨q0,-⟩:=dQ.out.k1;have HE3:=hid (HE2.out.below hb3);have HC3:=hid (HC2.out.below hb3);have HG3:=hid (Vl.aI HG2.out (aQ hb3 _));have jR:=hid (dQ.out.below hb3 dQ.out.lt);have jm:=hid (bM.out.below hb3 bM.out.lt);clear p0 p1 p2 p3 q0;obtain⟨⟨p0,p1,p2,p3⟩,-⟩:=jm.out.k4;obtain⟨q0,-⟩:=jR.out.k1;clear hb3 HE2 HC2 HG2 dQ bM;go_wp2_with fail;go_ret;exact⟨a+1,by rw[HX.out];rfl,HG3.out,HC3.out,by omega,λp hp=>by rw[HX.out]at hp;cases hp⟩
   by_cases hk0:0<=n3
   case neg =>
    have HX:Hid (R=none):=hid (HNO.out (λh=>hk0 h.2.1));clear HNO;have t1:n3<0:=by omega
    have dN:∀ w',Bl V2 w'->Bk w' V1.heap.size 92 #[.int .u8 n0,.int .i64 n1,.string n2,.int .i64 n3]:=λw' hb=>bM.out.below hb bM.out.lt
    have dN3:=λ(w':World) (hb:Bl V2 w')=>(Bk.k4 (bM.out.below hb bM.out.lt)).1.2.2.2
    have dC0:=λ(w':World) (hb:Bl V2 w')=>(Bk.k3 (show Bk w' b 127 #[.slice A9 N9 C9,.int .i64 (a+1:Nat),Vl.jW g]from by have h:=Vl.Cur.below HC2.out hb;rw[HVS.out]at h;exact h)).1.1
    have dC1:=λ(w':World) (hb:Bl V2 w')=>(Bk.k3 (show Bk w' b 127 #[.slice A9 N9 C9,.int .i64 (a+1:Nat),Vl.jW g]from by have h:=Vl.Cur.below HC2.out hb;rw[HVS.out]at h;exact h)).1.2.1
    clear p0 p1 p2 p3 q0;refine nG V2 (by kernel_rfl) (by kernel_rfl) (Bl.refl _) ?_;repeat(first|go_big_quiet_step((intro hb;exact HCB.out _ hb))|(refine wpQuiet_step (λK hK=>?_);rw[if_pos (by rfl)];refine iJ _ _ rfl _ rfl _ _ _ (by assumption) Tryz.underlying92 rfl (by kernel_rfl) ?_;go_simp;refine hK _ ?_;clear hK K)|(refine wpQuiet_step (λK hK=>?_);rw[if_pos (by rfl)];refine Lst.aV _ _ rfl _ rfl _ (by assumption) _ Tryz.underlying3 rfl ?_;go_simp;refine hK _ ?_;clear hK K)|(refine wpQuiet_step (λK hK=>?_);rw[if_pos (by rfl)];refine Lst.aV _ _ rfl _ rfl _ (by assumption) _ Tryz.underlying23 rfl ?_;go_simp;refine hK _ ?_;clear hK K)|(refine wpQuiet_step (λK hK=>?_);go_simp;refine⟨_,λ_ _=>rfl,hK _ ?_⟩;clear hK K))
    refine wpQuiet_nil ?_;intro V3 hb3;clear dN dN3 dC0 dC1;obtain⟨⟨p0,p1,p2,p3⟩,-⟩:=bM.out.k4;obtain⟨q0,-⟩:=dQ.out.k1;have HE3:=hid (HE2.out.below hb3);have HC3:=hid (HC2.out.below hb3);have HG3:=hid (Vl.aI HG2.out (aQ hb3 _));have jR:=hid (dQ.out.below hb3 dQ.out.lt);have jm:=hid (bM.out.below hb3 bM.out.lt);clear p0 p1 p2 p3 q0;obtain⟨⟨p0,p1,p2,p3⟩,-⟩:=jm.out.k4;obtain⟨q0,-⟩:=jR.out.k1;clear hb3 HE2 HC2 HG2 dQ bM;go_wp2_with fail;go_ret;exact⟨a+1,by rw[HX.out];rfl,HG3.out,HC3.out,by omega,λp hp=>by rw[HX.out]at hp;cases hp⟩
   obtain⟨d,rfl⟩:∃ d:Nat,n3=d:=⟨n3.toNat,by omega⟩;by_cases hk1:d<=v.length - (a+1)
   case neg =>
    have HX:Hid (R=none):=hid (HNO.out (λh=>by have:=h.2.2;omega));clear HNO;have t1:(N9:Int) - ((a+1:Nat):Int)<(d:Int):=by have:=HNV.out;omega
    have t2:(N9:Int) - ((a:Int)+1)<(d:Int):=by have:=HNV.out;omega
    have t0:¬(d:Int)<0:=by omega
    have dN:∀ w',Bl V2 w'->Bk w' V1.heap.size 92 #[.int .u8 n0,.int .i64 n1,.string n2,.int .i64 (d:Int)]:=λw' hb=>bM.out.below hb bM.out.lt
    have dN3:=λ(w':World) (hb:Bl V2 w')=>(Bk.k4 (bM.out.below hb bM.out.lt)).1.2.2.2
    have dC0:=λ(w':World) (hb:Bl V2 w')=>(Bk.k3 (show Bk w' b 127 #[.slice A9 N9 C9,.int .i64 (a+1:Nat),Vl.jW g]from by have h:=Vl.Cur.below HC2.out hb;rw[HVS.out]at h;exact h)).1.1
    have dC1:=λ(w':World) (hb:Bl V2 w')=>(Bk.k3 (show Bk w' b 127 #[.slice A9 N9 C9,.int .i64 (a+1:Nat),Vl.jW g]from by have h:=Vl.Cur.below HC2.out hb;rw[HVS.out]at h;exact h)).1.2.1
    clear p0 p1 p2 p3 q0;refine nG V2 (by kernel_rfl) (by kernel_rfl) (Bl.refl _) ?_;repeat(first|go_big_quiet_step((intro hb;exact HCB.out _ hb))|(refine wpQuiet_step (λK hK=>?_);rw[if_pos (by rfl)];refine iJ _ _ rfl _ rfl _ _ _ (by assumption) Tryz.underlying92 rfl (by kernel_rfl) ?_;go_simp;refine hK _ ?_;clear hK K)|(refine wpQuiet_step (λK hK=>?_);rw[if_pos (by rfl)];refine Lst.aV _ _ rfl _ rfl _ (by assumption) _ Tryz.underlying3 rfl ?_;go_simp;refine hK _ ?_;clear hK K)|(refine wpQuiet_step (λK hK=>?_);rw[if_pos (by rfl)];refine Lst.aV _ _ rfl _ rfl _ (by assumption) _ Tryz.underlying23 rfl ?_;go_simp;refine hK _ ?_;clear hK K)|(refine wpQuiet_step (λK hK=>?_);go_simp;refine⟨_,λ_ _=>rfl,hK _ ?_⟩;clear hK K))
    refine wpQuiet_nil ?_;intro V3 hb3;clear dN dN3 dC0 dC1;obtain⟨⟨p0,p1,p2,p3⟩,-⟩:=bM.out.k4;obtain⟨q0,-⟩:=dQ.out.k1;have HE3:=hid (HE2.out.below hb3);have HC3:=hid (HC2.out.below hb3);have HG3:=hid (Vl.aI HG2.out (aQ hb3 _));have jR:=hid (dQ.out.below hb3 dQ.out.lt);have jm:=hid (bM.out.below hb3 bM.out.lt);clear p0 p1 p2 p3 q0;obtain⟨⟨p0,p1,p2,p3⟩,-⟩:=jm.out.k4;obtain⟨q0,-⟩:=jR.out.k1;clear hb3 HE2 HC2 HG2 dQ bM;go_wp2_with fail;go_ret;exact⟨a+1,by rw[HX.out];rfl,HG3.out,HC3.out,by omega,λp hp=>by rw[HX.out]at hp;cases hp⟩
   have t1:¬(N9:Int) - ((a+1:Nat):Int)<(d:Int):=by have:=HNV.out;omega
   have t2:¬(N9:Int) - ((a:Int)+1)<(d:Int):=by have:=HNV.out;omega
   have t0:¬(d:Int)<0:=by omega
   have HX:Hid (Vl.up (Vl.fQ (Vl.ofF s none k) (List.replicate d t) 0 (v.drop (a+1)))=R):=hid (by rw[<-HR.out];have h2:Vl.jo (v.drop a) 5=some d:=(by unfold Vl.jo;rw[HZ.out];simp only;rw[if_pos ⟨HBB.out,hk0,by rw[if_neg (by decide),List.length_drop];omega⟩,Int.toNat_natCast]);rw[h2];simp only;rw[List.drop_drop]);clear HNO;have dN:∀ w',Bl V2 w'->Bk w' V1.heap.size 92 #[.int .u8 n0,.int .i64 n1,.string n2,.int .i64 (d:Int)]:=λw' hb=>bM.out.below hb bM.out.lt
   have dN3:=λ(w':World) (hb:Bl V2 w')=>(Bk.k4 (bM.out.below hb bM.out.lt)).1.2.2.2
   have dC0:=λ(w':World) (hb:Bl V2 w')=>(Bk.k3 (show Bk w' b 127 #[.slice A9 N9 C9,.int .i64 (a+1:Nat),Vl.jW g]from by have h:=Vl.Cur.below HC2.out hb;rw[HVS.out]at h;exact h)).1.1
   have dC1:=λ(w':World) (hb:Bl V2 w')=>(Bk.k3 (show Bk w' b 127 #[.slice A9 N9 C9,.int .i64 (a+1:Nat),Vl.jW g]from by have h:=Vl.Cur.below HC2.out hb;rw[HVS.out]at h;exact h)).1.2.1
   clear p0 p1 p2 p3 q0;refine nG V2 (by kernel_rfl) (by kernel_rfl) (Bl.refl _) ?_;repeat(first|go_big_quiet_step((intro hb;exact HCB.out _ hb))|(refine wpQuiet_step (λK hK=>?_);rw[if_pos (by rfl)];refine iJ _ _ rfl _ rfl _ _ _ (by assumption) Tryz.underlying92 rfl (by kernel_rfl) ?_;go_simp;refine hK _ ?_;clear hK K)|(refine wpQuiet_step (λK hK=>?_);rw[if_pos (by rfl)];refine Lst.aV _ _ rfl _ rfl _ (by assumption) _ Tryz.underlying3 rfl ?_;go_simp;refine hK _ ?_;clear hK K)|(refine wpQuiet_step (λK hK=>?_);rw[if_pos (by rfl)];refine Lst.aV _ _ rfl _ rfl _ (by assumption) _ Tryz.underlying23 rfl ?_;go_simp;refine hK _ ?_;clear hK K)|(refine wpQuiet_step (λK hK=>?_);go_simp;refine⟨_,λ_ _=>rfl,hK _ ?_⟩;clear hK K))
   refine wpQuiet_nil ?_;intro V3 hb3;clear dN dN3 dC0 dC1;obtain⟨⟨p0,p1,p2,p3⟩,-⟩:=bM.out.k4;obtain⟨q0,-⟩:=dQ.out.k1;have HE3:=hid (HE2.out.below hb3);have HC3:=hid (HC2.out.below hb3);have HG3:=hid (Vl.aI HG2.out (aQ hb3 _));have jR:=hid (dQ.out.below hb3 dQ.out.lt);have jm:=hid (bM.out.below hb3 bM.out.lt);clear p0 p1 p2 p3 q0;obtain⟨⟨p0,p1,p2,p3⟩,-⟩:=jm.out.k4;obtain⟨q0,-⟩:=jR.out.k1;clear hb3 HE2 HC2 HG2 dQ bM;go_wp2_with fail;refine(vY s v vs w0 b g m k hl HIH.out (List.replicate d t) (λu hu=>by rw[List.eq_of_mem_replicate hu];exact⟨HOT.out,by have:=HLT.out;omega⟩) d (by rw[List.length_replicate]) (by omega) (a+1) (by omega) (by omega) _ (λ_ _=>rfl) #[.pointer (some ⟨w.heap.size,0,none⟩)] V3 HE3.out HC3.out (λi hi w' hg=>?_)).mono ?_
   ·rw[List.length_replicate]at hi
    simp only[List.getElem_replicate];exact TJ ⟨5,xn⟩ t (Vl.y8 HOT.out) w.heap.size _ w0 w' _ HS.out (jR.out.grown hg (by intro e;injection e with e;exact hbr e.symm))
   rw[HX.out];rintro e V4⟨a2,rfl,hg4,hc4,ha4,hp4⟩;go_wp2_with fail;go_ret;exact⟨a2,rfl,Vl.aI HG3.out hg4,hc4,ha4,hp4⟩
 by_cases h6:xk=6
 case pos =>
  subst h6;rw[Vl.Js (x:=⟨6,xn⟩) (by simp)]at HR;have HOT:Hid (Chk.okT s t=true):=hid (Vl.zl HTT.out (by simp));go_wp2_with fail;refine(l9 b a vs (Vl.jW g) v 6 w0 V HV.out HEV.out.bel HEV.out.lo HCV.out ha hl).mono ?_;rintro e V1⟨rfl,hg1,hc1⟩;have HEN:=hid (HEV.out.grown hg1);have HGN:=hid (Vl.aI HGV.out hg1);have HQ1:Hid (Bk V1 w.heap.size 45 #[.slice (some ⟨g7,fG,none⟩) n c]):=hid (HQ.out.grown hg1 (by intro e;injection e with e;exact hbr e.symm));unfold Vl.rX at hc1;obtain⟨Z,hz⟩:∃ Z,Vl.nxt (v.drop a) 6=Z:=⟨_,rfl⟩;rw[hz]at hc1;rw[hz];have HZ:=hid hz;clear hz q0 a0 a1;cases Z with
  |none =>
   have HCN:=hid hc1;clear hc1 hg1;have HX:Hid (R=none):=hid (by rw[<-HR.out];have h:Vl.jo (v.drop a) 6=none:=(by unfold Vl.jo;rw[HZ.out]);rw[h]);simp only[Option.getD_none,Option.isSome_none,Vl.qC,Vl.Node.val];go_wp2_with fail;go_ret;refine⟨a,by rw[HX.out];rfl,Vl.aI HGN.out (aQ ?_ _),Vl.Cur.below HCN.out ?_,ha,λp hp=>by rw[HX.out]at hp;cases hp⟩;all_goals exact(Below.refl _ _).alloc (xB _) _
  |some nd =>
   have HCN:=hid hc1;obtain⟨n0,n1,n2,n3⟩:=nd;clear hc1 hg1;simp only[Option.getD_some,Option.isSome_some,Vl.Node.val,if_true]at HCN ⊢;have hlt:a<v.length:=by
    by_cases h:a<v.length
    ·exact h
    ·exfalso
     have h1:=HZ.out;rw[xP (by omega)]at h1;cases h1
   go_upto_region 21 with(fail)
   refine ak (λV2 hV=>?_);obtain⟨hb2,hq2,-⟩:=ay hV;clear hV;have HE2:=hid (HEN.out.below hb2);have HC2:=hid (HCN.out.below hb2);have HG2:=hid (Vl.aI HGN.out (aQ hb2 _));have dQ:=hid (HQ1.out.below hb2 HQ1.out.lt);have bM:=hid hq2;have hnb:V1.heap.size<V2.heap.size:=hq2.lt;obtain⟨⟨p0,p1,p2,p3⟩,-⟩:=hq2.k4;obtain⟨q0,-⟩:=dQ.out.k1;clear hb2 hq2 HEN HCN HGN HQ1;obtain⟨B,HBB⟩:∃ B,Hid (Vl.bare ⟨n0,n1,n2,n3⟩ false false true=B):=⟨_,hid rfl⟩;have HNO:Hid (¬(Vl.bare ⟨n0,n1,n2,n3⟩ false false true=true/\0<=n3/\n3<=1)->R=none):=hid (λh=>by rw[<-HR.out];have h2:Vl.jo (v.drop a) 6=none:=(by unfold Vl.jo;rw[HZ.out];simp only;rw[if_neg];simp only[if_true];exact h);rw[h2]);cases B
   case false =>
    have HX:Hid (R=none):=hid (HNO.out (by rw[HBB.out];exact λh=>by cases h.1));clear HNO;go_wp2_with fail;refine(jB ⟨n0,n1,n2,n3⟩ false false true _).mono ?_;rw[HBB.out];rintro e V3⟨rfl,hb3⟩;have HE3:=hid (HE2.out.below hb3);have HC3:=hid (HC2.out.below hb3);have HG3:=hid (Vl.aI HG2.out (aQ hb3 _));have jR:=hid (dQ.out.below hb3 dQ.out.lt);have jm:=hid (bM.out.below hb3 bM.out.lt);clear p0 p1 p2 p3 q0;obtain⟨⟨p0,p1,p2,p3⟩,-⟩:=jm.out.k4;obtain⟨q0,-⟩:=jR.out.k1;clear hb3 HE2 HC2 HG2 dQ bM;go_wp2_with fail;go_ret;exact⟨a+1,by rw[HX.out];rfl,HG3.out,HC3.out,by omega,λp hp=>by rw[HX.out]at hp;cases hp⟩
   by_cases hk0:0<=n3
   case neg =>
    have HX:Hid (R=none):=hid (HNO.out (λh=>hk0 h.2.1));clear HNO;have t1:n3<0:=by omega
    go_wp2_with fail;refine(jB ⟨n0,n1,n2,n3⟩ false false true _).mono ?_;rw[HBB.out];rintro e V3⟨rfl,hb3⟩;have HE3:=hid (HE2.out.below hb3);have HC3:=hid (HC2.out.below hb3);have HG3:=hid (Vl.aI HG2.out (aQ hb3 _));have jR:=hid (dQ.out.below hb3 dQ.out.lt);have jm:=hid (bM.out.below hb3 bM.out.lt);clear p0 p1 p2 p3 q0;obtain⟨⟨p0,p1,p2,p3⟩,-⟩:=jm.out.k4;obtain⟨q0,-⟩:=jR.out.k1;clear hb3 HE2 HC2 HG2 dQ bM;go_wp2_with fail;go_ret;exact⟨a+1,by rw[HX.out];rfl,HG3.out,HC3.out,by omega,λp hp=>by rw[HX.out]at hp;cases hp⟩
   obtain⟨d,rfl⟩:∃ d:Nat,n3=d:=⟨n3.toNat,by omega⟩;by_cases hk1:d<=1
   case neg =>
    have HX:Hid (R=none):=hid (HNO.out (λh=>by have:=h.2.2;omega));clear HNO;have t1:(1:Int)<(d:Int):=by omega
    go_wp2_with fail;refine(jB ⟨n0,n1,n2,(d:Int)⟩ false false true _).mono ?_;rw[HBB.out];rintro e V3⟨rfl,hb3⟩;have HE3:=hid (HE2.out.below hb3);have HC3:=hid (HC2.out.below hb3);have HG3:=hid (Vl.aI HG2.out (aQ hb3 _));have jR:=hid (dQ.out.below hb3 dQ.out.lt);have jm:=hid (bM.out.below hb3 bM.out.lt);clear p0 p1 p2 p3 q0;obtain⟨⟨p0,p1,p2,p3⟩,-⟩:=jm.out.k4;obtain⟨q0,-⟩:=jR.out.k1;clear hb3 HE2 HC2 HG2 dQ bM;go_wp2_with fail;go_ret;exact⟨a+1,by rw[HX.out];rfl,HG3.out,HC3.out,by omega,λp hp=>by rw[HX.out]at hp;cases hp⟩
   have t1:¬(1:Int)<(d:Int):=by omega
   have t2:¬1<d:=by omega
   have HX:Hid (Vl.up (Vl.fQ (Vl.ofF s none k) (List.replicate d t) 0 (v.drop (a+1)))=R):=hid (by rw[<-HR.out];have h2:Vl.jo (v.drop a) 6=some d:=(by unfold Vl.jo;rw[HZ.out];simp only;rw[if_pos ⟨HBB.out,hk0,by first|(rw[if_pos rfl];omega)|(simp only[if_true];omega)⟩,Int.toNat_natCast]);rw[h2];simp only;rw[List.drop_drop]);clear HNO;go_wp2_with fail;refine(jB ⟨n0,n1,n2,(d:Int)⟩ false false true _).mono ?_;rw[HBB.out];rintro e V3⟨rfl,hb3⟩;have HE3:=hid (HE2.out.below hb3);have HC3:=hid (HC2.out.below hb3);have HG3:=hid (Vl.aI HG2.out (aQ hb3 _));have jR:=hid (dQ.out.below hb3 dQ.out.lt);have jm:=hid (bM.out.below hb3 bM.out.lt);clear p0 p1 p2 p3 q0;obtain⟨⟨p0,p1,p2,p3⟩,-⟩:=jm.out.k4;obtain⟨q0,-⟩:=jR.out.k1;clear hb3 HE2 HC2 HG2 dQ bM;go_wp2_with fail;refine(vY s v vs w0 b g m k hl HIH.out (List.replicate d t) (λu hu=>by rw[List.eq_of_mem_replicate hu];exact⟨HOT.out,by have:=HLT.out;omega⟩) d (by rw[List.length_replicate]) (by omega) (a+1) (by omega) (by omega) _ (λ_ _=>rfl) #[.pointer (some ⟨w.heap.size,0,none⟩)] V3 HE3.out HC3.out (λi hi w' hg=>?_)).mono ?_
   ·rw[List.length_replicate]at hi
    simp only[List.getElem_replicate];exact TI ⟨6,xn⟩ t (Vl.y8 HOT.out) w.heap.size _ w0 w' _ HS.out (jR.out.grown hg (by intro e;injection e with e;exact hbr e.symm))
   rw[HX.out];rintro e V4⟨a2,rfl,hg4,hc4,ha4,hp4⟩;go_wp2_with fail;go_ret;exact⟨a2,rfl,Vl.aI HG3.out hg4,hc4,ha4,hp4⟩
 have hk7:xk=7/\t=[]/\(Chk.find s xn).isSome=true:=by rcases HKN.out with h|h|h|h<;>simp only at h<;>first|(exfalso;omega)|exact h
 obtain⟨rfl,rfl,hsm⟩:=hk7;rw[Vl.Xc (x:=⟨7,xn⟩) rfl]at HR;obtain⟨⟨rn,rc,rf⟩,hfd⟩:=Option.isSome_iff_exists.1 hsm;simp only[hfd,Option.getD_some]at HR;obtain⟨hrm,hrn⟩:=Vl.wJ hfd;simp only at hrn;subst hrn;have hlr:Vl.kZ s.records rn=⟨rn,rc,rf⟩:=by rw[Vl.OY hRR.out,hfd];rfl
 have HLR:=hid hlr;have HRM:=hid hrm;have hrz:rn.size<=1000:=by have h:=(Prn.mP hRR.out).rn _ hrm;have:=Vl.Gv h;simp only at this;omega
 clear h1 h2 h3 h4 h5 h6 hsm hfd hlr hrm HKN HTT;go_wp2_with fail;obtain⟨⟨c0,c1,c2⟩,-⟩:=Bk.k3 (show Bk V b 127 #[vs,.int .i64 a,.func (.func 128) #[] #[.pointer (some ⟨g,0,none⟩)]]from HCV.out);have HED:=hid (HEV.out.below ((Below.refl _ _).drew));have HCD:=hid (HCV.out.below ((Below.refl _ _).drew));have HGD:=hid (Vl.aI HGV.out (aQ ((Below.refl _ _).drew) _));refine bJ (λw'=>w'.cell? ⟨b,2,none⟩=some (.func (.func 128) #[] #[.pointer (some ⟨g,0,none⟩)])/\w'.cell? ⟨w.heap.size,0,none⟩=some (.slice (some ⟨g7,fG,none⟩) n c)/\w'.cell? ⟨g7,fG+1,none⟩=some (.string rn)) [10] (by kernel_rfl) ⟨c2,q0,a1⟩ (λhHeld=>?_);(refine aj 0 (v:=?_) rfl (by kernel_rfl) (by kernel_rfl) (by kernel_rfl) (by kernel_rfl) (λ_ _ _ h=>h) (λ_=>by assumption) (by rfl) ?_ ?_;rotate_left;· (intro w;go_simp;try with_reducible rfl);try simp only[Act.put,xA,xE,xC])
 (refine aj 1 (v:=?_) rfl (by kernel_rfl) (by kernel_rfl) (by kernel_rfl) (by kernel_rfl) (λ_ _ _ h=>h) (λ_=>by assumption) (by rfl) ?_ ?_;rotate_left;· (intro w;go_simp;try with_reducible rfl);try simp only[Act.put,xA,xE,xC])
 (refine aj 2 (v:=?_) rfl (by kernel_rfl) (by kernel_rfl) (by kernel_rfl) (by kernel_rfl) (λ_ _ _ h=>h) (λ_=>by assumption) (by rfl) ?_ ?_;rotate_left;· (intro w;go_simp;try with_reducible rfl);try simp only[Act.put,xA,xE,xC])
 (refine aj 3 (v:=?_) rfl (by kernel_rfl) (by kernel_rfl) (by kernel_rfl) (by kernel_rfl) (λ_ _ _ h=>h) (λ_=>by assumption) (by rfl) ?_ ?_;rotate_left;· (intro w;go_simp;try with_reducible rfl);try simp only[Act.put,xA,xE,xC])
 (refine Lst.qH 10 4 (v:=?_) rfl (by kernel_rfl) (by kernel_rfl) (by kernel_rfl) (by kernel_rfl) (by kernel_rfl) (by kernel_rfl) (λ_ _ _ h=>h) (by assumption) (by rfl) ?_ ?_;rotate_left;· (intro w hSw;((try dsimp only at hSw);obtain⟨z0,z1,z2⟩:=hSw);go_simp;try with_reducible rfl);try simp only[Act.put,xA,xE,xC])
 (refine Lst.qH 10 5 (v:=?_) rfl (by kernel_rfl) (by kernel_rfl) (by kernel_rfl) (by kernel_rfl) (by kernel_rfl) (by kernel_rfl) (λ_ _ _ h=>h) (by assumption) (by rfl) ?_ ?_;rotate_left;· (intro w hSw;((try dsimp only at hSw);obtain⟨z0,z1,z2⟩:=hSw);go_simp;try with_reducible rfl);try simp only[Act.put,xA,xE,xC])
 (refine aj 6 (v:=?_) rfl (by kernel_rfl) (by kernel_rfl) (by kernel_rfl) (by kernel_rfl) (λ_ _ _ h=>h) (λ_=>by assumption) (by rfl) ?_ ?_;rotate_left;· (intro w;go_simp;try with_reducible rfl);try simp only[Act.put,xA,xE,xC])
 (refine aj 7 (v:=?_) rfl (by kernel_rfl) (by kernel_rfl) (by kernel_rfl) (by kernel_rfl) (λ_ _ _ h=>h) (λ_=>by assumption) (by rfl) ?_ ?_;rotate_left;· (intro w;go_simp;try with_reducible rfl);try simp only[Act.put,xA,xE,xC])
 (refine Lst.qH 10 8 (v:=?_) rfl (by kernel_rfl) (by kernel_rfl) (by kernel_rfl) (by kernel_rfl) (by kernel_rfl) (by kernel_rfl) (λ_ _ _ h=>h) (by assumption) (by rfl) ?_ ?_;rotate_left;· (intro w hSw;((try dsimp only at hSw);obtain⟨z0,z1,z2⟩:=hSw);go_simp;try with_reducible rfl);try simp only[Act.put,xA,xE,xC])
 have HS0:=hid hHeld;(try dsimp only at HS0)
 clear hHeld c0 c1 c2 q0 a0 a1;(refine aB 9 (by kernel_rfl) rfl (λK hK=>?_))
 go_simp;have h5:=NQ g m s.records rn hrz w0 V.drew HED.out.fnd;rw[HLR.out]at h5;simp only at h5;refine h5.mono ?_;rintro e W1⟨A5,n5,c5,rfl,hfs,hb5⟩;have HE5:=hid (HED.out.below hb5);have HC5:=hid (HCD.out.below hb5);have HG5:=hid (Vl.aI HGD.out (aQ hb5 _));have HS5:=hid hfs;have hs5:W1.cell? ⟨b,2,none⟩=some (.func (.func 128) #[] #[.pointer (some ⟨g,0,none⟩)])/\W1.cell? ⟨w.heap.size,0,none⟩=some (.slice (some ⟨g7,fG,none⟩) n c)/\W1.cell? ⟨g7,fG+1,none⟩=some (.string rn):=⟨(hb5.cell (xH _ _ HS0.out.1)).trans HS0.out.1,(hb5.cell (xH _ _ HS0.out.2.1)).trans HS0.out.2.1,(hb5.cell (xH _ _ HS0.out.2.2)).trans HS0.out.2.2⟩;clear h5 hfs hb5;(refine hK.out _ _ (λhnn=>hs5) ?_;clear hK K;try simp only[Act.put,xA,xE,xC])
 clear hs5;(refine aB 10 (by kernel_rfl) rfl (λK hK=>?_))
 go_simp;refine(NM s v vs w0 b g m k HV.out hl hRR.out HIH.out rn rc rf (.slice A5 n5 c5) HRM.out a ha hlen W1 HE5.out HC5.out HS5.out).mono ?_;rintro e W2⟨a2,rfl,hg6,hc6,ha6,hp6⟩;rw[HR.out]at hp6 ⊢;(refine hK.out _ _ (λhnn=>absurd hnn (by decide)) ?_;clear hK K;try simp only[Act.put,xA,xE,xC])
 (refine aB 11 (by kernel_rfl) rfl (λK hK=>?_))
 go_simp;(refine hK.out _ _ (λhnn=>absurd hnn (by decide)) ?_;clear hK K;try simp only[Act.put,xA,xE,xC])
 refine dU (by kernel_rfl) ?_ _;refine NoPanic.normal ?_;go_wp2_with fail;go_ret;exact⟨a2,rfl,Vl.aI HG5.out hg6,hc6,ha6,hp6⟩
theorem MZ(s:Id.Sch)(v:List Vl.Node)(vs:Value)(w0:World)(b g m:Nat)(hv:Vl.fP w0 none vs v)(hl:v.length<=100000)(hR:Chk.Right s):∀ k,Vl.OfC s v vs w0 b g m k
 |0=>λtv t a w ht h12 ha hlen=>absurd hlen (Nat.not_lt_zero _)
 |k+1=>TG s v vs w0 b g m k hv hl hR (MZ s v vs w0 b g m hv hl hR k)
namespace Vl
open Id Chk
noncomputable def lG(s:Sch)(t:List Srt):Nat:=if(check s).2≠0 then(check s).2 else if right s t=true then 0 else 131
theorem FX{t:List Srt}(h:(Prn.uH t).toList.isEmpty=false):t.length≠0/\t.length<=12:=by
 rw[CG]at h;have h3:(decide (t.length<=12)&&Prn.okP t)=true:=by simpa using h
 rw[xX,decide_eq_true_eq]at h3;refine⟨λe=>?_,h3.1⟩;have h4:t=[]:=List.length_eq_zero_iff.1 e;subst h4;cases h3.2
theorem JQ{s:Sch}{t:List Srt}{v:List Node}(h:lG s t≠0):fits s t v=lG s t:=by
 unfold lG at h ⊢;unfold fits;split
 ·rfl
 ·rename_i h1
  rw[if_neg h1]at h;split at h
  ·exact absurd rfl h
  ·rename_i h2
   rw[if_pos (by simpa using h2),if_neg h2]
theorem I4{s:Sch}{t:List Srt}(h:lG s t=0):Right s/\right s t=true:=by
 unfold lG at h;split at h
 ·rename_i h1;exact absurd h h1
 ·rename_i h1
  split at h
  ·rename_i h2;exact⟨qp (by omega),h2⟩
  ·cases h
def fitsV(v:List Node)(R:Option (Nat × List Node)):Nat:=match R with
 |none=>150
 |some p=>if p.2.length≠0 then 150 else if 12<p.1 then 151 else if 4096<size v then 3 else 0
theorem JR{s:Sch}{t:List Srt}{v:List Node}(h:lG s t=0):fits s t v=fitsV v (ofF s none (v.length+1) t v):=by
 obtain⟨h1,h2⟩:=I4 h;unfold fits;rw[if_neg (by rw[MG h1];exact λh=>h rfl),if_neg (by rw[h2];decide)];rfl
def nJ(v:List Node):Nat:=(v.map (·.text.size)).sum
theorem QD{v:List Node}{k:Nat}(h:k<v.length):nJ (v.take (k+1))=nJ (v.take k)+v[k].text.size:=by
 unfold nJ;rw[List.take_succ_eq_append_getElem h,List.map_append,List.sum_append];simp
theorem WE(v:List Node)(k:Nat):nJ (v.take k)<=nJ v:=by
 have h:nJ v=nJ (v.take k)+nJ (v.drop k):=by
  unfold nJ;rw[<-List.sum_append,<-List.map_append,List.take_append_drop]
 omega
theorem size_eq(v:List Node):size v=v.length+nJ v:=rfl
theorem zM{x:Sch}(h:Fine x):∀ r∈x.records,r.fields.length<=10000/\∀ f∈r.fields,f.type.length<=10000:=h.small
end Vl
theorem NK(sv:Value)(x:Id.Sch)(hF:Chk.Fine x)(tv:Value)(t:List Id.Srt)(w:World)(hk:Tk.KW w)(hv:Id.aY w none sv x)(ht:Id.bf w none tv t) :
  Calls Tryz.prog 63 #[sv,tv] w λe w'=>e=.returned (.int .i64 (Vl.lG x t))/\Below w.heap.size w w':=by
 obtain⟨R,HR⟩:∃ R,Hid (Vl.lG x t=R):=⟨_,hid rfl⟩;rw[HR.out];unfold Vl.lG at HR;have HF:=hid hF;have HKW:=hid hk;have HV:=hid hv;have HS:=hid ht;obtain⟨A,n,c,rfl⟩:=ah.is ht;have HN:Hid (n=t.length):=hid (by obtain⟨_,_,e,_⟩:=ah.slice ht;injection e);obtain⟨A1,n1,c1,A2,n2,c2,A3,n3,c3,rfl,-,-,-⟩:=hv;clear hF hk ht;go_enter Tryz.func63,Tryz.ntmps63;go_upto_region 1 with(fail)
 refine ak (λV hV=>?_);have HL:=hid (Chk.Lx.start hV);clear hV;obtain⟨⟨q0,q1,q2,q3⟩,-⟩:=HL.out.box.k4;go_wp2_with fail;clear q0 q1 q2 q3;refine(zT _ x HF.out _ (HKW.out.below HL.out.bel) (HV.out.below HL.out.bel)).mono ?_;rintro e W1⟨rfl,hb⟩;have HL1:=hid (HL.out.below hb);clear hb;obtain⟨⟨cw,ce⟩,HC⟩:∃ c,Hid (Chk.check x=c):=⟨_,hid rfl⟩;rw[HC.out]at HR;rw[HC.out];simp only at HR ⊢;by_cases h0:ce=0
 case neg =>
  have HE:Hid (ce=R):=hid (by rw[<-HR.out,if_pos h0]);have t0:((ce:Int) != 0)=true:=by rw[bne_iff_ne];omega
  have t1:¬(ce:Int)=0:=by omega
  have t2:((ce:Int)==0)=false:=by rw[xG];omega
  go_wp2_with fail;go_ret;exact⟨by rw[<-HE.out];rfl,HL1.out.bel⟩
 subst h0;have hRt:Chk.Right x:=Chk.qp (by rw[HC.out]);have HRT:=hid hRt;have HR2:Hid ((if Chk.right x t=true then 0 else 131)=R):=hid (by rw[<-HR.out];simp only[ne_eq,not_true,if_false]);clear HR HC;simp only[xY];go_wp2_with fail;refine(Gq _ t _ (HKW.out.below HL1.out.bel) (ah.below HS.out HL1.out.bel (λ_ _ h=>h))).mono ?_;rintro e W2⟨rfl,hb⟩;have HL2:=hid (HL1.out.below hb);clear hb;obtain⟨T,HT⟩:∃ T,Hid (Prn.uH t=T):=⟨_,hid rfl⟩;have HRR:Hid (Chk.right x t=(!T.toList.isEmpty&&Vl.qK x t)):=hid (by rw[Vl.CQ HRT.out,HT.out]);have HLEN:Hid (T.toList.isEmpty=false->n≠0/\n<=12):=hid (λh=>by rw[HN.out];exact Vl.FX (by rw[HT.out];exact h));rw[HT.out];clear HT HL HL1;cases hte:T.toList.isEmpty
 case true =>
  have HE:Hid (131=R):=hid (by rw[<-HR2.out,if_neg (by rw[HRR.out,hte];simp)]);go_wp2_with fail;go_ret;exact⟨by rw[<-HE.out];rfl,HL2.out.bel⟩
 obtain⟨hn0,ZO⟩:=HLEN.out hte;obtain⟨k,rfl⟩:∃ k,n=k+1:=⟨n - 1,by omega⟩;have hka:k<t.length:=by rw[<-HN.out];omega
 obtain⟨g,off,cs,rfl,-,e1,hc⟩:=ah.get HS.out hka (by omega);have hlo:Vl.qK x t=(t[k].kind != 7||(Chk.find x t[k].name).isSome):=by unfold Vl.qK;rw[List.getLast?_eq_getElem?,show t.length - 1=k by rw[<-HN.out];omega,yF hka]
 obtain⟨⟨yk,yn⟩,Hy⟩:∃ y,Hid (t[k]=y):=⟨_,hid rfl⟩;rw[Hy.out]at e1 hlo;unfold Id.dF Id.Srt.cells at e1;subst e1;have HX:Hid ((if(yk != 7||(Chk.find x yn).isSome)=true then 0 else 131)=R):=hid (by rw[<-HR2.out,HRR.out,hte,hlo];rfl);have a0:=hc 0 _ rfl;have a1:=hc 1 _ rfl;simp only[xK]at a0;have hgl:g<w.heap.size:=xH w _ a0;have a0:=(HL2.out.bel.cell hgl).trans a0;have a1:=(HL2.out.bel.cell hgl).trans a1;have HTE:=hid hte;have e5:(((k+1:Nat):Int) - 1)=(k:Int):=by omega
 have e6:((k:Int)+1 - 1)=(k:Int):=by omega
 have ik0:(0:Int)<=(k:Int):=by omega
 have ik1:(k:Int)<((k+1:Nat):Int):=by omega
 have ik2:(k:Int)<(k:Int)+1:=by omega
 clear hc Hy hlo HLEN HR2 HRR hn0;go_upto_region 7 with(fail)
 refine ak (λW3 hW=>?_);obtain⟨hb3,hq3,-⟩:=ay hW;clear hW;have HL3:=hid (HL2.out.below hb3);obtain⟨⟨b0,b1⟩,-⟩:=hq3.k2;clear hb3 hq3 a0 a1 HL2 hte;by_cases h7:yk=7
 case neg =>
  have HE:Hid (0=R):=hid (by rw[<-HX.out,if_pos (by rw[show(yk != 7)=true by rw[bne_iff_ne];exact h7];rfl)]);have t0:((yk:Int)==7)=false:=by rw[xG];omega
  have t1:¬(yk:Int)=7:=by omega
  go_wp2_with fail;go_ret;exact⟨by rw[<-HE.out];rfl,HL3.out.bel⟩
 subst h7;simp only[xY]at *;obtain⟨⟨q0,q1,q2,q3⟩,-⟩:=HL3.out.box.k4;go_wp2_with fail;refine(uf _ x yn (Vl.zM HF.out) _ (HV.out.below HL3.out.bel)).mono ?_;rintro e W4⟨u,rfl,hb,uu,rfl,hu⟩;obtain⟨A9,n9,c9,rfl⟩:=ah.is hu;have HL4:=hid (HL3.out.below hb);clear hb hu b0 b1 q0 q1 q2 q3;cases hs:(Chk.find x yn).isSome
 case false =>
  have HE:Hid (131=R):=hid (by rw[<-HX.out,if_neg (by rw[hs];decide)]);go_wp2_with fail;go_ret;exact⟨by rw[<-HE.out];rfl,HL4.out.bel.trans (((Below.refl _ _).alloc (xB _) _).mono HL4.out.bel.size)⟩
 have HE:Hid (0=R):=hid (by rw[<-HX.out,if_pos (by rw[hs];rfl)]);go_wp2_with fail;go_ret;exact⟨by rw[<-HE.out];rfl,HL4.out.bel.trans (((Below.refl _ _).alloc (xB _) _).mono HL4.out.bel.size)⟩
theorem FU(sv:Value)(x:Id.Sch)(hF:Chk.Fine x)(tv:Value)(t:List Id.Srt)(vs:Value)(v:List Vl.Node)(hl:v.length<=100000)(hz:∀ n∈v,n.text.size<=100000)(w:World)(hk:Tk.KW w)(hv:Id.aY w none sv x)(ht:Id.bf w none tv t)(hvv:Vl.fP w none vs v) :
  Calls Tryz.prog 18 #[sv,tv,vs] w λe w'=>e=.returned (.int .i64 (Vl.fits x t v))/\Below w.heap.size w w':=by
 obtain⟨R,HR⟩:∃ R,Hid (Vl.fits x t v=R):=⟨_,hid rfl⟩;rw[HR.out];have HF:=hid hF;have HKW:=hid hk;have HV:=hid hv;have HS:=hid ht;have HVV:=hid hvv;have HZ:=hid hz;obtain⟨A,n,c,rfl⟩:=ah.is hvv;have HN:Hid (n=v.length):=hid (by obtain⟨_,_,e,_⟩:=ah.slice hvv;injection e);have hn:n<=100000:=by rw[HN.out];exact hl
 obtain⟨A1,n1,c1,A2,n2,c2,A3,n3,c3,rfl,-,-,-⟩:=hv;clear hF hk ht hvv hz;go_enter Tryz.func18,Tryz.ntmps18;go_upto_region 1 with(fail)
 refine ak (λV hV=>?_);have HL:=hid (Chk.Lx.start hV);clear hV;obtain⟨⟨q0,q1,q2,q3⟩,-⟩:=HL.out.box.k4;go_wp2_with fail;clear q0 q1 q2 q3;refine(NK _ x HF.out _ t _ (HKW.out.below HL.out.bel) (HV.out.below HL.out.bel) (ah.below HS.out HL.out.bel (λ_ _ h=>h))).mono ?_;rintro e W1⟨rfl,hb⟩;have HL1:=hid (HL.out.below hb);clear hb HL;obtain⟨ce,HC⟩:∃ c,Hid (Vl.lG x t=c):=⟨_,hid rfl⟩;rw[HC.out];by_cases h0:ce=0
 case neg =>
  have HE:Hid (ce=R):=hid (by rw[<-HR.out,Vl.JQ (by rw[HC.out];exact h0),HC.out]);have t0:((ce:Int) != 0)=true:=by rw[bne_iff_ne];omega
  have t1:¬(ce:Int)=0:=by omega
  have t2:((ce:Int)==0)=false:=by rw[xG];omega
  go_wp2_with fail;go_ret;exact⟨by rw[<-HE.out];rfl,HL1.out.bel⟩
 subst h0;have HRT:=hid (Vl.I4 HC.out);have HR2:Hid (Vl.fitsV v (Vl.ofF x none (v.length+1) t v)=R):=hid (by rw[<-HR.out,Vl.JR HC.out]);clear HR HC;simp only[xY];obtain⟨⟨q0,q1,q2,q3⟩,-⟩:=HL1.out.box.k4;go_wp2_with fail;clear q0 q1 q2 q3;refine(Lp _ x (λr hr=>by have:=Vl.Gv ((Prn.mP HRT.out.1).rn r hr);omega) HF.out.recs _ (HV.out.below HL1.out.bel)).mono ?_;rintro e W2⟨g,m,rfl,hb,hf⟩;have HL2:=hid (HL1.out.below hb);have HFD:=hid hf;have zZ:=hid hb;have Zb:=hid HL1.out.bel;clear hb hf HL1;go_upto_region 5 with(fail)
 refine ak (λW3 hW=>?_);obtain⟨hb3,hq3,-⟩:=ay hW;clear hW;have HL3:=hid (HL2.out.below hb3);have YV:=hid hb3;have HQ3:=hid hq3;have hb2:W2.heap.size<W3.heap.size:=hq3.lt;clear hb3 hq3;have HEN:Hid (Vl.Env x W1 W3 W2.heap.size g m):=hid (by have hg:=HFD.out.bx.lt;have hm:=HFD.out.fm.lt;exact⟨N8 zZ.out YV.out,HFD.out.below YV.out,zZ.out.size,by omega,by omega,hb2⟩);go_wp2_with fail;refine(MZ x v _ W1 W2.heap.size g m (ah.below HVV.out Zb.out (λ_ _ h=>h)) hl HRT.out.1 (v.length+1) _ t 0 W3 (Vl.sV HRT.out.2).1 (Vl.sV HRT.out.2).2 (Nat.zero_le _) (by omega) HEN.out HQ3.out (ah.below HS.out Zb.out (λ_ _ h=>h))).mono ?_;rw[List.drop_zero];rintro e W4⟨a1,rfl,hg,hc,ha,hp⟩;have HB4:=hid (dw HL3.out.bel hg HL2.out.bel.size (HL3.out.bel.size));have HQ4:=hid hc;obtain⟨⟨p0,p1,p2⟩,-⟩:=(show Bk W4 W2.heap.size 127 #[.slice A n c,.int .i64 a1,Vl.jW g]from hc).k3;clear hg hc;cases hq:Vl.ofF x none (v.length+1) t v with
 |none =>
  have HE:Hid (150=R):=hid (by rw[<-HR2.out,hq];rfl);have e0:Vl.deep (none:Option (Nat × List Vl.Node))=0:=rfl;rw[e0];simp only[xY];clear hp hq;go_wp2_with fail;go_ret;exact⟨by rw[<-HE.out];rfl,HB4.out⟩
 |some p =>
  obtain⟨d,r⟩:=p;have hr:r=v.drop a1:=hp _ hq;have hdp:=Vl.Fp _ _ _ _ _ hq;have hln:=(Vl.Jt (N:=v.length) _ _ _ _ _ (xB _) hq).1;have hrl:r.length=n - a1:=by rw[hr,List.length_drop,HN.out]
  have HX:Hid ((if r.length≠0 then 150 else if 12<d then 151 else if 4096<Vl.size v then 3 else 0)=R):=hid (by rw[<-HR2.out,hq];rfl);have e0:Vl.deep (some (d,r))=d:=rfl;rw[e0];have hd1:((d:Int)==0)=false:=by rw[xG];omega
  have hd2:¬(d:Int)=0:=by omega
  have hd3:¬d=0:=by omega
  have han:a1<=n:=by rw[HN.out];exact ha
  clear hp hq hr hdp HR2;by_cases h1:a1<n
  case pos =>
   have HE:Hid (150=R):=hid (by rw[<-HX.out];rw[if_pos (by omega)]);have t0:((a1:Int) != (n:Int))=true:=by rw[bne_iff_ne];omega
   have t1:((a1:Int)==(n:Int))=false:=by rw[xG];omega
   have t2:¬(a1:Int)=(n:Int):=by omega
   have t3:¬a1=n:=by omega
   go_wp2_with fail;go_ret;exact⟨by rw[<-HE.out];rfl,HB4.out⟩
  obtain rfl:a1=n:=by omega
  have HX2:Hid ((if 12<d then 151 else if 4096<Vl.size v then 3 else 0)=R):=hid (by have h:=HX.out;rw[if_neg (by omega)]at h;exact h);clear HX;have HX:=HX2;clear HX2;by_cases h2:12<d
  case pos =>
   have HE:Hid (151=R):=hid (by rw[<-HX.out];rw[if_pos h2]);have t0:(12:Int)<(d:Int):=by omega
   go_wp2_with fail;go_ret;exact⟨by rw[<-HE.out];rfl,HB4.out⟩
  have t12:¬(12:Int)<(d:Int):=by omega
  have HX2:Hid ((if 4096<Vl.size v then 3 else 0)=R):=hid (by rw[<-HX.out,if_neg h2]);clear HX;have HX:=HX2;clear HX2;by_cases h3:4096<a1
  case pos =>
   have HE:Hid (3=R):=hid (by rw[<-HX.out];rw[if_pos (by rw[Vl.size_eq,<-HN.out];omega)]);have t0:(4096:Int)<(a1:Int):=by omega
   go_wp2_with fail;go_ret;exact⟨by rw[<-HE.out];rfl,HB4.out⟩
  have t13:¬(4096:Int)<(a1:Int):=by omega
  go_wp2_with fail;clear p0 p1 p2;go_loopw [10,50] (λsz i wr=>∃(k z:Nat),k<=a1/\i=.int .i64 k/\sz=.int .i64 z/\z<=4096/\Hid (z=a1+Vl.nJ (v.take k))/\Hid (Below w.heap.size w wr)) (λ_ i _=>a1 - (intOf i).toNat)
  case atStart=>exact⟨0,a1,by omega,rfl,rfl,by omega,hid rfl,HB4⟩
  case round =>
   obtain⟨k,z,hk,rfl,rfl,hz,HZK,HB⟩:=hrel;obtain⟨U,rfl⟩:∃ w',w'=wr:=⟨_,rfl⟩;have ik0:(0:Int)<=(k:Int):=by omega
   by_cases hlt:k<a1
   case neg =>
    have HE:Hid (0=R):=hid (by rw[<-HX.out,if_neg (by have h:=HZK.out;rw[yE (by rw[<-HN.out];omega)]at h;rw[Vl.size_eq,<-HN.out,<-h];omega)]);go_wp2_with fail;go_ret;exact⟨by rw[<-HE.out];rfl,HB.out⟩
   have hka:k<v.length:=by rw[<-HN.out];exact hlt
   obtain⟨g5,off,cs,rfl,-,e1,hc⟩:=ah.get HVV.out hka (by omega);have hzk:=HZ.out _ (xR hka);have hts:=Vl.QD hka;obtain⟨⟨nk,ni,nt,nd⟩,Hx⟩:∃ y,Hid (v[k]=y):=⟨_,hid rfl⟩;rw[Hx.out]at e1 hzk hts;unfold Vl.oC Vl.Node.cells at e1;subst e1;simp only at hzk hts;have HTS:=hid hts;have a0:=hc 0 _ rfl;have a1c:=hc 1 _ rfl;have a2:=hc 2 _ rfl;have a3:=hc 3 _ rfl;simp only[xK]at a0;have hgl:g5<w.heap.size:=xH w _ a0;have a0:=(HB.out.cell hgl).trans a0;have a1c:=(HB.out.cell hgl).trans a1c;have a2:=(HB.out.cell hgl).trans a2;have a3:=(HB.out.cell hgl).trans a3;have ik1:(k:Int)<(a1:Int):=by omega
   have ZX:=HB.out.size;clear hc Hx hts;go_upto_region 16 with(fail)
   refine ak (λU1 hW=>?_);obtain⟨hb5,hq5,-⟩:=ay hW;clear hW;have HB5:=hid (HB.out.trans (hb5.mono ZX));obtain⟨⟨b0,b1,b2,b3⟩,-⟩:=hq5.k4;clear hb5 hq5 a0 a1c a2 a3 HB;by_cases hbig:4096<z+nt.size
   case pos =>
    have HE:Hid (3=R):=hid (by rw[<-HX.out,if_pos (by have h:=Vl.WE v (k+1);rw[HTS.out]at h;rw[Vl.size_eq,<-HN.out];have:=HZK.out;omega)]);have t0:(4096:Int)<(z:Int)+(nt.size:Int):=by omega
    go_wp2_with fail;go_ret;exact⟨by rw[<-HE.out];rfl,HB5.out⟩
   have t0:¬(4096:Int)<(z:Int)+(nt.size:Int):=by omega
   have HZ2:Hid (z+nt.size=a1+Vl.nJ (v.take (k+1))):=hid (by rw[HTS.out,HZK.out];omega);go_wp2_with fail;go_roundw
   case rel=>exact⟨k+1,z+nt.size,by omega,by go_num,by go_num,by omega,HZ2,HB5⟩
   case measure=>simp[intOf];omega
theorem sD(B:Nat)(v:Value)(xs:List UInt8)(x:Nat)(hx:x<18446744073709551616)(hn:xs.length<=1000000000)(w:World)(hown:Ev.Bt w B v xs)(hB:B<=w.heap.size) :
  Calls Tryz.prog 61 #[v,.int .u64 x] w λe w'=>∃ v',e=.returned v'/\Ev.Bt w' B v' (xs++Ev.var x)/\Below B w w'/\Only 5 w w':=by
 have HX:Hid (x<2 * 128 ^ 9):=hid (by simpa using hx);have HO:=hid hown;clear hx hown;go_enter Tryz.func61,Tryz.ntmps61;go_wp2;go_loopw [0,1] (λb z wr=>∃(f y:Nat)(p:List UInt8),f<=9/\p.length+f=9/\z=.int .u64 y/\y<18446744073709551616/\Hid (y<2 * 128 ^ f)/\Hid (p++Ev.gY f y=Ev.var x)/\Ev.Bt wr B b (xs++p)/\Below B w wr/\Hid (Only 5 w wr)) (λ_ z _=>(intOf z).toNat)
 case atStart=>exact⟨9,x,[],by omega,rfl,rfl,by have:=HX.out;simpa using this,HX,hid rfl,by rw[List.append_nil];exact HO.out,Below.refl _ _,hid (Only.refl _ _)⟩
 case round =>
  obtain⟨f,y,p,hf,hpf,rfl,ZK,HY,HP,hown,hb,HOY⟩:=hrel;have hz:=hb.size;have hlen:(xs++p).length<=1000000010:=by rw[xI];omega
  have HPF:=hid hpf;clear hpf;by_cases hlt:128<=y
  ·obtain⟨g,rfl⟩:∃ g,f=g+1:=by
    cases f with
    |zero=>have:=HY.out;omega
    |succ g=>exact⟨g,rfl⟩
   have HS:=hid (Ev.FV (f:=g) hlt);have HB:=hid (Ev.KF y);have hi:(128:Int)<=(y:Int):=by omega
   go_wp2_with(at_builtin;refine fV rfl _ _ _ rfl B 5 _ _ Tryz.underlying120 mV rfl _ (xs++p).length _ rfl hown.own _ rfl rfl (by simp only[maxLen];omega) (by omega) (by omega) ?_;intro v' w1 hown1 hb1 hg1;have HO1:=hid (HOY.out.trans ((Only.below ((Below.refl _ _).alloc (xB _) _)).trans (Only.row hg1 (hown.own.alloc _))));clear hg1);go_roundw
   case rel=>exact⟨g,y / 128,p++[UInt8.ofNat (y % 128+128)],by omega,by have:=HPF.out;simp;omega,by go_num,by omega,hid (by have h:=HY.out;rw[Nat.pow_succ]at h;omega),hid (by rw[<-HP.out,HS.out];simp),by rw[<-xU];exact Ev.Bt.push hown1 rfl HB.out,hb.trans hb1,HO1⟩
   case measure=>simp[intOf];omega
  ·have HL:=hid (Ev.FW (f:=f) (y:=y) (by omega))
   have HB:=hid (Ev.Ho (y:=y) (by omega));have hi:¬(128:Int)<=(y:Int):=by omega
   go_wp2_with(at_builtin;refine fV rfl _ _ _ rfl B 5 _ _ Tryz.underlying120 mV rfl _ (xs++p).length _ rfl hown.own _ rfl rfl (by simp only[maxLen];omega) (by omega) (by omega) ?_;intro v' w1 hown1 hb1 hg1;have HO1:=hid (HOY.out.trans ((Only.below ((Below.refl _ _).alloc (xB _) _)).trans (Only.row hg1 (hown.own.alloc _))));clear hg1);have hfin:=Ev.Bt.push hown1 rfl HB.out;rw[<-HL.out,xU,HP.out]at hfin;have HF:=hid hfin;clear hfin;go_ret;exact⟨_,rfl,HF.out,hb.trans hb1,HO1.out⟩
theorem MK(sv:Value)(x:Id.Sch)(hF:Chk.Fine x)(tv:Value)(t:List Id.Srt)(w:World)(hk:Tk.KW w)(hv:Id.aY w none sv x)(ht:Id.bf w none tv t) :
  Calls Tryz.prog 58 #[sv,tv] w λe w'=>e=.returned (.int .i64 (Vl.lG x t))/\Below w.heap.size w w':=by
 obtain⟨R,HR⟩:∃ R,Hid (Vl.lG x t=R):=⟨_,hid rfl⟩;rw[HR.out];unfold Vl.lG at HR;have HF:=hid hF;have HKW:=hid hk;have HV:=hid hv;have HS:=hid ht;obtain⟨A,n,c,rfl⟩:=ah.is ht;have HN:Hid (n=t.length):=hid (by obtain⟨_,_,e,_⟩:=ah.slice ht;injection e);obtain⟨A1,n1,c1,A2,n2,c2,A3,n3,c3,rfl,-,-,-⟩:=hv;clear hF hk ht;go_enter Tryz.func58,Tryz.ntmps58;go_upto_region 1 with(fail)
 refine ak (λV hV=>?_);have HL:=hid (Chk.Lx.start hV);clear hV;obtain⟨⟨q0,q1,q2,q3⟩,-⟩:=HL.out.box.k4;go_wp2_with fail;clear q0 q1 q2 q3;refine(zT _ x HF.out _ (HKW.out.below HL.out.bel) (HV.out.below HL.out.bel)).mono ?_;rintro e W1⟨rfl,hb⟩;have HL1:=hid (HL.out.below hb);clear hb;obtain⟨⟨cw,ce⟩,HC⟩:∃ c,Hid (Chk.check x=c):=⟨_,hid rfl⟩;rw[HC.out]at HR;rw[HC.out];simp only at HR ⊢;by_cases h0:ce=0
 case neg =>
  have HE:Hid (ce=R):=hid (by rw[<-HR.out,if_pos h0]);have t0:((ce:Int) != 0)=true:=by rw[bne_iff_ne];omega
  have t1:¬(ce:Int)=0:=by omega
  have t2:((ce:Int)==0)=false:=by rw[xG];omega
  go_wp2_with fail;go_ret;exact⟨by rw[<-HE.out];rfl,HL1.out.bel⟩
 subst h0;have hRt:Chk.Right x:=Chk.qp (by rw[HC.out]);have HRT:=hid hRt;have HR2:Hid ((if Chk.right x t=true then 0 else 131)=R):=hid (by rw[<-HR.out];simp only[ne_eq,not_true,if_false]);clear HR HC;simp only[xY];go_wp2_with fail;refine(Gq _ t _ (HKW.out.below HL1.out.bel) (ah.below HS.out HL1.out.bel (λ_ _ h=>h))).mono ?_;rintro e W2⟨rfl,hb⟩;have HL2:=hid (HL1.out.below hb);clear hb;obtain⟨T,HT⟩:∃ T,Hid (Prn.uH t=T):=⟨_,hid rfl⟩;have HRR:Hid (Chk.right x t=(!T.toList.isEmpty&&Vl.qK x t)):=hid (by rw[Vl.CQ HRT.out,HT.out]);have HLEN:Hid (T.toList.isEmpty=false->n≠0/\n<=12):=hid (λh=>by rw[HN.out];exact Vl.FX (by rw[HT.out];exact h));rw[HT.out];clear HT HL HL1;cases hte:T.toList.isEmpty
 case true =>
  have HE:Hid (131=R):=hid (by rw[<-HR2.out,if_neg (by rw[HRR.out,hte];simp)]);go_wp2_with fail;go_ret;exact⟨by rw[<-HE.out];rfl,HL2.out.bel⟩
 obtain⟨hn0,ZO⟩:=HLEN.out hte;obtain⟨k,rfl⟩:∃ k,n=k+1:=⟨n - 1,by omega⟩;have hka:k<t.length:=by rw[<-HN.out];omega
 obtain⟨g,off,cs,rfl,-,e1,hc⟩:=ah.get HS.out hka (by omega);have hlo:Vl.qK x t=(t[k].kind != 7||(Chk.find x t[k].name).isSome):=by unfold Vl.qK;rw[List.getLast?_eq_getElem?,show t.length - 1=k by rw[<-HN.out];omega,yF hka]
 obtain⟨⟨yk,yn⟩,Hy⟩:∃ y,Hid (t[k]=y):=⟨_,hid rfl⟩;rw[Hy.out]at e1 hlo;unfold Id.dF Id.Srt.cells at e1;subst e1;have HX:Hid ((if(yk != 7||(Chk.find x yn).isSome)=true then 0 else 131)=R):=hid (by rw[<-HR2.out,HRR.out,hte,hlo];rfl);have a0:=hc 0 _ rfl;have a1:=hc 1 _ rfl;simp only[xK]at a0;have hgl:g<w.heap.size:=xH w _ a0;have a0:=(HL2.out.bel.cell hgl).trans a0;have a1:=(HL2.out.bel.cell hgl).trans a1;have HTE:=hid hte;have e5:(((k+1:Nat):Int) - 1)=(k:Int):=by omega
 have e6:((k:Int)+1 - 1)=(k:Int):=by omega
 have ik0:(0:Int)<=(k:Int):=by omega
 have ik1:(k:Int)<((k+1:Nat):Int):=by omega
 have ik2:(k:Int)<(k:Int)+1:=by omega
 clear hc Hy hlo HLEN HR2 HRR hn0;go_upto_region 7 with(fail)
 refine ak (λW3 hW=>?_);obtain⟨hb3,hq3,-⟩:=ay hW;clear hW;have HL3:=hid (HL2.out.below hb3);obtain⟨⟨b0,b1⟩,-⟩:=hq3.k2;clear hb3 hq3 a0 a1 HL2 hte;by_cases h7:yk=7
 case neg =>
  have HE:Hid (0=R):=hid (by rw[<-HX.out,if_pos (by rw[show(yk != 7)=true by rw[bne_iff_ne];exact h7];rfl)]);have t0:((yk:Int)==7)=false:=by rw[xG];omega
  have t1:¬(yk:Int)=7:=by omega
  go_wp2_with fail;go_ret;exact⟨by rw[<-HE.out];rfl,HL3.out.bel⟩
 subst h7;simp only[xY]at *;obtain⟨⟨q0,q1,q2,q3⟩,-⟩:=HL3.out.box.k4;go_wp2_with fail;refine(uf _ x yn (Vl.zM HF.out) _ (HV.out.below HL3.out.bel)).mono ?_;rintro e W4⟨u,rfl,hb,uu,rfl,hu⟩;obtain⟨A9,n9,c9,rfl⟩:=ah.is hu;have HL4:=hid (HL3.out.below hb);clear hb hu b0 b1 q0 q1 q2 q3;cases hs:(Chk.find x yn).isSome
 case false =>
  have HE:Hid (131=R):=hid (by rw[<-HX.out,if_neg (by rw[hs];decide)]);go_wp2_with fail;go_ret;exact⟨by rw[<-HE.out];rfl,HL4.out.bel.trans (((Below.refl _ _).alloc (xB _) _).mono HL4.out.bel.size)⟩
 have HE:Hid (0=R):=hid (by rw[<-HX.out,if_pos (by rw[hs];rfl)]);go_wp2_with fail;go_ret;exact⟨by rw[<-HE.out];rfl,HL4.out.bel.trans (((Below.refl _ _).alloc (xB _) _).mono HL4.out.bel.size)⟩
namespace Cd
theorem MR{a:Nat}(h:a<18446744073709551616):a ^^^ 18446744073709551615=18446744073709551615 - a:=by
 have h1:(BitVec.ofNat 64 a ^^^ BitVec.allOnes 64)= ~~~(BitVec.ofNat 64 a):=BitVec.xor_allOnes;have h2:=congrArg BitVec.toNat h1;rw[BitVec.toNat_xor,BitVec.toNat_allOnes,BitVec.toNat_not,BitVec.toNat_ofNat,Nat.mod_eq_of_lt (by simpa using h)]at h2;simpa using h2
theorem XJ{n:Int}(h1:-9223372036854775808<=n)(h2:n<=9223372036854775807):bits .xor .u64 (IntKind.u64.wrap (IntKind.u64.wrap n * 2)) (IntKind.u64.wrap (n / 9223372036854775808))=((zz n:Nat):Int):=by
 rw[IntKind.wrap_u64,IntKind.wrap_u64,IntKind.wrap_u64];by_cases h:0<=n
 ·have eA:n % 18446744073709551616 * 2 % 18446744073709551616=((2 * n.toNat:Nat):Int):=by omega
  have eB:n / 9223372036854775808 % 18446744073709551616=((0:Nat):Int):=by omega
  rw[eA,eB,u64_xor_nat _ _ (by omega) (by omega),Nat.xor_zero];unfold zz;rw[if_pos h]
 ·have eA:n % 18446744073709551616 * 2 % 18446744073709551616=((18446744073709551616 - 2 * (-n).toNat:Nat):Int):=by omega
  have eB:n / 9223372036854775808 % 18446744073709551616=((18446744073709551615:Nat):Int):=by omega
  rw[eA,eB,u64_xor_nat _ _ (by omega) (by omega),MR (by omega)];unfold zz;rw[if_neg h];omega
theorem back_eq{u:Nat}(h:u<18446744073709551616):bits .xor .i64 ((u:Int) / 2) (IntKind.i64.wrap (-IntKind.i64.wrap (bits .and .u64 (u:Int) 1)))=un u:=by
 have e1:bits .and .u64 (u:Int) 1=((u % 2:Nat):Int):=by
  have h:=u64_and_nat u 1 h (by omega);rw[Nat.and_one_is_mod]at h;exact h
 rw[e1];have e2:(u:Int) / 2=((u / 2:Nat):Int):=by omega
 rw[e2];have hu:u / 2<9223372036854775808:=by omega
 unfold un;rcases Nat.mod_two_eq_zero_or_one u with h0|h0
 ·rw[h0,if_pos rfl]
  show IntKind.i64.wrap ((BitVec.ofInt 64 ((u / 2:Nat):Int) ^^^ BitVec.ofInt 64 0).toNat:Int)=_
  rw[BitVec.toNat_xor,ofInt_u64 _ (by omega),show(BitVec.ofInt 64 0).toNat=0 from rfl,Nat.xor_zero];unfold IntKind.wrap;simp[IntKind.bits,IntKind.signed];omega
 ·rw[h0,if_neg (by omega)]
  show IntKind.i64.wrap ((BitVec.ofInt 64 ((u / 2:Nat):Int) ^^^ BitVec.ofInt 64 (-1)).toNat:Int)=_
  rw[BitVec.toNat_xor,ofInt_u64 _ (by omega),show(BitVec.ofInt 64 (-1)).toNat=18446744073709551615 from rfl,MR (by omega)];unfold IntKind.wrap;simp[IntKind.bits,IntKind.signed];omega
end Cd
theorem Vu(n:Int)(h1:-9223372036854775808<=n)(h2:n<=9223372036854775807)(w:World) :
  Calls Tryz.prog 62 #[.int .i64 n] w λe w'=>e=.returned (.int .u64 (Cd.zz n:Nat))/\w'=w:=by
 have HE:=hid (Cd.XJ h1 h2);go_enter Tryz.func62,Tryz.ntmps62;go_wp2_with fail;go_ret;exact⟨by first|(rw[HE.out];rfl)|rfl,rfl⟩
theorem Td(u:Nat)(h2:u<18446744073709551616)(w:World) :
  Calls Tryz.prog 125 #[.int .u64 u] w λe w'=>e=.returned (.int .i64 (Cd.un u))/\w'=w:=by
 have HE:Hid (bits .xor .i64 ((u:Int) / 2) (wrap64 (-wrap64 (bits .and .u64 (u:Int) 1)))=Cd.un u):=hid (by
  have e:∀ n,wrap64 n=IntKind.i64.wrap n:=λn=>by first|(rw[IntKind.wrap_i64];rfl)|(rw[IntKind.wrap_i64];unfold wrap64;rfl)|simp[wrap64,IntKind.wrap,IntKind.bits,IntKind.signed]
  rw[e,e];exact Cd.back_eq h2)
 go_enter Tryz.func125,Tryz.ntmps125;go_wp2_with fail;go_ret;exact⟨by rw[<-HE.out];rfl,rfl⟩
namespace Cd
open Id Chk Vl Ev
structure bI(B g:Nat)(w w':World):Prop where
 os:w'.os=w.os
 tape:w'.tape=w.tape
 output:w'.output=w.output
 size:w.heap.size<=w'.heap.size
 block:∀(i:Nat)(o:Obj),w.heap[i]?=some o->i≠g->(i<B∨∀(cs:Array Value)(fr:Nat × Nat),o≠Obj.cells cs 92 fr)->w'.heap[i]?=some o
theorem bI.refl(B g:Nat)(w:World):bI B g w w:=⟨rfl,rfl,rfl,xB _,λ_ _ h _ _=>h⟩
theorem bI.trans{B g:Nat}{a b c:World}(h:bI B g a b)(k:bI B g b c):bI B g a c:=⟨k.os.trans h.os,k.tape.trans h.tape,k.output.trans h.output,xM h.size k.size,λi o hg hi hn=>k.block i o (h.block i o hg hi hn) hi hn⟩
theorem bI.gb{B g:Nat}{w w':World}(h:w.grownBy w' (some g)):bI B g w w':=⟨h.os,h.tape,h.output,h.size,λi o hg hi _=>(h.block i (Array.getElem?_eq_some_iff.1 hg).1 (by intro e;injection e with e;exact hi e)).trans hg⟩
theorem bI.below{B g:Nat}{w w':World}(h:Below w.heap.size w w'):bI B g w w':=⟨h.os,h.tape,h.output,h.size,λi o hg _ _=>(h.block i (Array.getElem?_eq_some_iff.1 hg).1).trans hg⟩
theorem bI.only{B g:Nat}{w w':World}(hb:Below B w w')(h:Only 92 w w'):bI B g w w':=⟨h.os,h.tape,h.output,h.size,λi o hg _ hn=>by
 rcases hn with hn|hn
 ·exact(hb.block i hn).trans hg
 ·exact h.block i o hg hn⟩
theorem bI.bk{B g i:Nat}{w w':World}{t:TypeId}{cs:Array Value}(h:bI B g w w')(hb:Bk w i t cs)(hi:i≠g)(ht:t≠92):Bk w' i t cs:=h.block i _ hb hi (.inr λcs' fr' e'=>by injection e' with _ e2;exact ht e2)
theorem bI.bel{B g:Nat}{w w':World}(h:bI B g w w')(hg:B<=g)(hB:B<=w.heap.size):Below B w w' :=
 ⟨h.os,h.tape,h.output,h.size,λi hi=>by
  have hl:i<w.heap.size:=Nat.lt_of_lt_of_le hi hB;rw[yD hl];exact h.block i _ (yD hl) (by omega) (.inl hi)⟩
theorem bI.kp{B g base:Nat}{T:List TypeId}{w w':World}{cs:Array Value}(h:bI B g w w')(hg:Bk w g 118 cs)(h1:118 ∉ T)(h2:92 ∉ T):Kp base T w w':=λi cs' t _ ht hi=>h.block i _ hi (by
  rintro rfl;have e:=(show w.heap[i]?=some (.cells cs 118 (0,0))from hg).symm.trans hi;injection e with e
  injection e with _ e
  exact h1 (e ▸ ht)) (.inr λcs'' fr e=>by injection e with _ e;exact h2 (e ▸ ht))
def pan(at_ e:Nat):Ending:=.panicked [{ v:=.iface 114 (.agg #[.int .i64 (at_:Nat),.int .i64 (e:Nat)]),recovered:=false }]
abbrev Yo(q0 q1 q2 q3:Value)(bb:ByteArray)(x:S)(vv:Value):Array Value:=#[q0,q1,q2,q3,.string bb,.int .i64 (x.at_:Nat),vv,.int .i64 (x.sz:Nat)]
structure Rdr(q0 q1 q2 q3:Value)(bb:ByteArray)(w0 w:World)(g:Nat)(x:S)(vv:Value):Prop where
 bel:Below w0.heap.size w0 w
 lo:w0.heap.size<=g
 box:Bk w g 118 (Yo q0 q1 q2 q3 bb x vv)
 row:Vl.fP w (some w0.heap.size) vv x.v
 ha:x.at_<=bb.size
 hv:x.v.length<=4096
 hz:x.sz<=4096
section
variable {q0 q1 q2 q3 vv : Value} {bb : ByteArray} {w0 w w' : World} {g : Nat} {x : S}
theorem NR{b:Nat}{l:List Vl.Node}(h:Vl.fP w (some b) vv l)(hb:Below w.heap.size w w'):Vl.fP w' (some b) vv l:=ah.below (show ah w (some b) 92 4 Vl.oC vv l from h) hb (λ_ _ h=>h)
theorem Rdr.below(h:Rdr q0 q1 q2 q3 bb w0 w g x vv)(hb:Below w.heap.size w w'):Rdr q0 q1 q2 q3 bb w0 w' g x vv :=
 ⟨h.bel.trans (hb.mono h.bel.size),h.lo,h.box.below hb h.box.lt,NR h.row hb,h.ha,h.hv,h.hz⟩
theorem Dn{b:Nat}{l:List Vl.Node}{cs:Array Value}(h:Vl.fP w (some b) vv l)(hg:Bk w g 118 cs)(j:Nat)(u:Value):Vl.fP (w.setCell ⟨g,j,none⟩ u) (some b) vv l :=
 ah.kp (T:=[92]) (show ah w (some b) 92 4 Vl.oC vv l from h) (Only.kp (Only.set hg j u) b (by decide)) (xB _) (by decide) (λ_ _ h=>h)
theorem Rdr.at_(h:Rdr q0 q1 q2 q3 bb w0 w g x vv)(p:Nat)(hp:p<=bb.size):Rdr q0 q1 q2 q3 bb w0 (w.setCell ⟨g,5,none⟩ (.int .i64 (p:Nat))) g ⟨p,x.v,x.sz⟩ vv :=
 ⟨h.bel.setCell (p:=⟨g,5,none⟩) h.lo _,h.lo,h.box.au 5 _,Dn h.row h.box 5 _,hp,h.hv,h.hz⟩
theorem Rdr.Ik(h:Rdr q0 q1 q2 q3 bb w0 w g x vv)(z:Nat)(hz:z<=4096):Rdr q0 q1 q2 q3 bb w0 (w.setCell ⟨g,7,none⟩ (.int .i64 (z:Nat))) g ⟨x.at_,x.v,z⟩ vv :=
 ⟨h.bel.setCell (p:=⟨g,7,none⟩) h.lo _,h.lo,h.box.au 7 _,Dn h.row h.box 7 _,h.ha,h.hv,hz⟩
theorem Rdr.drew(h:Rdr q0 q1 q2 q3 bb w0 w g x vv):Rdr q0 q1 q2 q3 bb w0 w.drew g x vv:=h.below (Below.drew (Below.refl _ _))
theorem Rdr.Uc(h:Rdr q0 q1 q2 q3 bb w0 w g x vv){w':World}{v':Value}{l:List Vl.Node}(hb:Below w0.heap.size w w')(ho:Only 92 w w')(hr:Vl.fP w' (some w0.heap.size) v' l)(hl:l.length<=4096) :
  Rdr q0 q1 q2 q3 bb w0 (w'.setCell ⟨g,6,none⟩ v') g ⟨x.at_,l,x.sz⟩ v':=by
 have hbx:=ho.bk h.box (by decide);exact⟨(h.bel.trans hb).setCell (p:=⟨g,6,none⟩) h.lo _,h.lo,hbx.au 6 _,Dn hr hbx 6 _,h.ha,hl,h.hz⟩
def Sts(B g:Nat)(w:World)(tv:Value)(t:List Srt):Prop:=∀ w',bI B g w w'->bf w' none tv t
theorem Sts.now{B:Nat}{tv:Value}{t:List Srt}(h:Sts B g w tv t):bf w none tv t:=h w (bI.refl _ _ _)
theorem Sts.next{B:Nat}{tv:Value}{t:List Srt}(h:Sts B g w tv t)(k:bI B g w w'):Sts B g w' tv t:=λw2 h2=>h w2 (k.trans h2)
theorem Sts.old{tv:Value}{t:List Srt}(h:bf w0 none tv t)(hb:Below w0.heap.size w0 w)(hg:w0.heap.size<=g):Sts w0.heap.size g w tv t:=λw' k=>ah.below h (hb.trans (k.bel hg hb.size)) (λ_ _ h=>h)
theorem Sts.own{B b:Nat}{tv:Value}{t:List Srt}{cs:Array Value}(h:bf w (some b) tv t)(hg:Bk w g 118 cs):Sts B g w tv t:=λw' k =>
 ah.mono (ah.kp (T:=[44]) h (k.kp hg (by decide) (by decide)) (xB _) (by decide) (λ_ _ h=>h)) (λ_ _ hr=>hr.weak (BR _)) (λ_ _ h=>h)
theorem nZ{B b:Nat}{u:Value}{l:List Fld}{cs:Array Value}(h:iO w (some b) u l)(k:bI B g w w')(hg:Bk w g 118 cs):iO w' (some b) u l:=by
 have hk:Kp b [176,44] w w':=k.kp hg (by decide) (by decide);refine ah.kp h hk (xB _) (by decide) (λcs x he=>?_);obtain⟨u',e,hs⟩:=he;exact⟨u',e,ah.kp hs hk (xB _) (by decide) (λ_ _ h=>h)⟩
end
end Cd
end
namespace Ev
theorem YS(c:Nat)(hc:c<256):bits .and .u8 (c:Int) 127=((c % 128:Nat):Int):=by
 have h:=u8_and_nat c 127 hc (by omega);have e:∀ z,z<256->z &&& 127=z % 128:=by decide +kernel
 rw[e c hc]at h;exact h
theorem Tn{a c k:Nat}(ha:a<18446744073709551616)(hc:c<256) :
  bits .or .u64 (a:Int) (IntKind.u64.wrap (IntKind.u64.wrap (bits .and .u8 (c:Int) 127) * 2 ^ (7 * k)))=((a ||| (c % 128 * 2 ^ (7 * k) % 18446744073709551616):Nat):Int):=by
 rw[YS c hc];have e1:IntKind.u64.wrap ((c % 128:Nat):Int)=((c % 128:Nat):Int):=by rw[IntKind.wrap_u64];omega
 have e2:IntKind.u64.wrap (((c % 128:Nat):Int) * 2 ^ (7 * k))=((c % 128 * 2 ^ (7 * k) % 18446744073709551616:Nat):Int):=by
  rw[IntKind.wrap_u64,show((2:Int) ^ (7 * k))=((2 ^ (7 * k):Nat):Int)from by rw[Int.natCast_pow];rfl,<-Int.natCast_mul];rfl
 rw[e1,e2];exact u64_or_nat a _ ha (Nat.mod_lt _ (by decide))
end Ev
section
open Go.BigFrame
theorem jE(at_ e:Nat)(w:World):Calls Tryz.prog 122 #[.int .i64 at_,.int .i64 e] w λen w'=>en=Cd.pan at_ e/\w'=w:=by
 go_enter Tryz.func122,Tryz.ntmps122;go_wp2_with fail;exact⟨rfl,rfl,rfl⟩
namespace Cd
open Id Chk Vl Ev
def Vz(k:IntKind)(q0 q1 q2 q3:Value)(bb:ByteArray)(w0 w:World)(g:Nat)(x:S)(vv:Value)(R:Rs (Nat × Nat))(e:Ending)(w':World):Prop:=match R with
 | .ok q=>e=.returned (.int k (q.1:Nat))/\w.grownBy w' (some g)/\Rdr q0 q1 q2 q3 bb w0 w' g ⟨q.2,x.v,x.sz⟩ vv
 | .error p=>e=pan p.1 p.2/\Below w0.heap.size w0 w'
def Bq(b:List UInt8)(p:Nat):Rs (Nat × Nat):=if p<b.length then .ok ((b.getD p 0).toNat,p+1)else .error (b.length,160)
end Cd
theorem Kt(q0 q1 q2 q3:Value)(bb:ByteArray)(w0 w:World)(g:Nat)(x:Cd.S)(vv:Value)(hb:bb.size<=1000000)(hr:Cd.Rdr q0 q1 q2 q3 bb w0 w g x vv) :
  Calls Tryz.prog 178 #[.pointer (some ⟨g,0,none⟩)] w λe w'=>Cd.Vz .u8 q0 q1 q2 q3 bb w0 w g x vv (Cd.Bq bb.data.toList x.at_) e w':=by
 obtain⟨R,HR⟩:∃ R,Hid (Cd.Bq bb.data.toList x.at_=R):=⟨_,hid rfl⟩;rw[HR.out];have HRD:=hid hr;obtain⟨p,v,z⟩:=x;obtain⟨⟨c0,c1,c2,c3,c4,c5,c6,c7⟩,f0,f1,f2,f3,f4,f5,f6,f7⟩:=hr.box.k8;have hp:p<=bb.size:=hr.ha;have ip0:(0:Int)<=(p:Int):=by omega
 simp only at c5 c7;unfold Cd.Bq at HR;have hbl:bb.data.toList.length=bb.size:=by simp
 clear hr;by_cases hlt:p<bb.size
 case neg =>
  have HE:Hid (R=.error (bb.size,160)):=hid (by rw[<-HR.out,if_neg (by rw[hbl];exact hlt),hbl]);have h1:(bb.size:Int)<=(p:Int):=by omega
  have h2:bb.size<=p:=by omega
  obtain rfl:=HE.out;clear HR hbl HE;go_enter Tryz.func178,Tryz.ntmps178;go_wp2_with fail;go_quiet (fail);go_wp2_with fail;refine(jE bb.size 160 _).mono ?_;rintro e w1⟨rfl,rfl⟩;unfold Cd.pan;go_wp2_with fail;exact⟨rfl,rfl,below_drewN HRD.out.bel nq⟩
 have HE:Hid (R=.ok ((bb.data.toList.getD p 0).toNat,p+1)):=hid (by rw[<-HR.out,if_pos (by rw[hbl];exact hlt)]);have h1:¬(bb.size:Int)<=(p:Int):=by omega
 have h2:¬bb.size<=p:=by omega
 have h3:IntKind.i64.wrap ((p:Int)+1)=(p:Int)+1:=by rw[IntKind.wrap_i64];omega
 have h4:(p:Int)+1 - 1=(p:Int):=by omega
 have h5:(p:Int)<(bb.size:Int):=by omega
 have HBY:=hid (Sm.getD_byte bb p hlt);obtain rfl:=HE.out;clear HR hbl HE;go_enter Tryz.func178,Tryz.ntmps178;go_wp2_with fail;go_quiet (fail);go_upto_region 4 with(fail)
 refine ak (λV hV=>?_);have hrV:Cd.Rdr q0 q1 q2 q3 bb w0 V g ⟨p+1,v,z⟩ vv:=by
  have h:=(HRD.out.below (below_drewN (Below.refl _ _) nq)).at_ (p+1) (by omega);rw[hV];exact h
 have hgV:w.grownBy V (some g):=by rw[hV];exact bn (aQ (below_drewN (Below.refl _ _) nq) _) (.inl rfl) _
 clear hV c0 c1 c2 c3 c4 c5 c6 c7 f0 f1 f2 f3 f4 f5 f6 f7 HRD;have HRV:=hid hrV;have HGV:=hid hgV;obtain⟨⟨c0,c1,c2,c3,c4,c5,c6,c7⟩,-⟩:=hrV.box.k8;simp only at c5;have h6:(((p+1:Nat):Int))=(p:Int)+1:=by omega
 rw[h6]at c5;clear hrV hgV;go_quiet (fail);go_wp2_with fail;go_ret;refine⟨?_,zH HGV.out _,HRV.out.below (below_drewN (Below.refl _ _) _)⟩;rfl
namespace Cd
open Ev
theorem Yt{l:List UInt8}{i:Nat}(h10:i<10)(hi:i<l.length){c:Nat}(hc:(l.getD i 0).toNat=c)(h:¬(i=9/\1<c))(h2:128<=c):nmF l (10 - i) i=nmF l (10 - (i+1)) (i+1):=by
 obtain⟨f,hf⟩:∃ f,10 - i=f+1:=⟨9 - i,by omega⟩;rw[hf,nmF,if_pos hi,hc,if_neg h,if_neg (by omega),show 10 - (i+1)=f by omega]
theorem Xl{l:List UInt8}{i:Nat}(h10:i<10)(hi:i<l.length){c:Nat}(hc:(l.getD i 0).toNat=c)(h:i=9/\1<c):nmF l (10 - i) i=.error true:=by
 obtain⟨f,hf⟩:∃ f,10 - i=f+1:=⟨9 - i,by omega⟩;rw[hf,nmF,if_pos hi,hc,if_pos h]
theorem U5{l:List UInt8}{i:Nat}(h10:i<10)(hi:i<l.length){c:Nat}(hc:(l.getD i 0).toNat=c)(h:c=0/\0<i):nmF l (10 - i) i=.error true:=by
 obtain⟨f,hf⟩:∃ f,10 - i=f+1:=⟨9 - i,by omega⟩;rw[hf,nmF,if_pos hi,hc,if_neg (by omega),if_pos (by omega),if_pos h]
theorem Xk{l:List UInt8}{i:Nat}(h10:i<10)(hi:i<l.length){c:Nat}(hc:(l.getD i 0).toNat=c)(h:¬(i=9/\1<c))(h1:c<128)(h2:¬(c=0/\0<i)):nmF l (10 - i) i=.ok (acc l (i+1),i+1):=by
 obtain⟨f,hf⟩:∃ f,10 - i=f+1:=⟨9 - i,by omega⟩;rw[hf,nmF,if_pos hi,hc,if_neg h,if_pos h1,if_neg h2]
theorem Xj{l:List UInt8}{i:Nat}(h10:i<10)(hi:¬i<l.length):nmF l (10 - i) i=.error false:=by
 obtain⟨f,hf⟩:∃ f,10 - i=f+1:=⟨9 - i,by omega⟩;rw[hf,nmF,if_neg hi]
theorem Xh{b:List UInt8}{p u j:Nat}(h:nmF (b.drop p) 10 0=.ok (u,j)):num b p=.ok (u,p+j):=by unfold num;rw[h]
theorem Ci{b:List UInt8}{p:Nat}(h:nmF (b.drop p) 10 0=.error true):num b p=.error (p,162):=by unfold num;rw[h]
theorem Xi{b:List UInt8}{p:Nat}(h:nmF (b.drop p) 10 0=.error false):num b p=.error (b.length,160):=by unfold num;rw[h]
end Cd
theorem KA(q0 q1 q2 q3:Value)(bb:ByteArray)(w0 w:World)(g:Nat)(x:Cd.S)(vv:Value)(hb:bb.size<=1000000)(hr:Cd.Rdr q0 q1 q2 q3 bb w0 w g x vv) :
  Calls Tryz.prog 124 #[.pointer (some ⟨g,0,none⟩)] w λe w'=>Cd.Vz .i64 q0 q1 q2 q3 bb w0 w g x vv (Cd.bit bb.data.toList x.at_) e w':=by
 obtain⟨R,HR⟩:∃ R,Hid (Cd.bit bb.data.toList x.at_=R):=⟨_,hid rfl⟩;rw[HR.out];have HRD:=hid hr;obtain⟨p,v,z⟩:=x;obtain⟨⟨c0,c1,c2,c3,c4,c5,c6,c7⟩,-⟩:=hr.box.k8;simp only at c5 c7;unfold Cd.bit at HR;clear hr;go_enter Tryz.func124,Tryz.ntmps124;go_wp2_with fail;obtain⟨O,HO⟩:∃ O,Hid (Cd.Bq bb.data.toList p=O):=⟨_,hid rfl⟩;refine(Kt q0 q1 q2 q3 bb w0 w g ⟨p,v,z⟩ vv hb HRD.out).mono ?_;try simp only
 rw[HO.out];have HO2:=HO.out;unfold Cd.Bq at HO2;have HO3:=hid HO2;clear HO2;by_cases hlt:p<bb.data.toList.length
 case neg =>
  have e1:O=.error (bb.data.toList.length,160):=by rw[<-HO3.out,if_neg hlt]
  have e2:R=.error (bb.data.toList.length,160):=by rw[<-HR.out,if_neg hlt]
  subst e1 e2;rintro e w1⟨rfl,hb1⟩;unfold Cd.pan;go_wp2_with fail;exact⟨rfl,rfl,hb1⟩
 have HRR:Hid ((if 1<(bb.data.toList.getD p 0).toNat then(.error (p,162):Cd.Rs (Nat × Nat))else .ok ((bb.data.toList.getD p 0).toNat,p+1))=R):=hid (by rw[<-HR.out,if_pos hlt]);have e1:O=.ok ((bb.data.toList.getD p 0).toNat,p+1):=by rw[<-HO3.out,if_pos hlt]
 subst e1;have hc8:=(bb.data.toList.getD p 0).toNat_lt;generalize(bb.data.toList.getD p 0).toNat=cc at *;clear HR HO3 HO;rintro e w1⟨rfl,hg1,hr1⟩;simp only at hr1 ⊢;have HG1:=hid hg1;have HR1:=hid hr1;clear hg1 hr1 HRD c0 c1 c2 c3 c4 c5 c6 c7;by_cases h1:1<cc
 case pos =>
  have e2:R=.error (p,162):=by rw[<-HRR.out,if_pos h1]
  subst e2;go_wp2_with fail;refine(jE p 162 _).mono ?_;rintro e w2⟨rfl,rfl⟩;unfold Cd.pan;go_wp2_with fail;exact⟨rfl,rfl,HR1.out.bel⟩
 have e2:R=.ok (cc,p+1):=by rw[<-HRR.out,if_neg h1]
 subst e2;go_wp2_with fail;go_ret;exact⟨rfl,HG1.out,HR1.out⟩
theorem sF(q0 q1 q2 q3:Value)(bb:ByteArray)(w0 w:World)(g:Nat)(x:Cd.S)(vv:Value)(hb:bb.size<=1000000)(hr:Cd.Rdr q0 q1 q2 q3 bb w0 w g x vv) :
  Calls Tryz.prog 126 #[.pointer (some ⟨g,0,none⟩)] w λe w'=>Cd.Vz .u64 q0 q1 q2 q3 bb w0 w g x vv (Cd.num bb.data.toList x.at_) e w':=by
 obtain⟨R,HR⟩:∃ R,Hid (Cd.num bb.data.toList x.at_=R):=⟨_,hid rfl⟩;rw[HR.out];have HRD:=hid hr;obtain⟨p,v,z⟩:=x;have hp:p<=bb.size:=hr.ha;obtain⟨⟨c0,c1,c2,c3,c4,c5,c6,c7⟩,-⟩:=hr.box.k8;simp only at c5 c7 HR;clear hr;obtain⟨L,HL⟩:∃ L,Hid (bb.data.toList.drop p=L):=⟨_,hid rfl⟩;have hLl:L.length=bb.size - p:=by rw[<-HL.out,List.length_drop];simp
 have HLL:=hid hLl;clear hLl;go_enter Tryz.func126,Tryz.ntmps126;go_wp2_with fail;go_loopw [4,5] (λu i wr=>∃ k:Nat,k<10/\p+k<=bb.size/\i=.int .i64 k/\u=.int .u64 (Ev.acc L k)/\Hid (Cd.nmF L 10 0=Cd.nmF L (10 - k) k)/\Hid (w.grownBy wr (some g))/\Hid (Cd.Rdr q0 q1 q2 q3 bb w0 wr g ⟨p+k,v,z⟩ vv)) (λ_ i _=>10 - (intOf i).toNat)
 case atStart=>exact⟨0,by omega,by omega,rfl,rfl,hid rfl,hid (dL _ _),HRD⟩
 case round =>
  obtain⟨k,h10,hpk,rfl,rfl,HF,HG,HRW⟩:=hrel;obtain⟨W,rfl⟩:∃ w',w'=wr:=⟨_,rfl⟩;clear c0 c1 c2 c3 c4 c5 c6 c7 HRD;obtain⟨O,HO⟩:∃ O,Hid (Cd.Bq bb.data.toList (p+k)=O):=⟨_,hid rfl⟩;go_wp2_with fail;refine(Kt q0 q1 q2 q3 bb w0 W g ⟨p+k,v,z⟩ vv hb HRW.out).mono ?_;try simp only
  rw[HO.out];have hbl:bb.data.toList.length=bb.size:=by simp
  have HGD:Hid (bb.data.toList.getD (p+k) 0=L.getD k 0):=hid (by rw[<-HL.out,yG,yG,List.getElem?_drop]);by_cases hlt:k<L.length
  case neg =>
   have hn:¬p+k<bb.data.toList.length:=by have:=HLL.out;omega
   have e1:O=.error (bb.data.toList.length,160):=by rw[<-HO.out];unfold Cd.Bq;rw[if_neg hn]
   have e2:R=.error (bb.data.toList.length,160):=by rw[<-HR.out];exact Cd.Xi (by rw[HL.out,HF.out];exact Cd.Xj h10 hlt)
   subst e1 e2;rintro e w1⟨rfl,hb1⟩;unfold Cd.pan;go_wp2_with fail;exact⟨rfl,rfl,hb1⟩
  have hn:p+k<bb.data.toList.length:=by have:=HLL.out;omega
  have hcc:=(L.getD k 0).toNat_lt;obtain⟨c,HC⟩:∃ c,Hid ((L.getD k 0).toNat=c):=⟨_,hid rfl⟩;rw[HC.out]at hcc;have e1:O=.ok (c,p+k+1):=by rw[<-HO.out];unfold Cd.Bq;rw[if_pos hn,HGD.out,HC.out]
  subst e1;have hal:=Ev.EU L k;have HA:=hid (Ev.Tn (k:=k) hal hcc);have HAS:Hid (Ev.acc L (k+1)=Ev.acc L k ||| (c % 128 * 2 ^ (7 * k) % 18446744073709551616)):=hid (by rw[<-HC.out];rfl);have HBAD:=hid (Cd.Xl h10 hlt HC.out);have Iq:=hid (Cd.U5 h10 hlt HC.out);have FN:=hid (Cd.Xk h10 hlt HC.out);have HGO:=hid (Cd.Yt h10 hlt HC.out);clear HO HGD hn;rintro e w1⟨rfl,hg1,hr1⟩;simp only at hr1 ⊢;have HG1:=hid (aI HG.out hg1);have HR1:=hid hr1;clear hg1 hr1 HRW;by_cases h9:k=9/\1<c
  case pos =>
   have e2:R=.error (p,162):=by rw[<-HR.out];exact Cd.Ci (by rw[HL.out,HF.out];exact HBAD.out h9)
   obtain⟨rfl,hc1⟩:=h9;subst e2;go_wp2_with fail;refine(jE p 162 _).mono ?_;rintro e w2⟨rfl,rfl⟩;unfold Cd.pan;go_wp2_with fail;exact⟨rfl,rfl,HR1.out.bel⟩
  have hc256:c<256:=by simpa using hcc
  have hwk:IntKind.i64.wrap (7 * (k:Int))=7 * (k:Int):=by rw[IntKind.wrap_i64];omega
  have hk0:(0:Int)<=7 * (k:Int):=by omega
  have HW1:Hid (IntKind.i64.wrap ((k:Int)+1)=(k:Int)+1):=hid (by rw[IntKind.wrap_i64];omega);by_cases h128:c<128
  case neg =>
   have h98:¬((k:Int)=9)∨¬(1<(c:Int)):=by omega
   have hk9:k<9:=by omega
   have hi9:¬(k:Int)=9:=by omega
   have hi9':((k:Int)==9)=false:=beq_eq_false_iff_ne.2 hi9;have hi1:¬(c:Int)<128:=by omega
   have HF2:=HGO.out h9 (by omega);have HF3:=hid HF2;clear HF2 HBAD Iq FN HGO HC hcc;go_wp2_with fail;go_roundw
   case rel=>exact⟨k+1,by omega,by have:=HR1.out.ha;simp only at this;omega,by go_num,by rw[HAS.out,<-HA.out],hid (by rw[HF.out,HF3.out]),HG1,HR1⟩
   case measure=>simp[intOf];omega
  have hi1:(c:Int)<128:=by omega
  by_cases hz:c=0/\0<k
  case pos =>
   have e2:R=.error (p,162):=by rw[<-HR.out];exact Cd.Ci (by rw[HL.out,HF.out];exact Iq.out hz)
   obtain⟨rfl,hk1⟩:=hz;have hi9:(0:Int)<(k:Int):=by omega
   subst e2;clear HBAD Iq FN HGO HC hcc h9;simp only[xY]at *;go_wp2_with fail;all_goals
    refine(jE p 162 _).mono ?_;rintro e w2⟨rfl,rfl⟩;unfold Cd.pan;go_wp2_with fail;exact⟨rfl,rfl,HR1.out.bel⟩
  have e2:R=.ok (Ev.acc L (k+1),p+(k+1)):=by rw[<-HR.out];exact Cd.Xh (by rw[HL.out,HF.out];exact FN.out h9 h128 hz)
  subst e2;clear HBAD Iq FN HGO HC hcc;by_cases hk9:k=9
  case neg =>
   have hi9:¬(k:Int)=9:=by omega
   go_wp2_with fail;all_goals
    go_ret;refine⟨?_,HG1.out,HR1.out⟩;first
     |(rw[HAS.out,<-HA.out];rfl)
     |(obtain rfl:c=0:=(by assumption);rw[HAS.out,<-HA.out];rfl)
  subst hk9;have e9:((2:Int) ^ (7 * 9))=9223372036854775808:=by decide +kernel
  have h:=HA.out;rw[e9]at h;have HA9:=hid h;have hz9:¬c=0:=by omega
  have hc1:¬1<c:=by omega
  clear h e9 hwk hk0 HW1;go_wp2_with fail;go_ret;refine⟨?_,HG1.out,HR1.out⟩;show Ending.returned (Value.int .u64 (bits .or .u64 (Ev.acc L 9:Nat) (IntKind.u64.wrap (IntKind.u64.wrap (bits .and .u8 (c:Nat) 127) * 9223372036854775808))))=_
  rw[HA9.out,HAS.out]
theorem wo{P:Program}{ops:Array Oper}{o:Oper}{a:Act}{w:World}{K:Act->World->Prop}{Q:Exit->Act->World->Prop}{H:Prop}(hgd:o.guard=none)(s y:Operand)(t:TypeId)
  (ho:o.op=.call { callee:=.builtin .append,args:=#[s,y],argTypes:=#[t,t] })
  (base:Nat) (e:TypeId) (z:Value) (size bytes:Nat) (ht:P.underlying t=some (.slice e)) (hi:(P.info? e).map (λi=>(i.zero,i.size,i.bytes))=some (some z,size,bytes)) (hzs:z.cells.size=size) (hpos:0<size)
  {α:Type} (E:World->List Value->α->Prop) (v:Value) (l:List α) (hs:a.eval s=v) (hown:ah w (some base) e size E v l)
  (cs:List Value) (hcs:cs.length=size) (g:Nat) (hx:a.eval y=.slice (some ⟨g,0,none⟩) 1 1) (hg0:Bk w g e cs.toArray) (h1:∀ u∈cs,u.oneCell'=true)
  (h63:l.length+1<=maxLen) (hbytes:(l.length+1) * bytes<=140737488355328) (hbase:base<=w.heap.size)
  (h:∀ A n c w',(∀ x,(∀ cs x,E w cs x->E w' cs x)->E w' cs x->ah w' (some base) e size E (.slice A n c) (l++[x]))->Below base w w'->Only e w w'->w.grownBy w' v.ownBlock->K (a.put o.dst (.slice A n c)) w') :
  if Region.wanted o (yielded ops a.tmps)=true then Oper.wp P o a w K Q else H:=by
 obtain⟨css,k1,k2,k3,k4⟩:=hown;obtain⟨i,hi0,hz0,hz1,hz2⟩:=info_parts hi;have hown:w.ownsRow base e size v l.length css.flatten:=k3;refine step_append_lies _ hgd s y t ho base e i z size bytes ht hi0 hz0 hz1 hz2 hzs hpos v l.length css.flatten hs hown ⟨g,0,none⟩ 1 1 cs hx (by rw[hcs];omega) (λj u hu=>?_) h1 (by omega) h63 hbytes hbase w.heap.size rfl ?_
 ·have e':((⟨g,0,none⟩:Addr).add j)=⟨g,j,none⟩:=by simp[Addr.add];omega
  rw[e',hg0.cell j];simpa using hu
 intro g' cap w' hown' hg hat _;exact h _ _ _ w' (λx hE hx'=>ah.snoc k1 k2 (λi a b=>hE _ _ (k4 i a b)) hcs hx' hown') ((Below.refl base w).grown hg hbase (λk hk=>(hown.lt k hk).1)) (Only.row hg hown) hg
theorem Cd.Fz:(Tryz.prog.info? 92).map (λi=>(i.zero,i.size,i.bytes))=some (some (.agg #[.int .u8 0,.int .i64 0,.string ⟨#[]⟩,.int .i64 0]),4,40):=by kernel_rfl
namespace Cd
open Id Chk Vl Ev
theorem Ru{w:World}{b:Nat}{vv:Value}{l:List Vl.Node}(h:Vl.fP w (some b) vv l)(k:Nat)(hk:vv.ownBlock=some k):k<w.heap.size:=by
 obtain⟨css,k1,k2,k3,k4⟩:=h;exact((show w.ownsRow b 92 4 vv l.length css.flatten from k3).lt k hk).2
structure Vy(q0 q1 q2 q3:Value)(bb:ByteArray)(w0 w:World)(g:Nat)(x:S)(w':World):Prop where
 only:bI w0.heap.size g w w'
 rdr:∃ vv',Rdr q0 q1 q2 q3 bb w0 w' g x vv'
end Cd
theorem rH(q0 q1 q2 q3:Value)(bb:ByteArray)(w0 w:World)(g rb:Nat)(x:Cd.S)(vv:Value)(nd:Vl.Node)(hr:Cd.Rdr q0 q1 q2 q3 bb w0 w g x vv)(hrb:Bk w rb 116 #[.pointer (some ⟨g,0,none⟩)])(hx:x.v.length<4096) :
  Calls Tryz.prog 123 #[.agg #[.int .u8 nd.kind,.int .i64 nd.int,.string nd.text,.int .i64 nd.kids],.pointer (some ⟨rb,0,none⟩)] w λe w'=>e=.returned (.tuple #[])/\Cd.Vy q0 q1 q2 q3 bb w0 w g ⟨x.at_,x.v++[nd],x.sz⟩ w':=by
 have HRD:=hid hr;have HRB:=hid hrb;obtain⟨p,v,z⟩:=x;obtain⟨k0,k1,k2,k3⟩:=nd;simp only at hx ⊢;have HX:=hid hx;have HVO:Hid (∀ k,vv.ownBlock=some k->k<w.heap.size):=hid (Cd.Ru hr.row);clear hr hrb hx;go_enter Tryz.func123,Tryz.ntmps123;go_upto_region 1 with(fail)
 refine ak (λV hV=>?_);obtain⟨hb,hq,hVs⟩:=ay hV;clear hV;have HR1:=hid (HRD.out.below hb);have HO1:Hid (Cd.bI w0.heap.size g w V):=hid (Cd.bI.below hb);have HB1:=hid (HRB.out.below hb HRB.out.lt);have HQ1:=hid hq;have HVS:=hid hVs;clear hb hq hVs HRD HRB;refine bJ (λw'=>Bk w' rb 116 #[.pointer (some ⟨g,0,none⟩)]/\Bk w' g 118 #[q0,q1,q2,q3,.string bb,.int .i64 (p:Nat),vv,.int .i64 (z:Nat)]/\Bk w' w.heap.size 92 #[.int .u8 k0,.int .i64 k1,.string k2,.int .i64 k3]) [10] (by kernel_rfl) ⟨HB1.out.drew,HR1.out.box.drew,HQ1.out.drew⟩ (λhHeld=>?_);(refine Lst.qH 10 0 (v:=?_) rfl (by kernel_rfl) (by kernel_rfl) (by kernel_rfl) (by kernel_rfl) (by kernel_rfl) (by kernel_rfl) (λ_ _ _ h=>h) (by assumption) (by rfl) ?_ ?_;rotate_left;· (intro w hSw;obtain⟨e0,e1⟩:=(Bk.k1 hSw.1);go_simp;try with_reducible rfl);try simp only[Act.put,xA,xE,xC])
 (refine Lst.qH 10 1 (v:=?_) rfl (by kernel_rfl) (by kernel_rfl) (by kernel_rfl) (by kernel_rfl) (by kernel_rfl) (by kernel_rfl) (λ_ _ _ h=>h) (by assumption) (by rfl) ?_ ?_;rotate_left;· (intro w hSw;obtain⟨e0,e1⟩:=(Bk.k1 hSw.1);go_simp;try with_reducible rfl);try simp only[Act.put,xA,xE,xC])
 (refine aj 2 (v:=?_) rfl (by kernel_rfl) (by kernel_rfl) (by kernel_rfl) (by kernel_rfl) (λ_ _ _ h=>h) (λ_=>by assumption) (by rfl) ?_ ?_;rotate_left;· (intro w;go_simp;try with_reducible rfl);try simp only[Act.put,xA,xE,xC])
 (refine aj 3 (v:=?_) rfl (by kernel_rfl) (by kernel_rfl) (by kernel_rfl) (by kernel_rfl) (λ_ _ _ h=>h) (λ_=>by assumption) (by rfl) ?_ ?_;rotate_left;· (intro w;go_simp;try with_reducible rfl);try simp only[Act.put,xA,xE,xC])
 (refine Lst.qH 10 4 (v:=?_) rfl (by kernel_rfl) (by kernel_rfl) (by kernel_rfl) (by kernel_rfl) (by kernel_rfl) (by kernel_rfl) (λ_ _ _ h=>h) (by assumption) (by rfl) ?_ ?_;rotate_left;· (intro w hSw;obtain⟨e0,e1,e2,e3,e4,e5,e6,e7⟩:=(Bk.k8 hSw.2.1).1;go_simp;try with_reducible rfl);try simp only[Act.put,xA,xE,xC])
 (refine Lst.qH 10 5 (v:=?_) rfl (by kernel_rfl) (by kernel_rfl) (by kernel_rfl) (by kernel_rfl) (by kernel_rfl) (by kernel_rfl) (λ_ _ _ h=>h) (by assumption) (by rfl) ?_ ?_;rotate_left;· (intro w hSw;obtain⟨e0,e1,e2,e3⟩:=(Bk.k4 hSw.2.2).1;go_simp;try with_reducible rfl);try simp only[Act.put,xA,xE,xC])
 have hr2:=HR1.out.drew;have ho2:Cd.bI w0.heap.size g w V.drew:=HO1.out.trans (Cd.bI.below ((Below.refl _ _).drew));have hs2:w.heap.size<V.drew.heap.size:=hHeld.2.2.lt;generalize V.drew=X at *;clear HR1 HO1 HB1 HQ1 HVS;have HR2:=hid hr2;have HO2:=hid ho2;have HS2:=hid hs2;have HH:=hid hHeld;clear hr2 ho2 hs2 hHeld;(refine aB 6 (by kernel_rfl) rfl (λK hK=>?_))
 go_simp;have hB:Below X.heap.size X (X.alloc (.cells #[.int .u8 k0,.int .i64 k1,.string k2,.int .i64 k3] 92)):=(Below.refl _ _).alloc (xB _) _;have hq:Bk (X.alloc (.cells #[.int .u8 k0,.int .i64 k1,.string k2,.int .i64 k3] 92)) X.heap.size 92 #[.int .u8 k0,.int .i64 k1,.string k2,.int .i64 k3]:=Bk.new X _ _;have HR3:=hid (HR2.out.below hB);have HO3:=hid (HO2.out.trans (Cd.bI.below hB));have HH3:=hid (And.intro (HH.out.1.below hB HH.out.1.lt) (And.intro (HH.out.2.1.below hB HH.out.2.1.lt) (HH.out.2.2.below hB HH.out.2.2.lt)));have HQ:=hid hq;have hX:=hB.size;generalize X.alloc (.cells #[.int .u8 k0,.int .i64 k1,.string k2,.int .i64 k3] 92)=Y at *;clear hB hq;(refine hK.out _ _ (λhnn=>HH3.out) ?_;clear hK K;try simp only[Act.put,xA,xE,xC])
 (refine aB 7 (by kernel_rfl) rfl (λK hK=>?_))
 refine wo rfl _ _ _ rfl w0.heap.size 92 _ 4 40 Tryz.underlying23 Cd.Fz rfl (by decide) Vl.oC vv v rfl HR3.out.row [.int .u8 k0,.int .i64 k1,.string k2,.int .i64 k3] rfl X.heap.size rfl HQ.out (by simp[Value.oneCell']) (by unfold maxLen;have:=HX.out;omega) (by have:=HX.out;omega) HR3.out.bel.size ?_;intro A6 n6 c6 Z hrow hb3 ho3 hg3;have hHeld:=And.intro (ho3.bk HH3.out.1 (by decide)) (And.intro (ho3.bk HH3.out.2.1 (by decide)) (HH3.out.2.2.grown hg3 (λe=>Nat.lt_irrefl _ (HVO.out _ e.symm))));have hR4:=HR3.out.Uc (l:=v++[(⟨k0,k1,k2,k3⟩:Vl.Node)]) (v':=.slice A6 n6 c6) hb3 ho3 (show Vl.fP Z (some w0.heap.size) (.slice A6 n6 c6) (v++[(⟨k0,k1,k2,k3⟩:Vl.Node)])from hrow (⟨k0,k1,k2,k3⟩:Vl.Node) (λ_ _ h=>h) rfl) (by rw[xI];have:=HX.out;simp only[xJ,xO];omega);have hO4:Cd.bI w0.heap.size g w (Z.setCell ⟨g,6,none⟩ (.slice A6 n6 c6)):=(HO3.out.trans (Cd.bI.only hb3 ho3)).trans (Cd.bI.gb (bn (dL _ _) (.inl rfl) _));have HR4:=hid hR4;have HO4:=hid hO4;clear hR4 hO4 hrow hb3 ho3 hg3;(refine hK.out _ _ (λhnn=>hHeld) ?_;clear hK K;try simp only[Act.put,xA,xE,xC])
 (refine aj 8 (v:=?_) rfl (by kernel_rfl) (by kernel_rfl) (by kernel_rfl) (by kernel_rfl) (λ_ _ _ h=>h) (λ_=>by assumption) (by rfl) ?_ ?_;rotate_left;· (intro w;go_simp;try with_reducible rfl);try simp only[Act.put,xA,xE,xC])
 (refine aj 9 (v:=?_) rfl (by kernel_rfl) (by kernel_rfl) (by kernel_rfl) (by kernel_rfl) (λ_ _ _ h=>h) (λ_=>by assumption) (by rfl) ?_ ?_;rotate_left;· (intro w;go_simp;try with_reducible rfl);try simp only[Act.put,xA,xE,xC])
 obtain⟨⟨d0,d1,d2,d3,d4,d5,d6,d7⟩,f0,f1,f2,f3,f4,f5,f6,f7⟩:=(Bk.k8 hHeld.2.1);(refine aB 10 (by kernel_rfl) rfl (λK hK=>?_))
 go_simp;(refine hK.out _ _ (λhnn=>absurd hnn (by decide)) ?_;clear hK K;try simp only[Act.put,xA,xE,xC])
 refine dU (by kernel_rfl) ?_ _;refine NoPanic.normal ?_;go_wp2_with fail;go_end0;exact⟨rfl,HO4.out,_,HR4.out⟩
end
