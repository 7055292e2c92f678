import Derived.Test.YtogijkhenihaaaaGreatDoorGT18
import Derived.ProofKit
import Derived.LaidMore
import Derived.OpenShut
import Derived.Stop.Joined
set_option linter.all false
set_option maxRecDepth 100000
set_option maxHeartbeats 0
namespace Go.Proofs.YtogijkhenihaaaaGreatDoor
open Lib (hid)
open Go.RowKit
section
open Go.BigFrame
namespace Top
open Id Chk Ev
theorem TS(W:World)(rn:ByteArray):bf (W.alloc (.cells #[.int .u8 7,.string rn] 44)) none (.slice (some ⟨W.heap.size,0,none⟩) 1 1) [⟨7,rn⟩]:=by
 refine⟨[[.int .u8 7,.string rn]],rfl,by simp,⟨rfl,_,_,rfl,xB _,by decide,(λe=>by cases e),λ_=>⟨_,_,rfl,λj u hu=>?_⟩⟩,λi h h'=>?_⟩
 ·rw[Nat.zero_add,World.cell?_alloc_mark]
  simpa using hu
 ·obtain rfl:i=0:=by simpa using h
  rfl
theorem LM(x:Sch):(Prn.print x).1<18446744073709551616:=by
 unfold Prn.print;split
 ·show 0<_
  decide
 ·exact Sm.Uo _
theorem Un{x:Sch}(h:(Prn.text x).2=0):(Prn.print x).2=0:=by
 unfold Prn.print;rw[if_neg (by rw[h];simp)]
structure Bx(w:World)(g:Nat)(S:Array Value)(W:World):Prop where
 bel:Below w.heap.size w W
 s:Bk W g 28 S
 lo:w.heap.size<=g
theorem Bx.below{w W W':World}{g:Nat}{S:Array Value}(h:Bx w g S W)(hb:Below W.heap.size W W'):Bx w g S W':=⟨h.bel.trans (hb.mono h.bel.size),h.s.below hb h.s.lt,h.lo⟩
structure By(w:World)(g g2:Nat)(S S2:Array Value)(W:World):Prop where
 x:Bx w g S W
 y:Bk W g2 28 S2
theorem By.below{w W W':World}{g g2:Nat}{S S2:Array Value}(h:By w g g2 S S2 W)(hb:Below W.heap.size W W'):By w g g2 S S2 W':=⟨h.x.below hb,h.y.below hb h.y.lt⟩
end Top
theorem Ia(tx:ByteArray)(wh:Int)(vs:Value)(v:List Vl.Node)(key b:ByteArray)(h0:tx.size<=maxLen)(h1:(Lit.int .u8 wh).wf=true)(w0:World)(hvv:Vl.fP w0 none vs v)(hok:∀ n∈v,Cd.OkN n)(h3:key.size<=maxLen)(h4:b.size<=maxLen)(w:World)(he:w=w0)(hk:Tk.KW w) :
  Calls Tryz.prog 3 #[.string tx,.int .u8 wh,vs,.string key,.string b] w λe w'=>e=.returned (.bool true)/\Below w.heap.size w w':=by
 subst he;have HKW:=hid hk;have HVV:=hid hvv;have HOK:=hid hok;obtain⟨A9,n9,c9,rfl⟩:=ah.is hvv;obtain⟨wn,rfl,hwn⟩:∃ m:Nat,wh=m/\m<256:=by
  have e1:IntKind.u8.min=0:=rfl;have e2:IntKind.u8.max=255:=rfl;simp[Lit.wf]at h1;exact⟨wh.toNat,by omega,by omega⟩
 have done:∀ W,Below w.heap.size w W->Calls Tryz.prog 12 #[] W λe w'=>e=.returned (.bool true)/\Below w.heap.size w w':=λW hW=>(I5 W (HKW.out.below hW)).mono λ_ _ ⟨h1,h2⟩=>⟨h1,hW.trans (h2.mono hW.size)⟩
 have HDN:=hid done;have HWN:=hid hwn;clear hk hvv hok done h0 h1 h3 h4 hwn;go_enter Tryz.func3,Tryz.ntmps3;rcases(Classical.em (5000<tx.size))with g1|g1<;>rcases(Classical.em (4096<b.size))with g2|g2
 case' inl.inl =>
  have i1:(5000:Int)<(tx.size:Int):=by omega
  have i2:(4096:Int)<(b.size:Int):=by omega
  go_upto_region 5 with(fail)
  obtain⟨s,Hs⟩:∃ s,Hid (tx.extract 0 5000=s):=⟨_,hid rfl⟩;rw[Hs.out];have hs:s.size<=5000:=by rw[<-Hs.out,ByteArray.size_extract];omega
  clear Hs;obtain⟨bb,Hb⟩:∃ s,Hid (b.extract 0 4096=s):=⟨_,hid rfl⟩;rw[Hb.out];have hbb:bb.size<=4096:=by rw[<-Hb.out,ByteArray.size_extract];omega
  clear Hb;clear g1 g2 i1 i2
 case' inl.inr =>
  have i1:(5000:Int)<(tx.size:Int):=by omega
  have i2:¬(4096:Int)<(b.size:Int):=by omega
  go_upto_region 5 with(fail)
  obtain⟨s,Hs⟩:∃ s,Hid (tx.extract 0 5000=s):=⟨_,hid rfl⟩;rw[Hs.out];have hs:s.size<=5000:=by rw[<-Hs.out,ByteArray.size_extract];omega
  clear Hs;obtain⟨bb,rfl⟩:∃ s,s=b:=⟨_,rfl⟩;have hbb:bb.size<=4096:=by omega
  clear g1 g2 i1 i2
 case' inr.inl =>
  have i1:¬(5000:Int)<(tx.size:Int):=by omega
  have i2:(4096:Int)<(b.size:Int):=by omega
  go_upto_region 5 with(fail)
  obtain⟨s,rfl⟩:∃ s,s=tx:=⟨_,rfl⟩;have hs:s.size<=5000:=by omega
  obtain⟨bb,Hb⟩:∃ s,Hid (b.extract 0 4096=s):=⟨_,hid rfl⟩;rw[Hb.out];have hbb:bb.size<=4096:=by rw[<-Hb.out,ByteArray.size_extract];omega
  clear Hb;clear g1 g2 i1 i2
 case' inr.inr =>
  have i1:¬(5000:Int)<(tx.size:Int):=by omega
  have i2:¬(4096:Int)<(b.size:Int):=by omega
  go_upto_region 5 with(fail)
  obtain⟨s,rfl⟩:∃ s,s=tx:=⟨_,rfl⟩;have hs:s.size<=5000:=by omega
  obtain⟨bb,rfl⟩:∃ s,s=b:=⟨_,rfl⟩;have hbb:bb.size<=4096:=by omega
  clear g1 g2 i1 i2
 all_goals
  go_wp2_with fail;refine(yZ s (by omega) _ HKW.out).mono ?_;rintro e W1⟨sv,rfl,hb1,hsv⟩;have hwide:=Qm.OH hs;have hto:=λh hc=>Top.WG (s:=s) h hs hc
  obtain⟨⟨x,pl,er⟩,HP⟩:∃ P,Hid (Id.parse s=P):=⟨_,hid rfl⟩;rw[HP.out]at hsv hwide hto ⊢;simp only at hsv hwide hto ⊢;have HB1:=hid hb1;have Wn:=hid hwide;have HTO:=hid hto;have HV1:=hid (Id.aY.weak (Id.BR _) hsv:Id.aY W1 none sv x);clear hb1 hsv hwide hto HP;obtain⟨A1,n1,c1,A2,n2,c2,A3,n3,c3,rfl,hrec,-,-⟩:=HV1.out;have HN1:Hid (n1=x.records.length):=hid (by obtain⟨_,_,e,_⟩:=ah.slice hrec;injection e);clear hrec;go_upto_region 6 with(fail)
  refine ak (λV2 hV=>?_);obtain⟨hb2,hq2,-⟩:=ay hV;have HX:Hid (Top.Bx w W1.heap.size #[.string x.name,.slice A1 n1 c1,.slice A2 n2 c2,.slice A3 n3 c3] V2):=hid ⟨HB1.out.trans (hb2.mono HB1.out.size),hq2,HB1.out.size⟩;have HV:=hid (Id.aY.below hb2 HV1.out);have HVB:Hid (∀ W,Below V2.heap.size V2 W->Id.aY W none (.agg #[.string x.name,.slice A1 n1 c1,.slice A2 n2 c2,.slice A3 n3 c3]) x):=hid (λW h=>Id.aY.below h HV.out);clear hV hb2 hq2 HV1 HB1;obtain⟨g,Hg⟩:∃ g,Hid (W1.heap.size=g):=⟨_,hid rfl⟩;rw[Hg.out]at HX ⊢;clear Hg;have hL:V2.heap[g]?=some (.cells _ _ (0,0)):=HX.out.s;go_wp2_with(refine wpList_load_row rfl _ _ rfl _ rfl _ _ _ _ hL Tryz.underlying28 rfl (by kernel_rfl) ?_);refine(Dj _ x Wn.out _ (HKW.out.below HX.out.bel) HV.out).mono ?_;obtain⟨⟨cw,ec⟩,HC⟩:∃ P,Hid (Chk.check x=P):=⟨_,hid rfl⟩;rw[HC.out];simp only;rintro e W3⟨rfl,hb3⟩;have HX3:=hid (HX.out.below hb3);have HV3:=hid (HVB.out W3 hb3);have VQ:=hid hb3;clear hb3 hL HX Wn;have c1f:=HX3.out.s.cell 1;simp only[List.getElem?_toArray,List.getElem?_cons_zero,List.getElem?_cons_succ]at c1f;by_cases her:er=0
  case neg =>
   have t1:((er:Int) != 0)=true:=by rw[bne_iff_ne];omega
   go_wp2_with fail;refine(HDN.out _ HX3.out.bel).mono ?_;rintro e W9⟨rfl,hb9⟩;go_wp2_with fail;go_ret;exact⟨rfl,hb9⟩
  subst her;simp only[xY];by_cases hec:ec=0
  case neg =>
   have t1:((ec:Int) != 0)=true:=by rw[bne_iff_ne];omega
   go_wp2_with fail;refine(HDN.out _ HX3.out.bel).mono ?_;rintro e W9⟨rfl,hb9⟩;go_wp2_with fail;go_ret;exact⟨rfl,hb9⟩
  subst hec;simp only[xY];have HCK:Hid ((Chk.check x).2=0):=hid (by rw[HC.out]);have HTX:Hid (Prn.text x=(Prn.jn (Prn.iW x),0)):=hid (HTO.out rfl HCK.out);clear HTO HC;by_cases hn1:n1=0
  case pos =>
   have t1:((n1:Int)==0)=true:=by rw[beq_iff_eq];omega
   go_wp2_with fail;refine(HDN.out _ HX3.out.bel).mono ?_;rintro e W9⟨rfl,hb9⟩;go_wp2_with fail;go_ret;exact⟨rfl,hb9⟩
  have t1:((n1:Int)==0)=false:=by rw[xG];omega
  have hL:W3.heap[g]?=some (.cells _ _ (0,0)):=HX3.out.s;go_wp2_with((refine Sg.kE (by kernel_rfl) _ _ rfl _ rfl _ _ _ hL Tryz.underlying28 rfl (by kernel_rfl) ?_));refine(NP _ x _ [] _ v _ HV3.out (ah.Jv _ _ _ _) (Vl.fP.below HVV.out HX3.out.bel)).mono ?_;rintro e W4⟨gr,rfl,hb4,hg⟩;have HX4:=hid (HX3.out.below hb4);have Qu:=hid (VQ.out.trans (hb4.mono VQ.out.size));have HG:=hid hg;clear hb4 hL hg HX3 HV3 VQ c1f;cases gr
  case true =>
   go_wp2_with fail;refine(HDN.out _ HX4.out.bel).mono ?_;rintro e W9⟨rfl,hb9⟩;go_wp2_with fail;go_ret;exact⟨rfl,hb9⟩
  have HFV:=hid (HG.out rfl);have HF:=hid HFV.out.sch.fine;have HL9:Hid (v.length<=100000):=hid (xM HFV.out.vl (by decide));have HZ9:Hid (∀ n∈v,n.text.size<=100000):=hid (λn hn=>by obtain⟨i,hi,rfl⟩:=List.getElem_of_mem hn;exact xM (HFV.out.tx i hi) (by decide));clear HG HFV t1;obtain⟨C,HCN⟩:∃ C,Hid (Prn.jn (Prn.iW x)=C):=⟨_,hid rfl⟩;rw[HCN.out]at HTX;have HPC:Hid (Id.parse C=(x,0,0)):=hid (Prn.NT HTX.out);have hcz:C.size<=65536:=by have h:=Prn.text_size x;rw[HTX.out]at h;exact h
  have HCZ:=hid hcz;clear hcz HCN;have hL:W4.heap[g]?=some (.cells _ _ (0,0)):=HX4.out.s;have htext:=Gs _ x HF.out _ (HKW.out.below HX4.out.bel) (HVB.out W4 Qu.out);rw[HTX.out]at htext;have htext:Calls Tryz.prog 13 #[.agg #[.string x.name,.slice A1 n1 c1,.slice A2 n2 c2,.slice A3 n3 c3]] W4 λe w'=>e=.returned (.tuple #[.string C,.int .i64 0])/\Below W4.heap.size W4 w':=htext
  have Wp:=hid htext;clear htext;go_wp2_with(refine wpList_load_row rfl _ _ rfl _ rfl _ _ _ _ hL Tryz.underlying28 rfl (by kernel_rfl) ?_);refine Wp.out.mono ?_;rintro e W5⟨rfl,hb5⟩;have HX5:=hid (HX4.out.below hb5);have VP:=hid (Qu.out.trans (hb5.mono Qu.out.size));clear hb5 hL HX4 Qu Wp;go_wp2_with fail;refine(yZ C (by have:=HCZ.out;omega) _ (HKW.out.below HX5.out.bel)).mono ?_;rw[HPC.out];rintro e W6⟨sv2,rfl,hb6,Y0⟩;have HX6:=hid (HX5.out.below hb6);have VO:=hid (VP.out.trans (hb6.mono VP.out.size));have HY6:=hid (Id.aY.weak (Id.BR _) Y0:Id.aY W6 none sv2 x);clear hb6 Y0 HX5 VP;obtain⟨B1,m1,d1,B2,m2,d2,B3,m3,d3,rfl,-,-,-⟩:=HY6.out;simp only;go_upto_region 11 with(fail)
  refine ak (λV7 hV=>?_);obtain⟨hb7,hq7,-⟩:=ay hV;have HY:Hid (Top.By w g W6.heap.size #[.string x.name,.slice A1 n1 c1,.slice A2 n2 c2,.slice A3 n3 c3] #[.string x.name,.slice B1 m1 d1,.slice B2 m2 d2,.slice B3 m3 d3] V7):=hid ⟨HX6.out.below hb7,hq7⟩;have HB7:=hid (VO.out.trans (hb7.mono VO.out.size));have HY7:=hid (Id.aY.below hb7 HY6.out);have xq:Hid (∀ W,Below V7.heap.size V7 W->Id.aY W none (.agg #[.string x.name,.slice A1 n1 c1,.slice A2 n2 c2,.slice A3 n3 c3]) x/\Id.aY W none (.agg #[.string x.name,.slice B1 m1 d1,.slice B2 m2 d2,.slice B3 m3 d3]) x):=hid (λW h=>⟨HVB.out W (HB7.out.trans (h.mono HB7.out.size)),Id.aY.below h HY7.out⟩);clear hV hb7 hq7 HX6 HY6 VO HB7 HY7 HVB;obtain⟨g2,Hg⟩:∃ g,Hid (W6.heap.size=g):=⟨_,hid rfl⟩;rw[Hg.out]at HY ⊢;clear Hg;obtain⟨⟨p,pe⟩,HPR⟩:∃ P,Hid (Prn.print x=P):=⟨_,hid rfl⟩;have hpe:pe=0:=by have h:=Top.Un (x:=x) (by rw[HTX.out]);rw[HPR.out]at h;exact h
  have hpl:p<18446744073709551616:=by have h:=Top.LM x;rw[HPR.out]at h;exact h
  subst hpe;have aap:=hid hpl;clear hpl;have hL:V7.heap[g]?=some (.cells _ _ (0,0)):=HY.out.x.s;go_wp2_with(refine wpList_load_row rfl _ _ rfl _ rfl _ _ _ _ hL Tryz.underlying28 rfl (by kernel_rfl) ?_);refine(zf _ x HF.out _ (HKW.out.below HY.out.x.bel) (xq.out _ (Below.refl _ _)).1).mono ?_;rw[HPR.out];rintro e W8⟨rfl,hb8⟩;have HY8:=hid (HY.out.below hb8);have HB8:=hid hb8;clear hb8 hL HY;simp only[xY];have hL:W8.heap[g2]?=some (.cells _ _ (0,0)):=HY8.out.y;go_wp2_with(refine wpList_load_row rfl _ _ rfl _ rfl _ _ _ _ hL Tryz.underlying28 rfl (by kernel_rfl) ?_);refine(zf _ x HF.out _ (HKW.out.below HY8.out.x.bel) (xq.out _ HB8.out).2).mono ?_;rw[HPR.out];rintro e W9⟨rfl,hb9⟩;have HY9:=hid (HY8.out.below hb9);have HB9:=hid (HB8.out.trans (hb9.mono HB8.out.size));clear hb9 hL HY8 HB8;simp only[xY];have hL:W9.heap[g]?=some (.cells _ _ (0,0)):=HY9.out.x.s;have hL2:W9.heap[g2]?=some (.cells _ _ (0,0)):=HY9.out.y;go_wp2_with(first|(refine Sg.kE (by kernel_rfl) _ _ rfl _ rfl _ _ _ hL Tryz.underlying28 rfl (by kernel_rfl) ?_)|(refine Sg.kE (by kernel_rfl) _ _ rfl _ rfl _ _ _ hL2 Tryz.underlying28 rfl (by kernel_rfl) ?_));refine(Oi x x _ _ _ (xq.out _ HB9.out).1 (xq.out _ HB9.out).2).mono ?_;rw[Id.Oh];rintro e W10⟨rfl,F6⟩;have V8:=hid (HY9.out.below F6);have Qx:=hid (HB9.out.trans (F6.mono HB9.out.size));clear F6 hL hL2 HY9 HB9;go_upto_region 15 with(fail)
  obtain⟨K,HK⟩:∃ K:Nat,Hid (wn % n1=K):=⟨_,hid rfl⟩;have hKn:K<n1:=by rw[<-HK.out];exact Nat.mod_lt _ (by omega)
  have hKl:K<x.records.length:=by rw[<-HN1.out];exact hKn
  obtain⟨rn,HRN⟩:∃ rn,Hid (x.records[K].name=rn):=⟨_,hid rfl⟩;obtain⟨U1,u1,d1',U2,u2,d2',U3,u3,d3',Pj,hrow,-,-⟩:=(xq.out _ Qx.out).1;injection Pj with Pj
  simp only[Array.mk.injEq,List.cons.injEq,Value.slice.injEq,true_and,and_true]at Pj;obtain⟨⟨rfl,rfl,rfl⟩,⟨rfl,rfl,rfl⟩,⟨rfl,rfl,rfl⟩⟩:=Pj;obtain⟨ga,ZG,cs,hA1,-,hel,hcs⟩:=ah.get hrow hKl (by omega);have a0:∃ T,cs[0]?=some T/\T=.string rn:=by
   generalize x.records[K]=r at hel HRN;obtain⟨r0,rc,rf⟩:=r;obtain⟨u,rfl,-⟩:=hel;exact⟨_,rfl,by rw[<-HRN.out]⟩
  obtain⟨_,a1,rfl⟩:=a0;have a2:=hcs 0 _ a1;simp only[xK]at a2;subst hA1;have hkm:(wn:Int) % (n1:Int)=(K:Int):=by rw[<-HK.out];omega
  have ZL:(0:Int)<=(wn:Int):=by omega
  have hn0:¬(n1:Int)=0:=by omega
  have hK0:(0:Int)<=(K:Int):=by omega
  have hKi:(K:Int)<(n1:Int):=by omega
  have hww:IntKind.i64.wrap (wn:Int)=(wn:Int):=by have:=HWN.out;rw[IntKind.wrap_i64];omega
  have hb1:=V8.out.x.s.cell 1;simp only[List.getElem?_toArray,List.getElem?_cons_zero,List.getElem?_cons_succ]at hb1;clear hrow hel hcs a1;go_region;have hbA:Below W10.heap.size W10 (W10.alloc (.cells #[.int .u8 7,.string rn] 44)).drew:=((Below.refl _ _).alloc (xB _) _).drew;have HTS:Hid (Id.bf (W10.alloc (.cells #[.int .u8 7,.string rn] 44)).drew none (.slice (some ⟨W10.heap.size,0,none⟩) 1 1) [⟨7,rn⟩]):=hid (Id.bf.below (Top.TS W10 rn) ((Below.refl _ _).drew));have Qp:=hid (V8.out.below hbA);have Qw:=hid (Qx.out.trans (hbA.mono Qx.out.size));clear hbA a2 hb1 V8 Qx hkm ZL hn0 hK0 hKi hww hKn hKl HRN HK;generalize(W10.alloc (.cells #[.int .u8 7,.string rn] 44)).drew=V11 at *;generalize W10.heap.size=gt at *;have hL:V11.heap[g]?=some (.cells _ _ (0,0)):=Qp.out.x.s;go_wp2_with(refine wpList_load_row rfl _ _ rfl _ rfl _ _ _ _ hL Tryz.underlying28 rfl (by kernel_rfl) ?_);refine(Di _ x HF.out _ [⟨7,rn⟩] bb (by omega) _ (HKW.out.below Qp.out.x.bel) (xq.out _ Qw.out).1 HTS.out).mono ?_;obtain⟨⟨dl,da,de⟩,HD⟩:∃ P,Hid (Cd.decP x [⟨7,rn⟩] bb.data.toList=P):=⟨_,hid rfl⟩;rw[HD.out];rintro e W12⟨dv,rfl,DF,hdv⟩;have HDO:=hid (Cd.Xx HF.out HD.out);have HDV:=hid (Vl.fP.none hdv);obtain⟨A8,n8,c8,rfl⟩:=ah.is hdv;have FK:=hid (Qp.out.below DF);have zZ:=hid (Qw.out.trans (DF.mono Qw.out.size));have KY:=hid (Id.bf.below HTS.out DF);clear DF hdv hL Qp Qw HTS HD;simp only;by_cases hde:de=0
  case' pos =>
   subst hde;simp only[xY];obtain⟨-,hfit,henc,hok2,hlen2,Yz⟩:=HDO.out.1 rfl;have YC:=Cd.Xu henc;have hL:W12.heap[g2]?=some (.cells _ _ (0,0)):=FK.out.y;go_wp2_with(refine wpList_load_row rfl _ _ rfl _ rfl _ _ _ _ hL Tryz.underlying28 rfl (by kernel_rfl) ?_);have hce:=Dh _ x HF.out _ [⟨7,rn⟩] _ dl (xM hlen2 (by decide)) (λn hn=>xM (Yz n hn) (by decide)) hok2 _ (HKW.out.below FK.out.x.bel) (xq.out _ zZ.out).2 KY.out HDV.out;rw[hfit,YC]at hce;refine hce.mono ?_;rintro e X⟨rfl,P5⟩;have HYX:=hid (FK.out.below P5);have HBX:=hid (zZ.out.trans (P5.mono zZ.out.size));have Qq:=hid (Id.bf.below KY.out P5);clear P5 hL hce hfit henc hok2 hlen2 Yz YC FK zZ KY HDO HDV;simp only[xY];go_upto_region 21 with(fail)
  case' neg =>
   have t1:((de:Int)==0)=false:=by rw[xG];omega
   go_upto_region 21 with(fail)
   obtain⟨X,rfl⟩:∃ X,X=W12:=⟨_,rfl⟩;have HYX:=FK;have HBX:=zZ;have Qq:=KY;clear t1 hde FK zZ KY HDO HDV
  all_goals
   have hL:X.heap[g]?=some (.cells _ _ (0,0)):=HYX.out.x.s;go_wp2_with(refine wpList_load_row rfl _ _ rfl _ rfl _ _ _ _ hL Tryz.underlying28 rfl (by kernel_rfl) ?_);refine(Dh _ x HF.out _ [⟨7,rn⟩] _ v HL9.out HZ9.out HOK.out _ (HKW.out.below HYX.out.x.bel) (xq.out _ HBX.out).1 Qq.out (Vl.fP.below HVV.out HYX.out.x.bel)).mono ?_;obtain⟨R,HR⟩:∃ R,Hid (Vl.fits x [⟨7,rn⟩] v=R):=⟨_,hid rfl⟩;rw[HR.out];obtain⟨E,HE⟩:∃ E,Hid (Cd.zQ R v=E):=⟨_,hid rfl⟩;rw[HE.out];rintro e W14⟨rfl,Pz⟩;have KX:=hid (HYX.out.below Pz);have Qv:=hid (HBX.out.trans (Pz.mono HBX.out.size));have VA:=hid (Id.bf.below Qq.out Pz);clear Pz hL HYX HBX Qq;have hL:W14.heap[g2]?=some (.cells _ _ (0,0)):=KX.out.y;go_wp2_with(refine wpList_load_row rfl _ _ rfl _ rfl _ _ _ _ hL Tryz.underlying28 rfl (by kernel_rfl) ?_);refine(FU _ x HF.out _ [⟨7,rn⟩] _ v HL9.out HZ9.out _ (HKW.out.below KX.out.x.bel) (xq.out _ Qv.out).2 VA.out (Vl.fP.below HVV.out KX.out.x.bel)).mono ?_;rw[HR.out];rintro e W15⟨rfl,Py⟩;have DV:=hid (KX.out.below Py);have aa2:=hid (Qv.out.trans (Py.mono Qv.out.size));have aai:=hid (Id.bf.below VA.out Py);clear Py hL KX Qv VA;by_cases hR:R=0
   case neg =>
    have t1:((R:Int) != 0)=true:=by rw[bne_iff_ne];omega
    go_wp2_with fail;refine(HDN.out _ DV.out.x.bel).mono ?_;rintro e W9⟨rfl,hb9⟩;go_wp2_with fail;go_ret;exact⟨rfl,hb9⟩
   subst hR;simp only[xY];by_cases hE:4096<E.size
   ·have t2:(4096:Int)<(E.size:Int):=by omega
    go_wp2_with fail;refine(HDN.out _ DV.out.x.bel).mono ?_;rintro e W9⟨rfl,hb9⟩;go_wp2_with fail;go_ret;exact⟨rfl,hb9⟩
   have t2:¬(4096:Int)<(E.size:Int):=by omega
   have HBF:=hid (Cd.Ql (B:=E) HR.out HOK.out (by rw[<-HE.out];unfold Cd.zQ;rw[if_pos rfl]));have hL:W15.heap[g]?=some (.cells _ _ (0,0)):=DV.out.x.s;go_wp2_with(refine wpList_load_row rfl _ _ rfl _ rfl _ _ _ _ hL Tryz.underlying28 rfl (by kernel_rfl) ?_);refine(NS _ x HF.out _ [⟨7,rn⟩] _ v HL9.out E key (by omega) HBF.out.2.2 p aap.out _ (HKW.out.below DV.out.x.bel) (xq.out _ aa2.out).1 aai.out (Vl.fP.below HVV.out DV.out.x.bel)).mono ?_;rintro e W16⟨rfl,hb16⟩;have aah:=hid (DV.out.below hb16);clear hb16 hL DV t2;go_wp2_with fail;refine(HDN.out _ aah.out.x.bel).mono ?_;rintro e W9⟨rfl,hb9⟩;go_wp2_with fail;go_ret;exact⟨rfl,hb9⟩
end
section
open Go.ChangeAt Go.ChangeShapes Go.WideShapes
namespace Kw
theorem gK : Tryz.prog.globalNamed "redress/token.keywords" = some 0 := by kernel_rfl
theorem tK:(Tryz.prog.globals[0]?).map (·.type)=some 267:=by kernel_rfl
theorem c9:Tryz.prog.cellsOf 9=1:=by kernel_rfl
abbrev EC : List (String × DataW Unit) := [("math/bits.deBruijn32tab", Rows.laid_math_bits_deBruijn32tab), ("math/bits.deBruijn64tab", Rows.laid_math_bits_deBruijn64tab), ("internal/strconv.uint64pow10", Rows.laid_internal_strconv_uint64pow10), ("redress/token.keywords", Rows.laid_redress_token_keywords)]
theorem door_met(os:Os)(args:Array Value):laidMetH Tryz.prog EC ((World.doorLaid Tryz.prog 400 os).forCall (λ_ _=>0) ⟨#[],args,[]⟩).memory :=
 laidMetH_of_parts3 (fuel:=8) (laidMet_of_run' 8 (by kernel_rfl) (by kernel_rfl)) (by kernel_rfl) (by kernel_rfl)
theorem data_eq:(Rows.laid_redress_token_keywords:DataW Unit)=.agg (Tk.words.map λx=>.lit (.string x.data.toList)):=by kernel_rfl
theorem of_laid{W:World}(h:laidMetH Tryz.prog EC W):Tk.KW W:=by
 rw[MakeChecks.laidMetH_plain _ _ _ (by kernel_rfl)]at h;obtain⟨ps,hps,_,_⟩:=h;obtain⟨_,_,_,_,_,_,_,_,_,_,hps,_⟩:=hps;obtain⟨_,_,_,_,_,_,_,_,_,_,hps,_⟩:=hps;obtain⟨_,_,_,_,_,_,_,_,_,_,hps,_⟩:=hps;obtain⟨g0,t0,cs0,f0,p0,q0,hg0,ht0,hv0,hd0,_⟩:=hps;obtain rfl:=Option.some.inj (gK.symm.trans hg0);obtain rfl:=Option.some.inj (tK.symm.trans ht0);obtain⟨xs,m1,rfl,hx1,hlen,hn,hel⟩:=DataW.trod_array Tryz.underlying267 hd0;simp only[Prod.mk.injEq]at hx1;have hx2:(Tk.words.map λx=>(DataW.lit (.string x.data.toList):DataW Unit))=xs.map (·.1):=by
  have:=hx1.1;rw[data_eq]at this;injection this
 have key:∀ j,j<Tk.words.length->W.cell? ⟨0,0+j,none⟩=some (.string (Tk.words.getD j ByteArray.empty)):=by
  intro j hj;have ZT:j<17:=hj;have h1:=hel j ZT;rw[c9]at h1;have hjx:j<xs.length:=by omega
  rw[yF hjx]at h1;obtain⟨s,e1,e2,_⟩:=DataW.trod_string Tryz.underlying9 h1;have h3:(xs.map (·.1))[j]?=some (DataW.lit (.string Tk.words[j].data.toList)):=by
   rw[<-hx2,List.getElem?_map,yF hj];rfl
  rw[List.getElem?_map,yF hjx,e2]at h3;simp only[Option.map_some,Option.some.injEq,DataW.lit.injEq,Lit.string.injEq]at h3;have hs:s=Tk.words[j]:=by
   cases s
   cases hw:Tk.words[j]
   rw[hw]at h3;simp only at h3;rw[Array.toList_inj.1 h3]
  have hc:=World.var?_cell hg0 hv0 j;rw[Nat.zero_add,hc];have e4:cs0.toList[j]?=some (.string s):=by
   have:((cs0.toList.drop (j * 1)).take 1)[0]?=some (.string s):=by rw[e1];rfl
   rw[List.getElem?_take_of_lt (by omega),List.getElem?_drop]at this;simpa using this
  have e5:Tk.words.getD j ByteArray.empty=s:=by rw[hs,yG,yF hj];rfl
  rw[e5];simpa using e4
 refine⟨?_,key⟩;exact xH W _ (key 0 (by decide))
end Kw
end
