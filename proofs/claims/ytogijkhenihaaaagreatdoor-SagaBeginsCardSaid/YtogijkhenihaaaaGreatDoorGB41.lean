import Derived.Test.YtogijkhenihaaaaGreatDoorGB37
import Derived.Test.YtogijkhenihaaaaGreatDoorGB38
import Derived.Test.YtogijkhenihaaaaGreatDoorGB39
import Derived.Test.YtogijkhenihaaaaGreatDoorGB40
import Derived.Test.YtogijkhenihaaaaGreatDoorGB33
set_option linter.all false
set_option maxRecDepth 100000
set_option maxHeartbeats 0
namespace Go.Proofs.YtogijkhenihaaaaGreatDoor
open Lib (hid)
open Go.BigFrame Go.RowKit
theorem Jf(s:Id.Sch)(hF:Chk.Fine s)(hR:Chk.Right s)(q:Cd.Q4)(bb:ByteArray)(hbb:bb.size<=1000000)(w0:World)(hs:Id.ay w0 none (Cd.qK q) s)(k:Nat)(hk:k+1<=12)(ih:Cd.og s q bb w0 k):Cd.og s q bb w0 (k+1):=by
 intro tv t x vv w ht h12 hx hb0 hrow hst;by_cases hf:Cd.full x
 ·exact EK s hF hR q bb hbb w0 hs k hk ih tv t x vv w (λ_ _ _=>.inl hf) ht h12 hx hb0 hrow hst
 obtain⟨y,l,rfl⟩:∃ y l,t=y::l:=List.exists_cons_of_ne_nil (Vl.lJ ht);have hy:∀(y':Id.Srt)(l':List Id.Srt),y::l=y'::l'->y'=y:=λy' l' e=>by injection e with e1;exact e1.symm
 rcases Vl.pF ht with h|h|h|h
 ·exact EK s hF hR q bb hbb w0 hs k hk ih tv _ x vv w (λy' l' e=>.inr (by rw[hy y' l' e];exact h)) ht h12 hx hb0 hrow hst
 ·exact EJ s hF hR q bb hbb w0 hs k hk ih tv _ x vv w (λy' l' e=>⟨hf,.inl (by rw[hy y' l' e];exact h)⟩) ht h12 hx hb0 hrow hst
 ·exact EJ s hF hR q bb hbb w0 hs k hk ih tv _ x vv w (λy' l' e=>⟨hf,.inr (by rw[hy y' l' e];exact h)⟩) ht h12 hx hb0 hrow hst
 ·obtain⟨r,hr⟩:=Option.isSome_iff_exists.1 h.2.2
  cases hc:r.choice
  ·exact Ob s hF hR q bb hbb w0 hs k hk ih tv _ x vv w (λy' l' e=>⟨hf,by rw[hy y' l' e];exact h.1,λr' hr'=>by rw[hy y' l' e,hr]at hr';injection hr' with e2;rw[<-e2];exact hc⟩) ht h12 hx hb0 hrow hst
  ·exact Oc s hF hR q bb hbb w0 hs k hk ih tv _ x vv w (λy' l' e=>⟨hf,by rw[hy y' l' e];exact h.1,λr' hr'=>by rw[hy y' l' e,hr]at hr';injection hr' with e2;rw[<-e2];exact hc⟩) ht h12 hx hb0 hrow hst
theorem CQ(s:Id.Sch)(hF:Chk.Fine s)(hR:Chk.Right s)(q:Cd.Q4)(bb:ByteArray)(hbb:bb.size<=1000000)(w0:World)(hs:Id.ay w0 none (Cd.qK q) s):∀ k,k<=12->Cd.og s q bb w0 k
 |0,_=>Je s q bb w0
 |k+1,hk=>Jf s hF hR q bb hbb w0 hs k hk (CQ s hF hR q bb hbb w0 hs k (by omega))
def Cd.Um(w:World)(R:Nat)(e:Ending)(w':World):Prop:=∃(vv:Value)(p:Nat),e=.returned (.tuple #[vv,.int .i64 (p:Nat),.int .i64 (R:Nat)])/\Below w.heap.size w w'
theorem Gu(sv:Value)(x:Id.Sch)(hF:Chk.Fine x)(tv:Value)(t:List Id.Srt)(bb:ByteArray)(hbb:bb.size<=1000000)(w:World)(hv:Id.ay w none sv x)(ht:Id.bG w none tv t) :
  Calls Tryz.prog 155 #[sv,tv,.string bb] w (Cd.Um w (Cd.decP x t bb.data.toList).2.2):=by
 obtain⟨R,HR⟩:∃ R,Hid ((Cd.decP x t bb.data.toList).2.2=R):=⟨_,hid rfl⟩;rw[HR.out];unfold Cd.decP at HR;have HF:=hid hF;have HV:=hid hv;have HS:=hid ht;obtain⟨A1,n1,c1,A2,n2,c2,A3,n3,c3,rfl,-,-,-⟩:=hv;clear hF ht;go_enter Tryz.func155,Tryz.ntmps155;go_upto_region 1 with(fail)
 refine aj (λV hV=>?_);have HL:=hid (Chk.Lx.start hV);clear hV;obtain⟨⟨q0,q1,q2,q3⟩,-⟩:=HL.out.box.k4;go_wp2_with fail;refine(IY _ x HF.out _ t _ (Id.ay.below HL.out.bel HV.out) (ah.below HS.out HL.out.bel (λ_ _ h=>h))).mono ?_;obtain⟨T,HT⟩:∃ T,Hid (Vl.oK x t=T):=⟨_,hid rfl⟩;rw[HT.out];rw[HT.out]at HR;rintro e W1⟨rfl,hb⟩;have HL1:=hid (HL.out.below hb);clear hb q0 q1 q2 q3 HL;by_cases hT:T=0
 case neg =>
  have HE:Hid (T=R):=hid (by rw[<-HR.out,if_pos hT]);have t1:((T:Int) != 0)=true:=by rw[bne_iff_ne];omega
  have t2:¬(T:Int)=0:=by omega
  go_wp2_with fail;go_ret3;exact⟨.slice none 0 0,0,by rw[<-HE.out];rfl,HL1.out.bel⟩
 subst hT;have HTY:Hid (Chk.Right x/\Chk.right x t=true):=hid (Vl.Lc HT.out);have HRP:Hid ((match Cd.aY x bb.data.toList 12 t ⟨0,[],0⟩with
  | .error p=>p.2
  | .ok y=>if y.at_<bb.size then 162 else 0:Nat)=R):=hid (by
   rw[<-HR.out,if_neg (by simp),show bb.data.toList.length=bb.size by simp];cases Cd.aY x bb.data.toList 12 t ⟨0,[],0⟩with
   |error p=>rfl
   |ok y=>(simp only;split<;>rfl))
 clear HR HT;simp only[xY];have HV1:=hid (Id.ay.below HL1.out.bel HV.out);have HS1:Hid (Id.bG W1 none tv t):=hid (ah.below HS.out HL1.out.bel (λ_ _ h=>h));obtain⟨⟨q0,q1,q2,q3⟩,-⟩:=HL1.out.box.k4;have hl:=Sg.bk HL1.out.box;go_upto_region 5 with(first|(refine wpList_load_row rfl _ _ rfl _ rfl _ _ _ _ hl Tryz.underlying28 rfl (by kernel_rfl) ?_))
 refine aj (λV2 hV2=>?_);obtain⟨hb2,hq2,-⟩:=au hV2;clear hV2 q0 q1 q2 q3 hl;obtain⟨g,hg⟩:∃ g,W1.heap.size=g:=⟨_,rfl⟩;have hgw:w.heap.size<g:=by rw[<-hg];have:=HL1.out.box.lt;omega
 obtain⟨ho1,ho2⟩:=Vl.lZ HTY.out.2;have hp:=CQ x HF.out HTY.out.1 ⟨x.name,A1,n1,c1,A2,n2,c2,A3,n3,c3⟩ bb hbb W1 HV1.out 12 (xB _) tv t ⟨0,[],0⟩ ⟨none,0,0⟩ V2 ho1 ho2 ⟨Nat.zero_le _,Nat.zero_le _,Nat.zero_le _⟩ hb2 (ah.nil _ _ _ _ _) HS1.out;rw[show(12 - ((12:Nat):Int))=0 by omega]at hp;unfold Cd.stC at hp;simp only[xY]at hp;have HP:=hid hp;have HB2:=hid (HL1.out.bel.trans (hb2.mono HL1.out.bel.size));rw[hg]at hq2 ⊢;have HQ2:=hid hq2;clear hp hb2 hq2 ho1 ho2 HTY HV1 HS1;have hl:=Sg.bk HQ2.out;go_wp2_with(refine wpList_load_row rfl _ _ rfl _ rfl _ _ _ _ hl Tryz.underlying258 rfl (by kernel_rfl) ?_);refine HP.out.mono ?_;clear HP hl;obtain⟨D,HD⟩:∃ D,Hid (Cd.aY x bb.data.toList 12 t ⟨0,[],0⟩=D):=⟨_,hid rfl⟩;rw[HD.out];rw[HD.out]at HRP;rintro e W5 hen;match D,HD,HRP,hen with
 | .error r,HD,HRP,hen =>
  obtain⟨v7,z7,rfl,hne,ho7⟩:=hen;obtain⟨p7,e7⟩:=r;have HE:Hid (e7=R):=hid HRP.out;have hQ5:=ho7.only.bk HQ2.out (by decide);have HB5:=hid (HB2.out.trans (ho7.bel.mono (by rw[hg];omega)));have t1:((e7:Int) != 0)=true:=by rw[bne_iff_ne];simp only at hne;omega
  have t2:¬(e7:Int)=0:=by simp only at hne;omega
  have hQ:=Sg.bk hQ5;simp only;clear hne ho7 HQ2;go_upto_region 6 with(refine wpList_store_row rfl _ _ _ rfl _ _ rfl rfl _ _ hQ (by kernel_rfl) (by rfl) (by simp[Value.oneCell']) ?_)
  have hQ6:=hQ5.row (Cd.stC ⟨x.name,A1,n1,c1,A2,n2,c2,A3,n3,c3⟩ bb v7 z7 p7 e7);have HB6:=hid (aK HB5.out (by omega:w.heap.size<=g) (Cd.stC ⟨x.name,A1,n1,c1,A2,n2,c2,A3,n3,c3⟩ bb v7 z7 p7 e7));generalize W5.setRow g (Cd.stC ⟨x.name,A1,n1,c1,A2,n2,c2,A3,n3,c3⟩ bb v7 z7 p7 e7)=W6 at *;have c4:=hQ6.cell 4;have c7:=hQ6.cell 7;have c8:=hQ6.cell 8;have c5:=hQ6.cell 5;simp only[List.getElem?_toArray,List.getElem?_cons_zero,List.getElem?_cons_succ]at c4 c5 c7 c8;clear hQ5 hQ6 hQ HD;go_wp2_with fail;go_region;go_wp2_with fail;go_ret3;exact⟨.slice none 0 0,p7,by rw[<-HE.out];rfl,HB6.out.drew⟩
 | .ok y,HD,HRP,hen =>
  obtain⟨⟨v7,rfl,hr7,ho7⟩,hf7⟩:=hen;obtain⟨p7,w7,z7⟩:=y;simp only at hr7 ho7 ⊢;have hQ5:=ho7.only.bk HQ2.out (by decide);have HB5:=hid (HB2.out.trans (ho7.bel.mono (by rw[hg];omega)));have hQ:=Sg.bk hQ5;clear hr7 hf7 ho7 HQ2;go_upto_region 6 with(refine wpList_store_row rfl _ _ _ rfl _ _ rfl rfl _ _ hQ (by kernel_rfl) (by rfl) (by simp[Value.oneCell']) ?_)
  have hQ6:=hQ5.row (Cd.stC ⟨x.name,A1,n1,c1,A2,n2,c2,A3,n3,c3⟩ bb v7 z7 p7 0);have HB6:=hid (aK HB5.out (by omega:w.heap.size<=g) (Cd.stC ⟨x.name,A1,n1,c1,A2,n2,c2,A3,n3,c3⟩ bb v7 z7 p7 0));generalize W5.setRow g (Cd.stC ⟨x.name,A1,n1,c1,A2,n2,c2,A3,n3,c3⟩ bb v7 z7 p7 0)=W6 at *;have c4:=hQ6.cell 4;have c5:=hQ6.cell 5;have c7:=hQ6.cell 7;have c8:=hQ6.cell 8;simp only[List.getElem?_toArray,List.getElem?_cons_zero,List.getElem?_cons_succ,xY]at c4 c5 c7 c8;clear hQ5 hQ6 hQ HD;by_cases hlt:p7<bb.size
  ·have HE:Hid (162=R):=hid (by rw[<-HRP.out];simp only;rw[if_pos hlt])
   have h1:(p7:Int)<(bb.size:Int):=by omega
   go_wp2_with fail;go_region;go_wp2_with fail;go_ret3;exact⟨.slice none 0 0,p7,by rw[<-HE.out];rfl,HB6.out.drew⟩
  ·have HE:Hid (0=R):=hid (by rw[<-HRP.out];simp only;rw[if_neg hlt])
   have h1:¬(p7:Int)<(bb.size:Int):=by omega
   go_wp2_with fail;go_ret3;exact⟨.slice v7.a v7.n v7.c,0,by rw[<-HE.out];rfl,HB6.out⟩
theorem LG(sv:Value)(x:Id.Sch)(hF:Chk.Fine x)(g b:ByteArray)(hbb:b.size<=1000000)(w:World)(hv:Id.ay w none sv x) :
  Calls Tryz.prog 74 #[sv,.string g,.string b] w λe w'=>e=.returned (.int .i64 (Sg.gW x g b:Nat))/\Below w.heap.size w w':=by
 obtain⟨R,HR⟩:∃ R,Hid (Sg.gW x g b=R):=⟨_,hid rfl⟩;rw[HR.out];have HF:=hid hF;have HV:=hid hv;obtain⟨A1,n1,c1,A2,n2,c2,A3,n3,c3,rfl,-,-,-⟩:=hv;clear hF;go_enter Tryz.func74,Tryz.ntmps74;go_upto_region 1 with(fail)
 refine aj (λV hV=>?_);have HL:=hid (Chk.Lx.start hV);clear hV;obtain⟨⟨q0,q1,q2,q3⟩,-⟩:=HL.out.box.k4;go_wp2_with fail;refine(wK _ x g _ (Id.ay.below HL.out.bel HV.out)).mono ?_;rintro e W1⟨u,rfl,hb,hu⟩;obtain⟨us,rfl,hus⟩:=hu;obtain⟨A6,n6,c6,rfl⟩:=ah.is hus;have HL1:=hid (HL.out.below hb);clear hb hus q0 q1 q2 q3 HL;go_upto_region 2 with(fail)
 refine aj (λV2 hV=>?_);obtain⟨hbV,hqV,-⟩:=au hV;have HL2:=hid (HL1.out.below hbV);clear hV hbV;obtain⟨G,HG⟩:∃ G,Hid ((Sd.sag x g).arg=G):=⟨_,hid rfl⟩;have HGG:Hid (((Chk.gq x g).getD Chk.oq).arg=G):=hid HG.out;rw[HGG.out]at hqV;have HRR:Hid ((Cd.decP x (Vl.nmd G) b.data.toList).2.2=R):=hid (by rw[<-HG.out];exact HR.out);clear HR HG HGG;obtain⟨⟨q0,q1,q2,q3⟩,-⟩:=HL2.out.box.k4;obtain⟨⟨r0,r1,r2⟩,-⟩:=hqV.k3;go_wp2_with fail;have hb3:Below w.heap.size w (V2.alloc (.cells #[.int .u8 7,.string G] 44)):=HL2.out.bel.trans (((Below.refl _ _).alloc (xB _) _).mono HL2.out.bel.size);have h3:=Gu _ x HF.out _ (Vl.nmd G) b hbb _ (Id.ay.below hb3 HV.out) (Sg.Ih V2 G);refine h3.mono ?_;rw[HRR.out];rintro e W3⟨vv,pp,rfl,hb⟩;have hb4:=hb3.trans (hb.mono hb3.size);clear hb h3 hb3;go_wp2_with fail;go_ret;exact⟨rfl,hb4⟩
theorem Gn(sv:Value)(x:Id.Sch)(hF:Chk.Fine x)(g id:ByteArray)(hIx:id.size<=100000)(fr:Int)(b:ByteArray)(hbb:b.size<=1000000)(w:World)(hv:Id.ay w none sv x) :
  Calls Tryz.prog 23 #[sv,.string g,.string id,.int .i64 fr,.string b] w λe w'=>e=.returned (Sg.Ec (Sg.begin_ Sg.gW x g id fr b))/\Below w.heap.size w w':=by
 obtain⟨R,HR⟩:∃ R,Hid (Sg.begin_ Sg.gW x g id fr b=R):=⟨_,hid rfl⟩;rw[HR.out];unfold Sg.begin_ at HR;have hco:=λW v=>Jb sv x hF g id hIx 0 false fr b W v
 obtain⟨⟨⟨k0,k1,k2,k3,k4,k5,k6,k7,k8,k9⟩,E⟩,HG⟩:∃ G,Hid (Sd.call x g id 0 false fr b=G):=⟨_,hid rfl⟩;rw[HG.out]at HR;simp only[HG.out,Ev.Letter.val]at hco;have HCO:=hid hco;have hao:=λW v=>LG sv x hF g b hbb W v
 obtain⟨A,HA⟩:∃ A,Hid (Sg.gW x g b=A):=⟨_,hid rfl⟩;rw[HA.out]at HR;simp only[HA.out]at hao;have HAO:=hid hao;clear hco hao;have HV:=hid hv;obtain⟨A1,n1,c1,A2,n2,c2,A3,n3,c3,rfl,-,-,-⟩:=hv;clear hF;go_enter Tryz.func23,Tryz.ntmps23;go_upto_region 1 with(fail)
 refine aj (λV hV=>?_);have HL:Hid (Chk.Lx w V #[.string x.name,.slice A1 n1 c1,.slice A2 n2 c2,.slice A3 n3 c3]):=hid (by subst hV;exact⟨(((Below.refl _ _).alloc (xB _) _).alloc (by simp) _).alloc (by simp;omega) _,((Bk.new w _ _).alloc _).alloc _⟩);have HQ:Hid (Sg.Two V (w.heap.size+1) (w.heap.size+2) Sg.gI #[.int .u8 0,.int .i64 0,.int .i64 0,.int .u64 0,.string ⟨#[]⟩,.int .u64 0,.string ⟨#[]⟩,.string ⟨#[]⟩,.int .i64 0,.string ⟨#[]⟩]):=hid (by
  subst hV;have h1:=Bk.new (w.alloc (.cells #[.string x.name,.slice A1 n1 c1,.slice A2 n2 c2,.slice A3 n3 c3] 28)) 54 Sg.gI;have h2:=Bk.new ((w.alloc (.cells #[.string x.name,.slice A1 n1 c1,.slice A2 n2 c2,.slice A3 n3 c3] 28)).alloc (.cells Sg.gI 54)) 56 #[.int .u8 0,.int .i64 0,.int .i64 0,.int .u64 0,.string ⟨#[]⟩,.int .u64 0,.string ⟨#[]⟩,.string ⟨#[]⟩,.int .i64 0,.string ⟨#[]⟩];simp only[World.size_alloc]at h1 h2;exact⟨h1.alloc _,h2,by omega⟩)
 clear hV;obtain⟨⟨q0,q1,q2,q3⟩,-⟩:=HL.out.box.k4;go_wp2_with fail;refine(HCO.out _ (Id.ay.below HL.out.bel HV.out)).mono ?_;rintro e W1⟨rfl,hb⟩;have HL1:=hid (HL.out.below hb);have HQ1:=hid (HQ.out.below hb HQ.out.r.lt HQ.out.l.lt);clear hb q0 q1 q2 q3 HL HQ HCO;go_upto_region 2 with(fail)
 refine aj (λV2 hV=>?_);obtain⟨hbV,hL,-⟩:=au hV;have HL2:=hid (HL1.out.below hbV);have hQ:=HQ1.out.below hbV HQ1.out.r.lt HQ1.out.l.lt;have OJ:=HQ1.out.l.lt;clear hV hbV HQ1 HL1;obtain⟨gL,HgL⟩:∃ n,Hid (W1.heap.size=n):=⟨_,hid rfl⟩;rw[HgL.out]at hL OJ ⊢;by_cases hE:E=0
 case neg =>
  have HE:Hid (R=(Sg.Run.zero,Ev.Letter.zero,E)):=hid (by rw[<-HR.out,if_pos hE]);have t1:((E:Int)==0)=false:=by rw[xG];omega
  have t2:¬(E:Int)=0:=by omega
  have t3:((E:Int) != 0)=true:=by rw[bne_iff_ne];omega
  have hB:=HL2.out.bel;(have hq1:=hQ.r;have hq2:=(hQ.iM Sg.gI).l;unfold Bk at hq1 hq2)
  go_wp2_with(refine wpList_store_row rfl _ _ _ rfl _ _ rfl rfl _ _ (by with_reducible assumption) (by kernel_rfl) (by rfl) (by simp[Value.oneCell']) ?_);(refine Sg.rF rfl _ _ rfl rfl _ _ _ _ _ _ (hQ.both _ _).r (hQ.both _ _).l Tryz.underlying54 rfl (by kernel_rfl) Tryz.underlying56 rfl (by kernel_rfl) rfl ⟨?_,Sg.bK hB (by omega) (by omega) _ _⟩)
  rw[HE.out];rfl
 subst hE;rw[if_neg (by simp)]at HR;obtain⟨⟨q0,q1,q2,q3⟩,-⟩:=HL2.out.box.k4;go_wp2_with fail;refine(HAO.out _ (Id.ay.below HL2.out.bel HV.out)).mono ?_;rintro e W3⟨rfl,hb⟩;have hB:=(HL2.out.below hb).bel;have hL3:=hL.below hb hL.lt;have hQ3:=hQ.below hb hQ.r.lt hQ.l.lt;clear hb q0 q1 q2 q3 hL hQ HL2;have hL:=hL3;have hQ:=hQ3;clear hL3 hQ3;by_cases hA:A=0
 case neg =>
  have HE:Hid (R=(Sg.Run.zero,Ev.Letter.zero,A)):=hid (by rw[<-HR.out,if_pos hA]);have t1:((A:Int)==0)=false:=by rw[xG];omega
  have t2:¬(A:Int)=0:=by omega
  have t3:((A:Int) != 0)=true:=by rw[bne_iff_ne];omega
  (have hq1:=hQ.r;have hq2:=(hQ.iM Sg.gI).l;unfold Bk at hq1 hq2)
  go_wp2_with(refine wpList_store_row rfl _ _ _ rfl _ _ rfl rfl _ _ (by with_reducible assumption) (by kernel_rfl) (by rfl) (by simp[Value.oneCell']) ?_);(refine Sg.rF rfl _ _ rfl rfl _ _ _ _ _ _ (hQ.both _ _).r (hQ.both _ _).l Tryz.underlying54 rfl (by kernel_rfl) Tryz.underlying56 rfl (by kernel_rfl) rfl ⟨?_,Sg.bK hB (by omega) (by omega) _ _⟩)
  rw[HE.out];rfl
 subst hA;have HE:Hid (R=(⟨id,g,b,0,1,0,false,0,⟨#[]⟩⟩,⟨k0,k1,k2,k3,k4,k5,k6,k7,k8,k9⟩,0)):=hid (by rw[<-HR.out,if_neg (by simp)]);go_upto_region 7 with(fail)
 have hd:Below W3.heap.size W3 W3.drew:=(Below.refl _ _).drew;have hLd:=hL.below hd hL.lt;have hQd:=hQ.below hd hQ.r.lt hQ.l.lt;have hBd:=hB.trans (hd.mono hB.size);clear hd hL hQ hB;have hQ:=hQd;have hB:=hBd;have hlt:=hLd.lt;clear hQd hBd;refine aO (λw'=>Bk w' gL 56 #[.int .u8 k0,.int .i64 k1,.int .i64 k2,.int .u64 k3,.string k4,.int .u64 k5,.string k6,.string k7,.int .i64 k8,.string k9]) [6] (by kernel_rfl) hLd (λhHeld=>?_);(refine aG 0 (v:=?_) rfl (by kernel_rfl) (λ_ _ _ h=>h) (λ_=>by assumption) (by rfl) ?_ ?_;rotate_left;· (intro w;go_simp;try with_reducible rfl);try simp only[Act.put,xA,xE,xC])
 (refine aG 1 (v:=?_) rfl (by kernel_rfl) (λ_ _ _ h=>h) (λ_=>by assumption) (by rfl) ?_ ?_;rotate_left;· (intro w;go_simp;try with_reducible rfl);try simp only[Act.put,xA,xE,xC])
 (refine aG 2 (v:=?_) rfl (by kernel_rfl) (λ_ _ _ h=>h) (λ_=>by assumption) (by rfl) ?_ ?_;rotate_left;· (intro w;go_simp;try with_reducible rfl);try simp only[Act.put,xA,xE,xC])
 (refine aG 3 (v:=?_) rfl (by kernel_rfl) (λ_ _ _ h=>h) (λ_=>by assumption) (by rfl) ?_ ?_;rotate_left;· (intro w;go_simp;try with_reducible rfl);try simp only[Act.put,xA,xE,xC])
 (refine Lst.takeN 6 4 (v:=.agg #[.int .u8 k0,.int .i64 k1,.int .i64 k2,.int .u64 k3,.string k4,.int .u64 k5,.string k6,.string k7,.int .i64 k8,.string k9]) rfl (by kernel_rfl) (λ_ _ _ h=>h) (by assumption) (by kernel_rfl) (λw' hSw=>Sg.kY _ _ rfl gL rfl _ _ _ hSw Tryz.underlying56 rfl (by kernel_rfl)) ?_;try simp only[Act.put,xA,xE,xC])
 (refine aB 5 (by kernel_rfl) rfl (λK hK=>?_))
 rw[if_pos (by rfl)];(with_reducible refine wp_store_row 54 _ _ rfl (w.heap.size+1) #[.string id,.string g,.string b,.int .i64 0,.int .u8 1,.int .i64 0,.bool false,.int .i64 0,.string ⟨#[]⟩] (by kernel_rfl) (by kernel_rfl) 54 _ (Sg.bk hQ.r) (by kernel_rfl) (by kernel_rfl) (by simp[Value.oneCell']) ?_)
 (refine hK.out _ _ (λhnn=>hLd.jK (by omega) _) ?_;clear hK K;try simp only[Act.put,xA,xE,xC])
 (refine aB 6 (by kernel_rfl) rfl (λK hK=>?_))
 rw[if_pos (by rfl)];(with_reducible refine wp_store_row 56 _ _ rfl (w.heap.size+2) #[.int .u8 k0,.int .i64 k1,.int .i64 k2,.int .u64 k3,.string k4,.int .u64 k5,.string k6,.string k7,.int .i64 k8,.string k9] (by kernel_rfl) (by kernel_rfl) 56 _ (Sg.bk (hQ.iM _).l) (by kernel_rfl) (by kernel_rfl) (by simp[Value.oneCell']) ?_)
 (refine hK.out _ _ (λhnn=>absurd hnn (by decide)) ?_;clear hK K;try simp only[Act.put,xA,xE,xC])
 (refine aB 7 (by kernel_rfl) rfl (λK hK=>?_))
 go_simp;(refine hK.out _ _ (λhnn=>absurd hnn (by decide)) ?_;clear hK K;try simp only[Act.put,xA,xE,xC])
 refine aV (by kernel_rfl) ?_ _;refine NoPanic.normal ?_;go_wp2_with fail;(refine Sg.rF rfl _ _ rfl rfl _ _ _ _ _ _ (hQ.both _ _).r (hQ.both _ _).l Tryz.underlying54 rfl (by kernel_rfl) Tryz.underlying56 rfl (by kernel_rfl) rfl ⟨?_,Sg.bK hB (by omega) (by omega) _ _⟩)
 rw[HE.out];rfl
