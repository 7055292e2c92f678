import Derived.Test.YtogijkhenihaaaaGreatDoorGB22
set_option linter.all false
set_option maxRecDepth 100000
set_option maxHeartbeats 0
namespace Go.Proofs.YtogijkhenihaaaaGreatDoor
open Lib (hid)
open Go.BigFrame Go.RowKit
namespace Cd
open Id Chk Vl Ev
def Py(q0 q1 q2 q3:Value)(bb:ByteArray)(w0 w:World)(g:Nat)(R:Rs S)(e:Ending)(w':World):Prop:=match R with
 | .ok y=>e=.returned (.tuple #[])/\Po q0 q1 q2 q3 bb w0 w g y w'
 | .error p=>e=pan p.1 p.2/\Below w0.heap.size w0 w'
def vX(s:Sch)(q0 q1 q2 q3:Value)(bb:ByteArray)(w0:World)(g k:Nat):Prop:=∀(tv:Value)(t:List Srt)(x:S)(vv:Value)(w:World),okT s t=true->t.length<=12->Rdr q0 q1 q2 q3 bb w0 w g x vv->Sts w0.heap.size g w tv t ->
 Calls Tryz.prog 60 #[.pointer (some ⟨g,0,none⟩),tv,.int .i64 (12 - (k:Int))] w λe w'=>Py q0 q1 q2 q3 bb w0 w g (aY s bb.data.toList k t x) e w'
def BP(r:Rec)(b:List UInt8)(x:S):Rs (List (List Srt) × S):=if r.choice=true then BQ r b x else .ok (r.fields.map (·.type),x.put x.at_ ⟨7,0,E0,r.fields.length⟩ 0)
theorem mJ{f:List Srt->S->Rs S}{t:List Srt}{ts:List (List Srt)}{x y:S}(h:f t x=.ok y):eP f (t::ts) x=eP f ts y:=by
 rw[eP,h]
theorem kP{f:List Srt->S->Rs S}{t:List Srt}{ts:List (List Srt)}{x:S}{p:Nat × Nat}(h:f t x=.error p):eP f (t::ts) x=.error p:=by
 rw[eP,h]
end Cd
theorem JX(s:Id.Sch)(hF:Chk.Fine s)(hR:Chk.Right s)(q0 q1 q2 q3:Value)(bb:ByteArray)(hbb:bb.size<=1000000)(w0:World)(g k ar:Nat)(har:ar+k+1=12)(hs:Id.ay w0 none (.agg #[q0,q1,q2,q3]) s)(ih:Cd.vX s q0 q1 q2 q3 bb w0 g k)
  (name:ByteArray) (hn:(Chk.find s name).isSome=true) (x:Cd.S) (vv:Value) (w:World) (hx:x.v.length<4096) (hr:Cd.Rdr q0 q1 q2 q3 bb w0 w g x vv) :
  Calls Tryz.prog 127 #[.pointer (some ⟨g,0,none⟩),.int .i64 (x.at_:Nat),.string name,.int .i64 (ar:Nat)] w λe w'=>Cd.Py q0 q1 q2 q3 bb w0 w g (Cd.goD (Cd.aY s bb.data.toList k) (Cd.BP ((Chk.find s name).getD Chk.qL) bb.data.toList x)) e w':=by
 obtain⟨R,HR⟩:∃ R,Hid (Cd.goD (Cd.aY s bb.data.toList k) (Cd.BP ((Chk.find s name).getD Chk.qL) bb.data.toList x)=R):=⟨_,hid rfl⟩;rw[HR.out];obtain⟨r,hfr⟩:=Option.isSome_iff_exists.1 hn;have hrm:r∈s.records:=List.mem_of_find?_eq_some hfr;have HTY:Hid (∀ f∈r.fields,Chk.okT s f.type=true/\f.type.length<=12):=hid (λf hf=>Vl.lZ (Vl.nV hR hrm hf));have HFL:Hid (r.fields.length<=99):=hid (hF.re r hrm).2.1;have HFI:=hid (um (.agg #[q0,q1,q2,q3]) s name (Vl.AX hF));rw[hfr]at HR HFI;simp only[Option.getD_some]at HR HFI;have HS:=hid hs;unfold Cd.vX at ih;rw[show(12 - (k:Int))=(ar:Int)+1 by omega]at ih;have HIH:=hid ih;have hwa:IntKind.i64.wrap ((ar:Int)+1)=(ar:Int)+1:=by rw[IntKind.wrap_i64];omega
 have HRD:=hid hr;have HX:=hid hx;obtain⟨p,v,z⟩:=x;obtain⟨rn,rc,rf⟩:=r;simp only at HTY HFL HX;obtain⟨⟨c0,c1,c2,c3,c4,c5,c6,c7⟩,-⟩:=hr.box.k8;clear hs ih hr hx hfr hrm hn hF hR;go_enter Tryz.func127,Tryz.ntmps127;go_wp2_with fail;refine(HFI.out _ (Id.ay.below HRD.out.bel HS.out)).mono ?_;rintro e W1⟨u0,rfl,hb,u,rfl,hu⟩;have HR1:=hid (HRD.out.below hb);have HO1:Hid (Cd.bn w0.heap.size g w W1):=hid (Cd.bn.below hb);have HU1:=hid hu;obtain⟨A9,n9,c9,rfl⟩:=ah.is hu;have HN9:Hid (n9=rf.length):=hid (by obtain⟨_,_,e,_⟩:=ah.slice hu;injection e);clear hb hu HRD c0 c1 c2 c3 c4 c5 c6 c7;have hgW:g<W1.heap.size:=HR1.out.box.lt;go_upto_region 1 with(fail)
 refine aj (λV hV=>?_);obtain⟨hb,hq,hVs⟩:=au hV;clear hV;have HR2:=hid (HR1.out.below hb);have HO2:=hid (HO1.out.trans (Cd.bn.below hb));have HU2:Hid (Id.jC V (some w.heap.size) (.slice A9 n9 c9) rf):=hid (ah.below HU1.out hb (Id.gJ.below hb));have HQ2:=hid hq;obtain⟨xb,hxb⟩:∃ xb,W1.heap.size=xb:=⟨_,rfl⟩;rw[hxb]at HQ2 hgW ⊢;have hne:xb≠g:=by omega
 have Uu:n9<=99:=by rw[HN9.out];exact HFL.out
 clear hb hq hVs HR1 HO1 HU1 hxb;obtain⟨⟨x0,x1,x2⟩,-⟩:=HQ2.out.k3;cases rc
 case true =>
  have HRC:Hid (Cd.goD (Cd.aY s bb.data.toList k) (Cd.BQ ⟨rn,true,rf⟩ bb.data.toList ⟨p,v,z⟩)=R):=hid HR.out;clear HR;go_wp2_with fail;refine(qw q0 q1 q2 q3 bb w0 V g ⟨p,v,z⟩ vv hbb HR2.out).mono ?_;obtain⟨O,HO⟩:∃ O,Hid (Cd.num bb.data.toList p=O):=⟨_,hid rfl⟩;try simp only
  rw[HO.out];clear x0 x1 x2;cases O with
  |error pe =>
   have HE:Hid (R=.error pe):=hid (by rw[<-HRC.out];unfold Cd.BQ;simp only;rw[HO.out];rfl);obtain rfl:=HE.out;rintro e w1⟨rfl,hb1⟩;(unfold Cd.pan;go_wp2_with fail;exact⟨rfl,rfl,hb1⟩)
  |ok q =>
   obtain⟨n,q'⟩:=q;rintro e w1⟨rfl,hg1,hr1⟩;simp only at hr1 ⊢;have TK:=(Cd.uQ HO.out).1;have HRR:Hid (Cd.goD (Cd.aY s bb.data.toList k) (if rf.length<=n then .error (p,162)else .ok ([(rf.map (·.type)).getD n []],⟨q',v++[⟨8,n,Cd.E0,1⟩],z⟩))=R):=hid (by rw[<-HRC.out];unfold Cd.BQ;simp only;rw[HO.out];rfl);have HR3:=hid hr1;have HO3:=hid (HO2.out.trans (Cd.bn.gb hg1));have HU3:Hid (Id.jC w1 (some w.heap.size) (.slice A9 n9 c9) rf):=hid (Cd.mO HU2.out (Cd.bn.gb (B:=w0.heap.size) hg1) HR2.out.box);have HQ3:=hid (HQ2.out.grown hg1 (by intro e;injection e with e;exact hne e));clear hr1 hg1 HRC HR2 HO2 HU2 HQ2 HO;obtain⟨⟨x0,x1,x2⟩,-⟩:=HQ3.out.k3;have hw9:IntKind.u64.wrap (n9:Int)=(n9:Int):=by rw[IntKind.wrap_u64];omega
   by_cases hlt:n<n9
   case neg =>
    have HE:Hid (R=.error (p,162)):=hid (by rw[<-HRR.out,if_pos (by rw[<-HN9.out];omega)];rfl);obtain rfl:=HE.out;have h1:(n9:Int)<=(n:Int):=by omega
    have h2:n9<=n:=by omega
    go_wp2_with fail;refine(jy p 162 _).mono ?_;rintro e w2⟨rfl,rfl⟩;(unfold Cd.pan;go_wp2_with fail;exact⟨rfl,rfl,HR3.out.bel⟩)
   have hnl:n<rf.length:=by rw[<-HN9.out];exact hlt
   have HRD:Hid (Cd.eP (Cd.aY s bb.data.toList k) [rf[n].type] ⟨q',v++[⟨8,n,Cd.E0,1⟩],z⟩=R):=hid (by
    rw[<-HRR.out,if_neg (by omega),yG,List.getElem?_map,yF hnl];rfl)
   have HTN:=hid (HTY.out rf[n] (xR hnl));have h1:¬(n9:Int)<=(n:Int):=by omega
   have h2:¬n9<=n:=by omega
   have hwn:IntKind.i64.wrap (n:Int)=(n:Int):=by rw[IntKind.wrap_i64];omega
   clear HRR TK;obtain⟨⟨c0,c1,c2,c3,c4,c5,c6,c7⟩,f0,f1,f2,f3,f4,f5,f6,f7⟩:=Bk.k8 HR3.out.box;go_upto_region 6 with(at_builtin;refine aI rfl _ _ _ rfl w0.heap.size 92 _ 4 40 Tryz.underlying23 Cd.yj rfl (by decide) Vl.x9 vv v rfl HR3.out.row [.int .u8 8,.int .i64 n,.string ⟨#[]⟩,.int .i64 1] rfl _ rfl rfl (by simp[Value.oneCell']) (by unfold maxLen;have:=HX.out;omega) (by have:=HX.out;omega) HR3.out.bel.size ?_;intro v' w2 hrow hb3 ho3;have hrow1:=hrow ⟨8,n,Cd.E0,1⟩ (λ_ _ h=>h) rfl;clear hrow;obtain⟨A6,n6,c6',rfl⟩:=ah.is hrow1;clear c0 c1 c2 c3 c4 c5 c6 c7 f0 f1 f2 f3 f4 f5 f6 f7 x0 x1 x2;obtain⟨⟨c0,c1,c2,c3,c4,c5,c6,c7⟩,f0,f1,f2,f3,f4,f5,f6,f7⟩:=Bk.k8 (ho3.bk HR3.out.box (by decide)))
   refine aj (λW4 hW4=>?_);have hr4:Cd.Rdr q0 q1 q2 q3 bb w0 W4 g ⟨q',v++[⟨8,n,Cd.E0,1⟩],z⟩ (.slice A6 n6 c6'):=by
    rw[hW4];exact HR3.out.Oe (v':=.slice A6 n6 c6') hb3 ho3 hrow1 (by rw[xI];have:=HX.out;simp only[xJ,xO];omega)
   have hk4:Cd.bn w0.heap.size g w1 W4:=by
    rw[hW4];exact(Cd.bn.only hb3 ho3).trans (Cd.bn.gb (oP (nG _ _) (.inl rfl) _))
   clear hW4 hrow1 hb3 ho3 c0 c1 c2 c3 c4 c5 c6 c7 f0 f1 f2 f3 f4 f5 f6 f7;have HR4:=hid hr4;have HO4:=hid (HO3.out.trans hk4);have HQ4:=hid (hk4.bk HQ3.out hne (by decide));have HU4:=hid (Cd.mO HU3.out hk4 HR3.out.box);clear hr4 hk4 HO3 HQ3 HU3 HR3;obtain⟨⟨x0,x1,x2⟩,-⟩:=HQ4.out.k3;obtain⟨g7,dJ,cs,rfl,-,⟨u',e1,hsu⟩,hc⟩:=ah.get HU4.out hnl (by omega);subst e1;obtain⟨A5,n5,c5',rfl⟩:=ah.is hsu;have a0:=hc 0 _ rfl;have a1:=hc 1 _ rfl;have HST:=hid (Cd.Sts.own (B:=w0.heap.size) hsu HR4.out.box);have hn0:(0:Int)<=(n:Int):=by omega
   have hnn:(n:Int)<(n9:Int):=by omega
   clear hc hsu;go_wp2_with fail;refine(HIH.out _ rf[n].type ⟨q',v++[⟨8,n,Cd.E0,1⟩],z⟩ _ W4 HTN.out.1 HTN.out.2 HR4.out HST.out).mono ?_;obtain⟨D,HD⟩:∃ D,Hid (Cd.aY s bb.data.toList k rf[n].type ⟨q',v++[⟨8,n,Cd.E0,1⟩],z⟩=D):=⟨_,hid rfl⟩;rw[HD.out];clear a0 a1 x0 x1 x2;cases D with
   |error pe =>
    have HE:Hid (R=.error pe):=hid (by rw[<-HRD.out];exact Cd.kP HD.out);obtain rfl:=HE.out;rintro e w5⟨rfl,hb5⟩;(unfold Cd.pan;go_wp2_with fail;exact⟨rfl,rfl,hb5⟩)
   |ok y =>
    have HE:Hid (R=.ok y):=hid (by rw[<-HRD.out,Cd.mJ HD.out];rfl);obtain rfl:=HE.out;rintro e w5⟨rfl,hp5⟩;go_wp2_with fail;refine bodyPost_ret (results_none rfl _ _ _) rfl ?_;exact⟨rfl,HO4.out.trans hp5.only,hp5.rdr⟩
 case false =>
  have HRC:Hid (Cd.eP (Cd.aY s bb.data.toList k) (rf.map (·.type)) ⟨p,v++[⟨7,0,Cd.E0,n9⟩],z⟩=R):=hid (by rw[<-HR.out,HN9.out];rfl);have HVO:Hid (∀ k,vv.ownBlock=some k->k<V.heap.size):=hid (Cd.LY HR2.out.row);clear HR;go_upto_region 7 with(fail)
  refine aO (λw'=>Bk w' xb 42 #[.string rn,.bool false,.slice A9 n9 c9]/\Bk w' g 118 #[q0,q1,q2,q3,.string bb,.int .i64 (p:Nat),vv,.int .i64 (z:Nat)]) [13] (by kernel_rfl) ⟨HQ2.out.drew,HR2.out.box.drew⟩ (λhHeld=>?_);have hr2:=HR2.out.drew;have hk2:Cd.bn w0.heap.size g V V.drew:=Cd.bn.below ((Below.refl _ _).drew);have hu2:=Cd.mO HU2.out hk2 HR2.out.box;have ho2:=HO2.out.trans hk2;have hvs:V.heap.size<=V.drew.heap.size:=hk2.size;clear HR2 HO2 HU2 HQ2 x0 x1 x2 hk2;generalize V.drew=X at *;have HR2:=hid hr2;have HO2:=hid ho2;have HU2:=hid hu2;clear hr2 hu2 ho2;(refine aG 0 (v:=?_) rfl (by kernel_rfl) (λ_ _ _ h=>h) (λ_=>by assumption) (by rfl) ?_ ?_;rotate_left;· (intro w;go_simp;try with_reducible rfl);try simp only[Act.put,xA,xE,xC])
  (refine aG 1 (v:=?_) rfl (by kernel_rfl) (λ_ _ _ h=>h) (λ_=>by assumption) (by rfl) ?_ ?_;rotate_left;· (intro w;go_simp;try with_reducible rfl);try simp only[Act.put,xA,xE,xC])
  (refine aG 2 (v:=?_) rfl (by kernel_rfl) (λ_ _ _ h=>h) (λ_=>by assumption) (by rfl) ?_ ?_;rotate_left;· (intro w;go_simp;try with_reducible rfl);try simp only[Act.put,xA,xE,xC])
  (refine aG 3 (v:=?_) rfl (by kernel_rfl) (λ_ _ _ h=>h) (λ_=>by assumption) (by rfl) ?_ ?_;rotate_left;· (intro w;go_simp;try with_reducible rfl);try simp only[Act.put,xA,xE,xC])
  (refine Lst.takeN 13 4 (v:=?_) rfl (by kernel_rfl) (λ_ _ _ h=>h) (by assumption) (by rfl) ?_ ?_;rotate_left;· (intro w hSw;obtain⟨e0,e1,e2,e3,e4,e5,e6,e7⟩:=(Bk.k8 hSw.2).1;go_simp;try with_reducible rfl);try simp only[Act.put,xA,xE,xC])
  (refine aG 5 (v:=?_) rfl (by kernel_rfl) (λ_ _ _ h=>h) (λ_=>by assumption) (by rfl) ?_ ?_;rotate_left;· (intro w;go_simp;try with_reducible rfl);try simp only[Act.put,xA,xE,xC])
  (refine Lst.takeN 13 6 (v:=?_) rfl (by kernel_rfl) (λ_ _ _ h=>h) (by assumption) (by rfl) ?_ ?_;rotate_left;· (intro w hSw;obtain⟨e0,e1,e2⟩:=(Bk.k3 hSw.1).1;go_simp;try with_reducible rfl);try simp only[Act.put,xA,xE,xC])
  (refine aG 7 (v:=?_) rfl (by kernel_rfl) (λ_ _ _ h=>h) (λ_=>by assumption) (by rfl) ?_ ?_;rotate_left;· (intro w;go_simp;try with_reducible rfl);try simp only[Act.put,xA,xE,xC])
  (refine aG 8 (v:=?_) rfl (by kernel_rfl) (λ_ _ _ h=>h) (λ_=>by assumption) (by rfl) ?_ ?_;rotate_left;· (intro w;go_simp;try with_reducible rfl);try simp only[Act.put,xA,xE,xC])
  have HH:=hid hHeld;clear hHeld;(refine aB 9 (by kernel_rfl) rfl (λK hK=>?_))
  go_simp;have hB:Below X.heap.size X (X.alloc (.cells #[.int .u8 7,.int .i64 0,.string ⟨#[]⟩,.int .i64 n9] 92)):=(Below.refl _ _).alloc (xB _) _;have hq:Bk (X.alloc (.cells #[.int .u8 7,.int .i64 0,.string ⟨#[]⟩,.int .i64 n9] 92)) X.heap.size 92 #[.int .u8 7,.int .i64 0,.string ⟨#[]⟩,.int .i64 n9]:=Bk.new X _ _;have HR3:=hid (HR2.out.below hB);have HO3:=hid (HO2.out.trans (Cd.bn.below hB));have HU3:=hid (Cd.mO HU2.out (Cd.bn.below (B:=w0.heap.size) (g:=g) hB) HR2.out.box);have HH3:=hid (And.intro (HH.out.1.below hB HH.out.1.lt) (HH.out.2.below hB HH.out.2.lt));have HQ:=hid hq;generalize X.alloc (.cells #[.int .u8 7,.int .i64 0,.string ⟨#[]⟩,.int .i64 n9] 92)=Y at *;clear hB hq HR2 HO2 HU2 HH;(refine hK.out _ _ (λhnn=>HH3.out) ?_;clear hK K;try simp only[Act.put,xA,xE,xC])
  (refine aB 10 (by kernel_rfl) rfl (λK hK=>?_))
  refine sV rfl _ _ _ rfl w0.heap.size 92 _ 4 40 Tryz.underlying23 Cd.yj rfl (by decide) Vl.x9 vv v rfl HR3.out.row [.int .u8 7,.int .i64 0,.string ⟨#[]⟩,.int .i64 n9] rfl X.heap.size rfl HQ.out (by simp[Value.oneCell']) (by unfold maxLen;have:=HX.out;omega) (by have:=HX.out;omega) HR3.out.bel.size ?_;intro A6 n6 c6 Z hrow hb3 ho3 hg3;have hHeld:=And.intro (ho3.bk HH3.out.1 (by decide)) (ho3.bk HH3.out.2 (by decide));have hR4:=HR3.out.Oe (l:=v++[(⟨7,0,Cd.E0,n9⟩:Vl.Node)]) (v':=.slice A6 n6 c6) hb3 ho3 (show Vl.bT Z (some w0.heap.size) (.slice A6 n6 c6) (v++[(⟨7,0,Cd.E0,n9⟩:Vl.Node)])from hrow (⟨7,0,Cd.E0,n9⟩:Vl.Node) (λ_ _ h=>h) rfl) (by rw[xI];have:=HX.out;simp only[xJ,xO];omega);have hK4:Cd.bn w0.heap.size g Y (Z.setCell ⟨g,6,none⟩ (.slice A6 n6 c6)):=(Cd.bn.only hb3 ho3).trans (Cd.bn.gb (oP (nG _ _) (.inl rfl) _));have HR4:=hid hR4;have HO4:=hid (HO3.out.trans hK4);have HU4:=hid (Cd.mO HU3.out hK4 HR3.out.box);have HQ4:=hid (hK4.bk HH3.out.1 hne (by decide));clear hR4 hK4 hrow hb3 ho3 hg3 HR3 HO3 HU3 HH3 HQ;(refine hK.out _ _ (λhnn=>hHeld) ?_;clear hK K;try simp only[Act.put,xA,xE,xC])
  (refine aG 11 (v:=?_) rfl (by kernel_rfl) (λ_ _ _ h=>h) (λ_=>by assumption) (by rfl) ?_ ?_;rotate_left;· (intro w;go_simp;try with_reducible rfl);try simp only[Act.put,xA,xE,xC])
  (refine aG 12 (v:=?_) rfl (by kernel_rfl) (λ_ _ _ h=>h) (λ_=>by assumption) (by rfl) ?_ ?_;rotate_left;· (intro w;go_simp;try with_reducible rfl);try simp only[Act.put,xA,xE,xC])
  obtain⟨⟨d0,d1,d2,d3,d4,d5,d6,d7⟩,f0,f1,f2,f3,f4,f5,f6,f7⟩:=(Bk.k8 hHeld.2);(refine aB 13 (by kernel_rfl) rfl (λK hK=>?_))
  go_simp;(refine hK.out _ _ (λhnn=>absurd hnn (by decide)) ?_;clear hK K;try simp only[Act.put,xA,xE,xC])
  refine aV (by kernel_rfl) ?_ _;refine NoPanic.normal ?_;clear d0 d1 d2 d3 d4 d5 d6 d7 f0 f1 f2 f3 f4 f5 f6 f7 hHeld;generalize Z.setCell ⟨g,6,none⟩ (.slice A6 n6 c6)=W5 at *;obtain⟨⟨x0,x1,x2⟩,-⟩:=HQ4.out.k3;go_wp2_with fail;go_loopw [72] (λi wr=>∃(j:Nat)(y:Cd.S)(v2:Value),j<=n9/\i=.int .i64 j/\Hid (Cd.eP (Cd.aY s bb.data.toList k) ((rf.drop j).map (·.type)) y=R)/\Hid (Cd.bn w0.heap.size g w wr)/\Hid (Cd.Rdr q0 q1 q2 q3 bb w0 wr g y v2)/\Hid (Id.jC wr (some w.heap.size) (.slice A9 n9 c9) rf)) (λi _=>n9 - (intOf i).toNat)
  case atStart=>exact⟨0,_,_,by omega,rfl,HRC,HO4,HR4,HU4⟩
  case round =>
   obtain⟨j,y,v2,hj,rfl,HRJ,HOJ,HRR,HUJ⟩:=hrel;obtain⟨W,rfl⟩:∃ w',w'=wr:=⟨_,rfl⟩;clear x0 x1 x2 HQ4;by_cases hlt:j<n9
   case neg =>
    have HE:Hid (R=.ok y):=hid (by rw[<-HRJ.out,xP (by rw[<-HN9.out];omega)];rfl);obtain rfl:=HE.out;have h1:¬(j:Int)<(n9:Int):=by omega
    go_wp2_with fail;refine bodyPost_end (results_none rfl _ _ _) rfl ?_;exact⟨rfl,HOJ.out,_,HRR.out⟩
   have hjl:j<rf.length:=by rw[<-HN9.out];exact hlt
   have h1:(j:Int)<(n9:Int):=by omega
   have h0:(0:Int)<=(j:Int):=by omega
   have HRD:Hid (Cd.eP (Cd.aY s bb.data.toList k) (rf[j].type::(rf.drop (j+1)).map (·.type)) y=R):=hid (by rw[<-HRJ.out,xQ hjl];rfl);have HTN:=hid (HTY.out rf[j] (xR hjl));obtain⟨g7,dJ,cs,rfl,-,⟨u',e1,hsu⟩,hc⟩:=ah.get HUJ.out hjl (by omega);subst e1;obtain⟨A5,n5,c5',rfl⟩:=ah.is hsu;have a0:=hc 0 _ rfl;have a1:=hc 1 _ rfl;simp only[xK]at a0;have HSU:=hid hsu;clear hc hsu;go_upto_region 11 with(fail)
   refine aj (λW6 hW6=>?_);obtain⟨hb,hq,-⟩:=au hW6;clear hW6;have HR6:=hid (HRR.out.below hb);have HO6:=hid (HOJ.out.trans (Cd.bn.below hb));have HU6:=hid (Cd.mO HUJ.out (Cd.bn.below (B:=w0.heap.size) (g:=g) hb) HRR.out.box);have HST:=hid (Cd.Sts.own (B:=w0.heap.size) (g:=g) (ah.below HSU.out hb (λ_ _ h=>h)) HR6.out.box);obtain⟨⟨x0,x1⟩,-⟩:=hq.k2;clear hb hq a0 a1;go_wp2_with fail;refine(HIH.out _ rf[j].type y v2 W6 HTN.out.1 HTN.out.2 HR6.out HST.out).mono ?_;obtain⟨D,HD⟩:∃ D,Hid (Cd.aY s bb.data.toList k rf[j].type y=D):=⟨_,hid rfl⟩;rw[HD.out];clear x0 x1;cases D with
   |error pe =>
    have HE:Hid (R=.error pe):=hid (by rw[<-HRD.out];exact Cd.kP HD.out);obtain rfl:=HE.out;rintro e w7⟨rfl,hb7⟩;(unfold Cd.pan;go_wp2_with fail;exact⟨rfl,rfl,hb7⟩)
   |ok y2 =>
    have HE:Hid (Cd.eP (Cd.aY s bb.data.toList k) ((rf.drop (j+1)).map (·.type)) y2=R):=hid (by rw[<-HRD.out,Cd.mJ HD.out]);rintro e w7⟨rfl,hp7⟩;have HP7:=hid hp7;clear hp7;go_wp2_with fail;go_roundw
    case rel =>
     obtain⟨v3,hr7⟩:=HP7.out.rdr;exact⟨j+1,y2,v3,by omega,by go_num,HE,hid (HO6.out.trans HP7.out.only),hid hr7,hid (Cd.mO HU6.out HP7.out.only HR6.out.box)⟩
    case measure=>simp[intOf];omega
