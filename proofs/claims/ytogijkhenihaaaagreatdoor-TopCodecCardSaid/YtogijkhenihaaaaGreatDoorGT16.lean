import Derived.Test.YtogijkhenihaaaaGreatDoorGT15
import Derived.Defers
import Derived.Recover
import Derived.Laws.Pointers
set_option linter.all false
set_option maxRecDepth 100000
set_option maxHeartbeats 0
namespace Go.Proofs.YtogijkhenihaaaaGreatDoor
open Lib (hid)
open Go.BigFrame Go.RowKit
namespace Cd
open Id Chk Vl Ev
def VR(q0 q1 q2 q3:Value)(bb:ByteArray)(w0 w:World)(g:Nat)(R:Rs S)(e:Ending)(w':World):Prop:=match R with
 | .ok y=>e=.returned (.tuple #[])/\Vy q0 q1 q2 q3 bb w0 w g y w'
 | .error p=>e=pan p.1 p.2/\Below w0.heap.size w0 w'
def zV(s:Sch)(q0 q1 q2 q3:Value)(bb:ByteArray)(w0:World)(g k:Nat):Prop:=∀(tv:Value)(t:List Srt)(x:S)(vv:Value)(w:World),okT s t=true->t.length<=12->Rdr q0 q1 q2 q3 bb w0 w g x vv->Sts w0.heap.size g w tv t ->
 Calls Tryz.prog 60 #[.pointer (some ⟨g,0,none⟩),tv,.int .i64 (12 - (k:Int))] w λe w'=>VR q0 q1 q2 q3 bb w0 w g (dZ s bb.data.toList k t x) e w'
def Vt(r:Rec)(b:List UInt8)(x:S):Rs (List (List Srt) × S):=if r.choice=true then BM r b x else .ok (r.fields.map (·.type),x.put x.at_ ⟨7,0,E0,r.fields.length⟩ 0)
theorem zy{f:List Srt->S->Rs S}{t:List Srt}{ts:List (List Srt)}{x y:S}(h:f t x=.ok y):gI f (t::ts) x=gI f ts y:=by
 rw[gI,h]
theorem wI{f:List Srt->S->Rs S}{t:List Srt}{ts:List (List Srt)}{x:S}{p:Nat × Nat}(h:f t x=.error p):gI f (t::ts) x=.error p:=by
 rw[gI,h]
end Cd
theorem Qc(s:Id.Sch)(hF:Chk.Fine s)(hR:Chk.Right s)(q0 q1 q2 q3:Value)(bb:ByteArray)(hbb:bb.size<=1000000)(w0:World)(g k ar:Nat)(har:ar+k+1=12)(hs:Id.aY w0 none (.agg #[q0,q1,q2,q3]) s)(ih:Cd.zV s q0 q1 q2 q3 bb w0 g k)
  (name:ByteArray) (hn:(Chk.find s name).isSome=true) (x:Cd.S) (vv:Value) (w:World) (hx:x.v.length<4096) (hr:Cd.Rdr q0 q1 q2 q3 bb w0 w g x vv) :
  Calls Tryz.prog 127 #[.pointer (some ⟨g,0,none⟩),.int .i64 (x.at_:Nat),.string name,.int .i64 (ar:Nat)] w λe w'=>Cd.VR q0 q1 q2 q3 bb w0 w g (Cd.goD (Cd.dZ s bb.data.toList k) (Cd.Vt ((Chk.find s name).getD Chk.ny) bb.data.toList x)) e w':=by
 obtain⟨R,HR⟩:∃ R,Hid (Cd.goD (Cd.dZ s bb.data.toList k) (Cd.Vt ((Chk.find s name).getD Chk.ny) bb.data.toList x)=R):=⟨_,hid rfl⟩;rw[HR.out];obtain⟨r,hfr⟩:=Option.isSome_iff_exists.1 hn;have hrm:r∈s.records:=List.mem_of_find?_eq_some hfr;have HTY:Hid (∀ f∈r.fields,Chk.okT s f.type=true/\f.type.length<=12):=hid (λf hf=>Vl.sV (Vl.Dc hR hrm hf));have HFL:Hid (r.fields.length<=99):=hid (hF.re r hrm).2.1;have HFI:=hid (uf (.agg #[q0,q1,q2,q3]) s name (Vl.zM hF));rw[hfr]at HR HFI;simp only[Option.getD_some]at HR HFI;have HS:=hid hs;unfold Cd.zV at ih;rw[show(12 - (k:Int))=(ar:Int)+1 by omega]at ih;have HIH:=hid ih;have hwa:IntKind.i64.wrap ((ar:Int)+1)=(ar:Int)+1:=by rw[IntKind.wrap_i64];omega
 have HRD:=hid hr;have HX:=hid hx;obtain⟨p,v,z⟩:=x;obtain⟨rn,rc,rf⟩:=r;simp only at HTY HFL HX;obtain⟨⟨c0,c1,c2,c3,c4,c5,c6,c7⟩,-⟩:=hr.box.k8;clear hs ih hr hx hfr hrm hn hF hR;go_enter Tryz.func127,Tryz.ntmps127;go_wp2_with fail;refine(HFI.out _ (Id.aY.below HRD.out.bel HS.out)).mono ?_;rintro e W1⟨u0,rfl,hb,u,rfl,hu⟩;have HR1:=hid (HRD.out.below hb);have HO1:Hid (Cd.bI w0.heap.size g w W1):=hid (Cd.bI.below hb);have HU1:=hid hu;obtain⟨A9,n9,c9,rfl⟩:=ah.is hu;have HN9:Hid (n9=rf.length):=hid (by obtain⟨_,_,e,_⟩:=ah.slice hu;injection e);clear hb hu HRD c0 c1 c2 c3 c4 c5 c6 c7;have hgW:g<W1.heap.size:=HR1.out.box.lt;go_upto_region 1 with(fail)
 refine ak (λV hV=>?_);obtain⟨hb,hq,hVs⟩:=ay hV;clear hV;have HR2:=hid (HR1.out.below hb);have HO2:=hid (HO1.out.trans (Cd.bI.below hb));have HU2:Hid (Id.iO V (some w.heap.size) (.slice A9 n9 c9) rf):=hid (ah.below HU1.out hb (Id.dR.below hb));have HQ2:=hid hq;obtain⟨xb,hxb⟩:∃ xb,W1.heap.size=xb:=⟨_,rfl⟩;rw[hxb]at HQ2 hgW ⊢;have hne:xb≠g:=by omega
 have aaE:n9<=99:=by rw[HN9.out];exact HFL.out
 clear hb hq hVs HR1 HO1 HU1 hxb;obtain⟨⟨x0,x1,x2⟩,-⟩:=HQ2.out.k3;cases rc
 case true =>
  have HRC:Hid (Cd.goD (Cd.dZ s bb.data.toList k) (Cd.BM ⟨rn,true,rf⟩ bb.data.toList ⟨p,v,z⟩)=R):=hid HR.out;clear HR;go_wp2_with fail;refine(sF q0 q1 q2 q3 bb w0 V g ⟨p,v,z⟩ vv hbb HR2.out).mono ?_;obtain⟨O,HO⟩:∃ O,Hid (Cd.num bb.data.toList p=O):=⟨_,hid rfl⟩;try simp only
  rw[HO.out];clear x0 x1 x2;cases O with
  |error pe =>
   have HE:Hid (R=.error pe):=hid (by rw[<-HRC.out];unfold Cd.BM;simp only;rw[HO.out];rfl);obtain rfl:=HE.out;rintro e w1⟨rfl,hb1⟩;(unfold Cd.pan;go_wp2_with fail;exact⟨rfl,rfl,hb1⟩)
  |ok q =>
   obtain⟨n,q'⟩:=q;rintro e w1⟨rfl,hg1,hr1⟩;simp only at hr1 ⊢;have ZN:=(Cd.yK HO.out).1;have HRR:Hid (Cd.goD (Cd.dZ s bb.data.toList k) (if rf.length<=n then .error (p,162)else .ok ([(rf.map (·.type)).getD n []],⟨q',v++[⟨8,n,Cd.E0,1⟩],z⟩))=R):=hid (by rw[<-HRC.out];unfold Cd.BM;simp only;rw[HO.out];rfl);have HR3:=hid hr1;have HO3:=hid (HO2.out.trans (Cd.bI.gb hg1));have HU3:Hid (Id.iO w1 (some w.heap.size) (.slice A9 n9 c9) rf):=hid (Cd.nZ HU2.out (Cd.bI.gb (B:=w0.heap.size) hg1) HR2.out.box);have HQ3:=hid (HQ2.out.grown hg1 (by intro e;injection e with e;exact hne e));clear hr1 hg1 HRC HR2 HO2 HU2 HQ2 HO;obtain⟨⟨x0,x1,x2⟩,-⟩:=HQ3.out.k3;have hw9:IntKind.u64.wrap (n9:Int)=(n9:Int):=by rw[IntKind.wrap_u64];omega
   by_cases hlt:n<n9
   case neg =>
    have HE:Hid (R=.error (p,162)):=hid (by rw[<-HRR.out,if_pos (by rw[<-HN9.out];omega)];rfl);obtain rfl:=HE.out;have h1:(n9:Int)<=(n:Int):=by omega
    have h2:n9<=n:=by omega
    go_wp2_with fail;refine(jE p 162 _).mono ?_;rintro e w2⟨rfl,rfl⟩;(unfold Cd.pan;go_wp2_with fail;exact⟨rfl,rfl,HR3.out.bel⟩)
   have hnl:n<rf.length:=by rw[<-HN9.out];exact hlt
   have HRD:Hid (Cd.gI (Cd.dZ s bb.data.toList k) [rf[n].type] ⟨q',v++[⟨8,n,Cd.E0,1⟩],z⟩=R):=hid (by
    rw[<-HRR.out,if_neg (by omega),yG,List.getElem?_map,yF hnl];rfl)
   have HTN:=hid (HTY.out rf[n] (xR hnl));have h1:¬(n9:Int)<=(n:Int):=by omega
   have h2:¬n9<=n:=by omega
   have hwn:IntKind.i64.wrap (n:Int)=(n:Int):=by rw[IntKind.wrap_i64];omega
   clear HRR ZN;obtain⟨⟨c0,c1,c2,c3,c4,c5,c6,c7⟩,f0,f1,f2,f3,f4,f5,f6,f7⟩:=Bk.k8 HR3.out.box;go_upto_region 6 with(at_builtin;refine aO rfl _ _ _ rfl w0.heap.size 92 _ 4 40 Tryz.underlying23 Cd.Fz rfl (by decide) Vl.oC vv v rfl HR3.out.row [.int .u8 8,.int .i64 n,.string ⟨#[]⟩,.int .i64 1] rfl _ rfl rfl (by simp[Value.oneCell']) (by unfold maxLen;have:=HX.out;omega) (by have:=HX.out;omega) HR3.out.bel.size ?_;intro v' w2 hrow hb3 ho3;have hrow1:=hrow ⟨8,n,Cd.E0,1⟩ (λ_ _ h=>h) rfl;clear hrow;obtain⟨A6,n6,c6',rfl⟩:=ah.is hrow1;clear c0 c1 c2 c3 c4 c5 c6 c7 f0 f1 f2 f3 f4 f5 f6 f7 x0 x1 x2;obtain⟨⟨c0,c1,c2,c3,c4,c5,c6,c7⟩,f0,f1,f2,f3,f4,f5,f6,f7⟩:=Bk.k8 (ho3.bk HR3.out.box (by decide)))
   refine ak (λW4 hW4=>?_);have hr4:Cd.Rdr q0 q1 q2 q3 bb w0 W4 g ⟨q',v++[⟨8,n,Cd.E0,1⟩],z⟩ (.slice A6 n6 c6'):=by
    rw[hW4];exact HR3.out.Uc (v':=.slice A6 n6 c6') hb3 ho3 hrow1 (by rw[xI];have:=HX.out;simp only[xJ,xO];omega)
   have hk4:Cd.bI w0.heap.size g w1 W4:=by
    rw[hW4];exact(Cd.bI.only hb3 ho3).trans (Cd.bI.gb (bn (dL _ _) (.inl rfl) _))
   clear hW4 hrow1 hb3 ho3 c0 c1 c2 c3 c4 c5 c6 c7 f0 f1 f2 f3 f4 f5 f6 f7;have HR4:=hid hr4;have HO4:=hid (HO3.out.trans hk4);have HQ4:=hid (hk4.bk HQ3.out hne (by decide));have HU4:=hid (Cd.nZ HU3.out hk4 HR3.out.box);clear hr4 hk4 HO3 HQ3 HU3 HR3;obtain⟨⟨x0,x1,x2⟩,-⟩:=HQ4.out.k3;obtain⟨g7,fG,cs,rfl,-,⟨u',e1,hsu⟩,hc⟩:=ah.get HU4.out hnl (by omega);subst e1;obtain⟨A5,n5,c5',rfl⟩:=ah.is hsu;have a0:=hc 0 _ rfl;have a1:=hc 1 _ rfl;have HST:=hid (Cd.Sts.own (B:=w0.heap.size) hsu HR4.out.box);have hn0:(0:Int)<=(n:Int):=by omega
   have hnn:(n:Int)<(n9:Int):=by omega
   clear hc hsu;go_wp2_with fail;refine(HIH.out _ rf[n].type ⟨q',v++[⟨8,n,Cd.E0,1⟩],z⟩ _ W4 HTN.out.1 HTN.out.2 HR4.out HST.out).mono ?_;obtain⟨D,HD⟩:∃ D,Hid (Cd.dZ s bb.data.toList k rf[n].type ⟨q',v++[⟨8,n,Cd.E0,1⟩],z⟩=D):=⟨_,hid rfl⟩;rw[HD.out];clear a0 a1 x0 x1 x2;cases D with
   |error pe =>
    have HE:Hid (R=.error pe):=hid (by rw[<-HRD.out];exact Cd.wI HD.out);obtain rfl:=HE.out;rintro e w5⟨rfl,hb5⟩;(unfold Cd.pan;go_wp2_with fail;exact⟨rfl,rfl,hb5⟩)
   |ok y =>
    have HE:Hid (R=.ok y):=hid (by rw[<-HRD.out,Cd.zy HD.out];rfl);obtain rfl:=HE.out;rintro e w5⟨rfl,hp5⟩;go_wp2_with fail;refine bodyPost_ret (results_none rfl _ _ _) rfl ?_;exact⟨rfl,HO4.out.trans hp5.only,hp5.rdr⟩
 case false =>
  have HRC:Hid (Cd.gI (Cd.dZ s bb.data.toList k) (rf.map (·.type)) ⟨p,v++[⟨7,0,Cd.E0,n9⟩],z⟩=R):=hid (by rw[<-HR.out,HN9.out];rfl);have HVO:Hid (∀ k,vv.ownBlock=some k->k<V.heap.size):=hid (Cd.Ru HR2.out.row);clear HR;go_upto_region 7 with(fail)
  refine bJ (λw'=>Bk w' xb 42 #[.string rn,.bool false,.slice A9 n9 c9]/\Bk w' g 118 #[q0,q1,q2,q3,.string bb,.int .i64 (p:Nat),vv,.int .i64 (z:Nat)]) [13] (by kernel_rfl) ⟨HQ2.out.drew,HR2.out.box.drew⟩ (λhHeld=>?_);have hr2:=HR2.out.drew;have hk2:Cd.bI w0.heap.size g V V.drew:=Cd.bI.below ((Below.refl _ _).drew);have hu2:=Cd.nZ HU2.out hk2 HR2.out.box;have ho2:=HO2.out.trans hk2;have hvs:V.heap.size<=V.drew.heap.size:=hk2.size;clear HR2 HO2 HU2 HQ2 x0 x1 x2 hk2;generalize V.drew=X at *;have HR2:=hid hr2;have HO2:=hid ho2;have HU2:=hid hu2;clear hr2 hu2 ho2;(refine aj 0 (v:=?_) rfl (by kernel_rfl) (by kernel_rfl) (by kernel_rfl) (by kernel_rfl) (λ_ _ _ h=>h) (λ_=>by assumption) (by rfl) ?_ ?_;rotate_left;· (intro w;go_simp;try with_reducible rfl);try simp only[Act.put,xA,xE,xC])
  (refine aj 1 (v:=?_) rfl (by kernel_rfl) (by kernel_rfl) (by kernel_rfl) (by kernel_rfl) (λ_ _ _ h=>h) (λ_=>by assumption) (by rfl) ?_ ?_;rotate_left;· (intro w;go_simp;try with_reducible rfl);try simp only[Act.put,xA,xE,xC])
  (refine aj 2 (v:=?_) rfl (by kernel_rfl) (by kernel_rfl) (by kernel_rfl) (by kernel_rfl) (λ_ _ _ h=>h) (λ_=>by assumption) (by rfl) ?_ ?_;rotate_left;· (intro w;go_simp;try with_reducible rfl);try simp only[Act.put,xA,xE,xC])
  (refine aj 3 (v:=?_) rfl (by kernel_rfl) (by kernel_rfl) (by kernel_rfl) (by kernel_rfl) (λ_ _ _ h=>h) (λ_=>by assumption) (by rfl) ?_ ?_;rotate_left;· (intro w;go_simp;try with_reducible rfl);try simp only[Act.put,xA,xE,xC])
  (refine Lst.qH 13 4 (v:=?_) rfl (by kernel_rfl) (by kernel_rfl) (by kernel_rfl) (by kernel_rfl) (by kernel_rfl) (by kernel_rfl) (λ_ _ _ h=>h) (by assumption) (by rfl) ?_ ?_;rotate_left;· (intro w hSw;obtain⟨e0,e1,e2,e3,e4,e5,e6,e7⟩:=(Bk.k8 hSw.2).1;go_simp;try with_reducible rfl);try simp only[Act.put,xA,xE,xC])
  (refine aj 5 (v:=?_) rfl (by kernel_rfl) (by kernel_rfl) (by kernel_rfl) (by kernel_rfl) (λ_ _ _ h=>h) (λ_=>by assumption) (by rfl) ?_ ?_;rotate_left;· (intro w;go_simp;try with_reducible rfl);try simp only[Act.put,xA,xE,xC])
  (refine Lst.qH 13 6 (v:=?_) rfl (by kernel_rfl) (by kernel_rfl) (by kernel_rfl) (by kernel_rfl) (by kernel_rfl) (by kernel_rfl) (λ_ _ _ h=>h) (by assumption) (by rfl) ?_ ?_;rotate_left;· (intro w hSw;obtain⟨e0,e1,e2⟩:=(Bk.k3 hSw.1).1;go_simp;try with_reducible rfl);try simp only[Act.put,xA,xE,xC])
  (refine aj 7 (v:=?_) rfl (by kernel_rfl) (by kernel_rfl) (by kernel_rfl) (by kernel_rfl) (λ_ _ _ h=>h) (λ_=>by assumption) (by rfl) ?_ ?_;rotate_left;· (intro w;go_simp;try with_reducible rfl);try simp only[Act.put,xA,xE,xC])
  (refine aj 8 (v:=?_) rfl (by kernel_rfl) (by kernel_rfl) (by kernel_rfl) (by kernel_rfl) (λ_ _ _ h=>h) (λ_=>by assumption) (by rfl) ?_ ?_;rotate_left;· (intro w;go_simp;try with_reducible rfl);try simp only[Act.put,xA,xE,xC])
  have HH:=hid hHeld;clear hHeld;(refine aB 9 (by kernel_rfl) rfl (λK hK=>?_))
  go_simp;have hB:Below X.heap.size X (X.alloc (.cells #[.int .u8 7,.int .i64 0,.string ⟨#[]⟩,.int .i64 n9] 92)):=(Below.refl _ _).alloc (xB _) _;have hq:Bk (X.alloc (.cells #[.int .u8 7,.int .i64 0,.string ⟨#[]⟩,.int .i64 n9] 92)) X.heap.size 92 #[.int .u8 7,.int .i64 0,.string ⟨#[]⟩,.int .i64 n9]:=Bk.new X _ _;have HR3:=hid (HR2.out.below hB);have HO3:=hid (HO2.out.trans (Cd.bI.below hB));have HU3:=hid (Cd.nZ HU2.out (Cd.bI.below (B:=w0.heap.size) (g:=g) hB) HR2.out.box);have HH3:=hid (And.intro (HH.out.1.below hB HH.out.1.lt) (HH.out.2.below hB HH.out.2.lt));have HQ:=hid hq;generalize X.alloc (.cells #[.int .u8 7,.int .i64 0,.string ⟨#[]⟩,.int .i64 n9] 92)=Y at *;clear hB hq HR2 HO2 HU2 HH;(refine hK.out _ _ (λhnn=>HH3.out) ?_;clear hK K;try simp only[Act.put,xA,xE,xC])
  (refine aB 10 (by kernel_rfl) rfl (λK hK=>?_))
  refine wo rfl _ _ _ rfl w0.heap.size 92 _ 4 40 Tryz.underlying23 Cd.Fz rfl (by decide) Vl.oC vv v rfl HR3.out.row [.int .u8 7,.int .i64 0,.string ⟨#[]⟩,.int .i64 n9] rfl X.heap.size rfl HQ.out (by simp[Value.oneCell']) (by unfold maxLen;have:=HX.out;omega) (by have:=HX.out;omega) HR3.out.bel.size ?_;intro A6 n6 c6 Z hrow hb3 ho3 hg3;have hHeld:=And.intro (ho3.bk HH3.out.1 (by decide)) (ho3.bk HH3.out.2 (by decide));have hR4:=HR3.out.Uc (l:=v++[(⟨7,0,Cd.E0,n9⟩:Vl.Node)]) (v':=.slice A6 n6 c6) hb3 ho3 (show Vl.fP Z (some w0.heap.size) (.slice A6 n6 c6) (v++[(⟨7,0,Cd.E0,n9⟩:Vl.Node)])from hrow (⟨7,0,Cd.E0,n9⟩:Vl.Node) (λ_ _ h=>h) rfl) (by rw[xI];have:=HX.out;simp only[xJ,xO];omega);have hK4:Cd.bI w0.heap.size g Y (Z.setCell ⟨g,6,none⟩ (.slice A6 n6 c6)):=(Cd.bI.only hb3 ho3).trans (Cd.bI.gb (bn (dL _ _) (.inl rfl) _));have HR4:=hid hR4;have HO4:=hid (HO3.out.trans hK4);have HU4:=hid (Cd.nZ HU3.out hK4 HR3.out.box);have HQ4:=hid (hK4.bk HH3.out.1 hne (by decide));clear hR4 hK4 hrow hb3 ho3 hg3 HR3 HO3 HU3 HH3 HQ;(refine hK.out _ _ (λhnn=>hHeld) ?_;clear hK K;try simp only[Act.put,xA,xE,xC])
  (refine aj 11 (v:=?_) rfl (by kernel_rfl) (by kernel_rfl) (by kernel_rfl) (by kernel_rfl) (λ_ _ _ h=>h) (λ_=>by assumption) (by rfl) ?_ ?_;rotate_left;· (intro w;go_simp;try with_reducible rfl);try simp only[Act.put,xA,xE,xC])
  (refine aj 12 (v:=?_) rfl (by kernel_rfl) (by kernel_rfl) (by kernel_rfl) (by kernel_rfl) (λ_ _ _ h=>h) (λ_=>by assumption) (by rfl) ?_ ?_;rotate_left;· (intro w;go_simp;try with_reducible rfl);try simp only[Act.put,xA,xE,xC])
  obtain⟨⟨d0,d1,d2,d3,d4,d5,d6,d7⟩,f0,f1,f2,f3,f4,f5,f6,f7⟩:=(Bk.k8 hHeld.2);(refine aB 13 (by kernel_rfl) rfl (λK hK=>?_))
  go_simp;(refine hK.out _ _ (λhnn=>absurd hnn (by decide)) ?_;clear hK K;try simp only[Act.put,xA,xE,xC])
  refine dU (by kernel_rfl) ?_ _;refine NoPanic.normal ?_;clear d0 d1 d2 d3 d4 d5 d6 d7 f0 f1 f2 f3 f4 f5 f6 f7 hHeld;generalize Z.setCell ⟨g,6,none⟩ (.slice A6 n6 c6)=W5 at *;obtain⟨⟨x0,x1,x2⟩,-⟩:=HQ4.out.k3;go_wp2_with fail;go_loopw [72] (λi wr=>∃(j:Nat)(y:Cd.S)(v2:Value),j<=n9/\i=.int .i64 j/\Hid (Cd.gI (Cd.dZ s bb.data.toList k) ((rf.drop j).map (·.type)) y=R)/\Hid (Cd.bI w0.heap.size g w wr)/\Hid (Cd.Rdr q0 q1 q2 q3 bb w0 wr g y v2)/\Hid (Id.iO wr (some w.heap.size) (.slice A9 n9 c9) rf)) (λi _=>n9 - (intOf i).toNat)
  case atStart=>exact⟨0,_,_,by omega,rfl,HRC,HO4,HR4,HU4⟩
  case round =>
   obtain⟨j,y,v2,hj,rfl,HRJ,HOJ,HRR,HUJ⟩:=hrel;obtain⟨W,rfl⟩:∃ w',w'=wr:=⟨_,rfl⟩;clear x0 x1 x2 HQ4;by_cases hlt:j<n9
   case neg =>
    have HE:Hid (R=.ok y):=hid (by rw[<-HRJ.out,xP (by rw[<-HN9.out];omega)];rfl);obtain rfl:=HE.out;have h1:¬(j:Int)<(n9:Int):=by omega
    go_wp2_with fail;refine bodyPost_end (results_none rfl _ _ _) rfl ?_;exact⟨rfl,HOJ.out,_,HRR.out⟩
   have hjl:j<rf.length:=by rw[<-HN9.out];exact hlt
   have h1:(j:Int)<(n9:Int):=by omega
   have h0:(0:Int)<=(j:Int):=by omega
   have HRD:Hid (Cd.gI (Cd.dZ s bb.data.toList k) (rf[j].type::(rf.drop (j+1)).map (·.type)) y=R):=hid (by rw[<-HRJ.out,xQ hjl];rfl);have HTN:=hid (HTY.out rf[j] (xR hjl));obtain⟨g7,fG,cs,rfl,-,⟨u',e1,hsu⟩,hc⟩:=ah.get HUJ.out hjl (by omega);subst e1;obtain⟨A5,n5,c5',rfl⟩:=ah.is hsu;have a0:=hc 0 _ rfl;have a1:=hc 1 _ rfl;simp only[xK]at a0;have HSU:=hid hsu;clear hc hsu;go_upto_region 11 with(fail)
   refine ak (λW6 hW6=>?_);obtain⟨hb,hq,-⟩:=ay hW6;clear hW6;have HR6:=hid (HRR.out.below hb);have HO6:=hid (HOJ.out.trans (Cd.bI.below hb));have HU6:=hid (Cd.nZ HUJ.out (Cd.bI.below (B:=w0.heap.size) (g:=g) hb) HRR.out.box);have HST:=hid (Cd.Sts.own (B:=w0.heap.size) (g:=g) (ah.below HSU.out hb (λ_ _ h=>h)) HR6.out.box);obtain⟨⟨x0,x1⟩,-⟩:=hq.k2;clear hb hq a0 a1;go_wp2_with fail;refine(HIH.out _ rf[j].type y v2 W6 HTN.out.1 HTN.out.2 HR6.out HST.out).mono ?_;obtain⟨D,HD⟩:∃ D,Hid (Cd.dZ s bb.data.toList k rf[j].type y=D):=⟨_,hid rfl⟩;rw[HD.out];clear x0 x1;cases D with
   |error pe =>
    have HE:Hid (R=.error pe):=hid (by rw[<-HRD.out];exact Cd.wI HD.out);obtain rfl:=HE.out;rintro e w7⟨rfl,hb7⟩;(unfold Cd.pan;go_wp2_with fail;exact⟨rfl,rfl,hb7⟩)
   |ok y2 =>
    have HE:Hid (Cd.gI (Cd.dZ s bb.data.toList k) ((rf.drop (j+1)).map (·.type)) y2=R):=hid (by rw[<-HRD.out,Cd.zy HD.out]);rintro e w7⟨rfl,hp7⟩;have HP7:=hid hp7;clear hp7;go_wp2_with fail;go_roundw
    case rel =>
     obtain⟨v3,hr7⟩:=HP7.out.rdr;exact⟨j+1,y2,v3,by omega,by go_num,HE,hid (HO6.out.trans HP7.out.only),hid hr7,hid (Cd.nZ HU6.out HP7.out.only HR6.out.box)⟩
    case measure=>simp[intOf];omega
namespace Cd
open Id Chk Vl Ev
theorem Sts.cells{B g g7 fG n c:Nat}{w:World}{x:Srt}{t:List Srt}(h:Sts B g w (.slice (some ⟨g7,fG,none⟩) n c) (x::t)):w.cell? ⟨g7,fG,none⟩=some (.int .u8 x.kind)/\w.cell? ⟨g7,fG+1,none⟩=some (.string x.name):=by
 obtain⟨g',off',cs,e0,-,e1,hc⟩:=ah.get h.now (i:=0) (by simp) (by omega);injection e0 with e0
 injection e0 with e2 e3
 subst e2 e3;unfold Id.dF Id.Srt.cells at e1;simp only[List.getElem_cons_zero]at e1;subst e1;have a0:=hc 0 _ rfl;have a1:=hc 1 _ rfl;simp only[Nat.zero_mul,xK]at a0 a1;exact⟨a0,a1⟩
theorem Sts.tail{B g g7 fG n c:Nat}{w:World}{x:Srt}{t:List Srt}(h:Sts B g w (.slice (some ⟨g7,fG,none⟩) n c) (x::t)):Sts B g w (.slice (some ⟨g7,fG+2,none⟩) (n - 1) (c - 1)) t:=λw' h2=>ah.tail (h w' h2)
structure At(q0 q1 q2 q3:Value)(bb:ByteArray)(w0:World)(g rb g7 fG n c:Nat)(y:Srt)(t:List Srt)(w w1:World)(x:S)(vv:Value):Prop where
 rdr:Rdr q0 q1 q2 q3 bb w0 w1 g x vv
 only:bI w0.heap.size g w w1
 rb_:Bk w1 rb 116 #[.pointer (some ⟨g,0,none⟩)]
 ne:rb≠g
 typ:Sts w0.heap.size g w1 (.slice (some ⟨g7,fG,none⟩) n c) (y::t)
section
variable {q0 q1 q2 q3 vv vv2 : Value} {bb : ByteArray} {w0 w w1 w2 : World} {g rb g7 fG n c : Nat} {y : Srt} {t : List Srt} {x x2 : S}
theorem At.go(h:At q0 q1 q2 q3 bb w0 g rb g7 fG n c y t w w1 x vv)(k:bI w0.heap.size g w1 w2)(hr:Rdr q0 q1 q2 q3 bb w0 w2 g x2 vv2):At q0 q1 q2 q3 bb w0 g rb g7 fG n c y t w w2 x2 vv2:=⟨hr,h.only.trans k,k.bk h.rb_ h.ne (by decide),h.ne,h.typ.next k⟩
theorem At.below(h:At q0 q1 q2 q3 bb w0 g rb g7 fG n c y t w w1 x vv)(k:Below w1.heap.size w1 w2):At q0 q1 q2 q3 bb w0 g rb g7 fG n c y t w w2 x vv:=h.go (bI.below k) (h.rdr.below k)
theorem At.Ik(h:At q0 q1 q2 q3 bb w0 g rb g7 fG n c y t w w1 x vv)(z:Nat)(hz:z<=4096):At q0 q1 q2 q3 bb w0 g rb g7 fG n c y t w (w1.setCell ⟨g,7,none⟩ (.int .i64 (z:Nat))) ⟨x.at_,x.v,z⟩ vv:=h.go (bI.gb (bn (dL _ _) (.inl rfl) _)) (h.rdr.Ik z hz)
theorem At.at_(h:At q0 q1 q2 q3 bb w0 g rb g7 fG n c y t w w1 x vv)(p:Nat)(hp:p<=bb.size):At q0 q1 q2 q3 bb w0 g rb g7 fG n c y t w (w1.setCell ⟨g,5,none⟩ (.int .i64 (p:Nat))) ⟨p,x.v,x.sz⟩ vv:=h.go (bI.gb (bn (dL _ _) (.inl rfl) _)) (h.rdr.at_ p hp)
theorem At.num(h:At q0 q1 q2 q3 bb w0 g rb g7 fG n c y t w w1 x vv)(hg:w1.grownBy w2 (some g))(hr:Rdr q0 q1 q2 q3 bb w0 w2 g x2 vv2):At q0 q1 q2 q3 bb w0 g rb g7 fG n c y t w w2 x2 vv2:=h.go (bI.gb hg) hr
theorem At.put(h:At q0 q1 q2 q3 bb w0 g rb g7 fG n c y t w w1 x vv)(k:Vy q0 q1 q2 q3 bb w0 w1 g x2 w2):∃ v2,At q0 q1 q2 q3 bb w0 g rb g7 fG n c y t w w2 x2 v2:=by
 obtain⟨k1,v2,k2⟩:=k;exact⟨v2,h.go k1 k2⟩
theorem At.fin(h:At q0 q1 q2 q3 bb w0 g rb g7 fG n c y t w w1 x vv):VR q0 q1 q2 q3 bb w0 w g (.ok x) (.returned (.tuple #[])) w1:=⟨rfl,h.only,_,h.rdr⟩
end
end Cd
theorem PZ(s:Id.Sch)(hF:Chk.Fine s)(hR:Chk.Right s)(q0 q1 q2 q3:Value)(bb:ByteArray)(hbb:bb.size<=1000000)(w0:World)(g k:Nat)(hk:k+1<=12)(hs:Id.aY w0 none (.agg #[q0,q1,q2,q3]) s)(ih:Cd.zV s q0 q1 q2 q3 bb w0 g k):Cd.zV s q0 q1 q2 q3 bb w0 g (k+1):=by
 intro tv t x vv w ht h12 hr hst;obtain⟨R,HR⟩:∃ R,Hid (Cd.dZ s bb.data.toList (k+1) t x=R):=⟨_,hid rfl⟩;rw[HR.out];obtain⟨⟨xk,xn⟩,t,rfl⟩:∃ x l,t=x::l:=List.exists_cons_of_ne_nil (Vl.y8 ht);obtain⟨ar,har⟩:∃ ar:Nat,ar+k+1=12:=⟨11 - k,by omega⟩;have e12:(12 - ((k+1:Nat):Int))=(ar:Int):=by omega
 have e13:(12 - (k:Int))=(ar:Int)+1:=by omega
 rw[e12];have HNM:=hid (Qc s hF hR q0 q1 q2 q3 bb hbb w0 g k ar har hs ih);unfold Cd.zV at ih;rw[e13]at ih;have HIH:=hid ih;have HTT:=hid ht;have HKN:=hid (Vl.Jr ht);obtain⟨A,n,c,rfl⟩:=ah.is hst.now;have hn:n=t.length+1:=by obtain⟨_,_,e,_⟩:=ah.slice hst.now;injection e
 have hcn:n<=c:=by obtain⟨_,_,e,h,_⟩:=ah.slice hst.now;injection e with _ e2 e3;rw[e3,e2];exact h
 have hcm:c<=9223372036854775807:=by obtain⟨_,_,e,_,h,_⟩:=ah.slice hst.now;injection e with _ _ e3;omega
 have hnm:n<=12:=by rw[hn];simpa using h12
 obtain⟨g7,fG,cs,rfl,-⟩:=ah.get hst.now (i:=0) (by simp) (by omega);have HLT:Hid (n=t.length+1):=hid hn;have hn1:0<n:=by omega
 have hn0:(0:Int)<(n:Int):=by omega
 obtain⟨p,v,z⟩:=x;obtain⟨A9,n9,c9,rfl⟩:=ah.is hr.row;have HN9:Hid (n9=v.length):=hid (by obtain⟨_,_,e,_⟩:=ah.slice hr.row;injection e);have hv9:n9<=4096:=by rw[HN9.out];exact hr.hv
 have hz9:z<=4096:=hr.hz;have HRD:=hid hr;have HST:=hid hst;have hmf:∀(fn:Fn)(first cap:Array Value)(w:World),(Instr.makeFunc fn first cap).run Tryz.prog w=.ok (.func fn first cap) w:=λ_ _ _ _=>rfl
 clear hr hst ht h12 ih e12 e13 hn cs hF hR hs;go_enter Tryz.func60,Tryz.ntmps60;go_upto_region 1 with(fail)
 refine ak (λV hV=>?_);obtain⟨hb,hq,hVs⟩:=ay hV;clear hV;have HA:Hid (Cd.At q0 q1 q2 q3 bb w0 g w.heap.size g7 fG n c ⟨xk,xn⟩ t w V ⟨p,v,z⟩ (.slice A9 n9 c9)):=hid ⟨HRD.out.below hb,Cd.bI.below hb,hq,(by have:=HRD.out.box.lt;omega),HST.out.next (Cd.bI.below hb)⟩;clear hb hq hVs HRD HST;(obtain⟨r0,-⟩:=HA.out.rb_.k1;obtain⟨⟨c0,c1,c2,c3,c4,c5,c6,c7⟩,f0,f1,f2,f3,f4,f5,f6,f7⟩:=Bk.k8 HA.out.rdr.box;obtain⟨t0,t1⟩:=HA.out.typ.cells)
 simp only at c5 c7 t0 t1;have ha1:¬(ar:Int)=12:=by omega
 have ha2:¬ar=12:=by omega
 by_cases h1:n9=4096
 case pos =>
  have HE:Hid (R=.error (p,3)):=hid (by rw[<-HR.out,Cd.dZ,if_pos (.inl (by simp only;rw[<-HN9.out];omega))]);subst h1;obtain rfl:=HE.out;go_wp2_with fail;refine(jE p 3 _).mono ?_;rintro e w2⟨rfl,rfl⟩;(unfold Cd.pan;go_wp2_with fail;exact⟨rfl,rfl,HA.out.rdr.bel⟩)
 by_cases h2:z=4096
 case pos =>
  have HE:Hid (R=.error (p,3)):=hid (by rw[<-HR.out,Cd.dZ,if_pos (.inr (by simp only;omega))]);subst h2;obtain rfl:=HE.out;have h3:¬(n9:Int)=4096:=by omega
  go_wp2_with fail;refine(jE p 3 _).mono ?_;rintro e w2⟨rfl,rfl⟩;(unfold Cd.pan;go_wp2_with fail;exact⟨rfl,rfl,HA.out.rdr.bel⟩)
 have h3:¬(n9:Int)=4096:=by omega
 have h4:¬(z:Int)=4096:=by omega
 have HNF:Hid (¬Cd.full ⟨p,v,z⟩):=hid (by unfold Cd.full;simp only;rw[<-HN9.out];omega);have HVL:Hid (v.length<4096):=hid (by rw[<-HN9.out];omega);have hwz:IntKind.i64.wrap ((z:Int)+1)=(z:Int)+1:=by rw[IntKind.wrap_i64];omega
 go_upto_region 9 with(fail)
 refine ak (λV2 hV2=>?_);obtain⟨z1,hz1⟩:∃ z1,z1=z+1:=⟨_,rfl⟩;have HA2:Hid (Cd.At q0 q1 q2 q3 bb w0 g w.heap.size g7 fG n c ⟨xk,xn⟩ t w V2 ⟨p,v,z1⟩ (.slice A9 n9 c9)):=hid (by
  have h:=HA.out.Ik z1 (by omega);have e:((z1:Nat):Int)=(z:Int)+1:=by omega
  rw[e]at h;rw[hV2];exact h)
 have HRR:Hid ((if Cd.jS xk then Cd.BL bb.data.toList xk ⟨p,v,z1⟩else Cd.goD (Cd.dZ s bb.data.toList k) (Cd.rG s bb.data.toList ⟨xk,xn⟩ t ⟨p,v,z1⟩))=R):=hid (by rw[<-HR.out,Cd.dZ,if_neg HNF.out,hz1];rfl);have Yy:z1<=4096:=by omega
 (clear r0 c0 c1 c2 c3 c4 c5 c6 c7 f0 f1 f2 f3 f4 f5 f6 f7 t0 t1)
 clear hV2 HR HNF HA h1 h2 h3 h4 hwz hz9 hz1;have hz9:=Yy;clear Yy;(obtain⟨r0,-⟩:=HA2.out.rb_.k1;obtain⟨⟨c0,c1,c2,c3,c4,c5,c6,c7⟩,f0,f1,f2,f3,f4,f5,f6,f7⟩:=Bk.k8 HA2.out.rdr.box;obtain⟨t0,t1⟩:=HA2.out.typ.cells)
 simp only at c5 c7 t0 t1;by_cases k1:xk=1
 case pos =>
  subst k1;have HE:Hid (R=.ok ⟨p,v++[⟨1,0,Cd.E0,0⟩],z1⟩):=hid (by rw[<-HRR.out];rfl);obtain rfl:=HE.out;go_wp2_with fail;refine(rH q0 q1 q2 q3 bb w0 V2 g w.heap.size ⟨p,v,z1⟩ _ ⟨1,0,Cd.E0,0⟩ HA2.out.rdr HA2.out.rb_ HVL.out).mono ?_;rintro e w1⟨rfl,hp⟩;have HP:=hid hp;clear hp;(clear r0 c0 c1 c2 c3 c4 c5 c6 c7 f0 f1 f2 f3 f4 f5 f6 f7 t0 t1)
  go_wp2_with fail;refine bodyPost_end (results_none rfl _ _ _) rfl ?_;obtain⟨v2,ha⟩:=HA2.out.put HP.out;exact ha.fin
 by_cases k2:xk=2
 case pos =>
  subst k2;have HRB:Hid ((match Cd.bit bb.data.toList p with
   | .error e=>.error e
   | .ok q=>.ok ⟨q.2,v++[⟨2,q.1,Cd.E0,0⟩],z1⟩:Cd.Rs Cd.S)=R):=hid (by rw[<-HRR.out];rfl)
  go_wp2_with fail;refine(KA q0 q1 q2 q3 bb w0 V2 g ⟨p,v,z1⟩ _ hbb HA2.out.rdr).mono ?_;obtain⟨O,HO⟩:∃ O,Hid (Cd.bit bb.data.toList p=O):=⟨_,hid rfl⟩;try simp only
  rw[HO.out];rw[HO.out]at HRB;cases O with
  |error pe =>
   obtain rfl:=HRB.out;rintro e w1⟨rfl,hb1⟩;(unfold Cd.pan;go_wp2_with fail;exact⟨rfl,rfl,hb1⟩)
  |ok q =>
   obtain⟨m,q'⟩:=q;obtain rfl:=HRB.out;rintro e w1⟨rfl,hg1,hr1⟩;simp only at hr1 ⊢;have HA3:=hid (HA2.out.num hg1 hr1);(clear r0 c0 c1 c2 c3 c4 c5 c6 c7 f0 f1 f2 f3 f4 f5 f6 f7 t0 t1)
   clear hg1 hr1 HA2;go_wp2_with fail;refine(rH q0 q1 q2 q3 bb w0 w1 g w.heap.size ⟨q',v,z1⟩ _ ⟨2,m,Cd.E0,0⟩ HA3.out.rdr HA3.out.rb_ HVL.out).mono ?_;rintro e w2⟨rfl,hp⟩;have HP:=hid hp;clear hp;go_wp2_with fail;refine bodyPost_end (results_none rfl _ _ _) rfl ?_;obtain⟨v2,ha⟩:=HA3.out.put HP.out;exact ha.fin
 by_cases k3:xk=3
 case pos =>
  subst k3;have HRB:Hid ((match Cd.num bb.data.toList p with
   | .error e=>.error e
   | .ok q=>.ok ⟨q.2,v++[⟨3,Cd.un q.1,Cd.E0,0⟩],z1⟩:Cd.Rs Cd.S)=R):=hid (by rw[<-HRR.out];rfl)
  go_wp2_with fail;refine(sF q0 q1 q2 q3 bb w0 V2 g ⟨p,v,z1⟩ _ hbb HA2.out.rdr).mono ?_;obtain⟨O,HO⟩:∃ O,Hid (Cd.num bb.data.toList p=O):=⟨_,hid rfl⟩;try simp only
  rw[HO.out];rw[HO.out]at HRB;cases O with
  |error pe =>
   obtain rfl:=HRB.out;rintro e w1⟨rfl,hb1⟩;(unfold Cd.pan;go_wp2_with fail;exact⟨rfl,rfl,hb1⟩)
  |ok q =>
   obtain⟨m,q'⟩:=q;obtain rfl:=HRB.out;have ZQ:=(Cd.yK HO.out).1;rintro e w1⟨rfl,hg1,hr1⟩;simp only at hr1 ⊢;have HA3:=hid (HA2.out.num hg1 hr1);(clear r0 c0 c1 c2 c3 c4 c5 c6 c7 f0 f1 f2 f3 f4 f5 f6 f7 t0 t1)
   clear hg1 hr1 HA2;go_wp2_with fail;refine(Td m ZQ _).mono ?_;rintro e w2⟨rfl,rfl⟩;go_wp2_with fail;refine(rH q0 q1 q2 q3 bb w0 w2 g w.heap.size ⟨q',v,z1⟩ _ ⟨3,Cd.un m,Cd.E0,0⟩ HA3.out.rdr HA3.out.rb_ HVL.out).mono ?_;rintro e w3⟨rfl,hp⟩;have HP:=hid hp;clear hp;go_wp2_with fail;refine bodyPost_end (results_none rfl _ _ _) rfl ?_;obtain⟨v2,ha⟩:=HA3.out.put HP.out;exact ha.fin
 by_cases k4:xk=4
 case pos =>
  subst k4;have HRB:Hid ((match Cd.num bb.data.toList p with
   | .error e=>.error e
   | .ok q=>Cd.F8 bb.data.toList ⟨p,v,z1⟩ q:Cd.Rs Cd.S)=R):=hid (by rw[<-HRR.out];rfl)
  go_wp2_with fail;refine(sF q0 q1 q2 q3 bb w0 V2 g ⟨p,v,z1⟩ _ hbb HA2.out.rdr).mono ?_;obtain⟨O,HO⟩:∃ O,Hid (Cd.num bb.data.toList p=O):=⟨_,hid rfl⟩;try simp only
  rw[HO.out];rw[HO.out]at HRB;cases O with
  |error pe =>
   obtain rfl:=HRB.out;rintro e w1⟨rfl,hb1⟩;(unfold Cd.pan;go_wp2_with fail;exact⟨rfl,rfl,hb1⟩)
  |ok q =>
   obtain⟨m,q'⟩:=q;have HRD:Hid ((if 4096<z1+m then .error (p,3)else if bb.size<q'+m then .error (bb.size,160)else .ok ⟨q'+m,v++[⟨4,0,Cd.qO bb.data.toList q' m,0⟩],z1+m⟩:Cd.Rs Cd.S)=R):=hid (by
    rw[<-HRB.out];simp only;unfold Cd.F8;rw[show bb.data.toList.length=bb.size by simp];rfl)
   rintro e w1⟨rfl,hg1,hr1⟩;simp only at hr1 ⊢;have HA3:=hid (HA2.out.num hg1 hr1);have hq':q'<=bb.size:=hr1.ha;(clear r0 c0 c1 c2 c3 c4 c5 c6 c7 f0 f1 f2 f3 f4 f5 f6 f7 t0 t1)
   clear hg1 hr1 HA2 HRB HRR;(obtain⟨r0,-⟩:=HA3.out.rb_.k1;obtain⟨⟨c0,c1,c2,c3,c4,c5,c6,c7⟩,f0,f1,f2,f3,f4,f5,f6,f7⟩:=Bk.k8 HA3.out.rdr.box;obtain⟨t0,t1⟩:=HA3.out.typ.cells)
   simp only at c5 c7 t0 t1;have hs1:IntKind.i64.wrap (4096 - (z1:Int))=4096 - (z1:Int):=by rw[IntKind.wrap_i64];omega
   have hs2:IntKind.u64.wrap (4096 - (z1:Int))=4096 - (z1:Int):=by rw[IntKind.wrap_u64];omega
   by_cases h1:4096<z1+m
   case pos =>
    have HE:Hid (R=.error (p,3)):=hid (by rw[<-HRD.out,if_pos h1]);obtain rfl:=HE.out;have h2:4096 - (z1:Int)<(m:Int):=by omega
    go_wp2_with fail;refine(jE p 3 _).mono ?_;rintro e w2⟨rfl,rfl⟩;(unfold Cd.pan;go_wp2_with fail;exact⟨rfl,rfl,HA3.out.rdr.bel⟩)
   have h2:¬4096 - (z1:Int)<(m:Int):=by omega
   have hs3:IntKind.i64.wrap ((bb.size:Int) - (q':Int))=(bb.size:Int) - (q':Int):=by rw[IntKind.wrap_i64];omega
   have hs4:IntKind.u64.wrap ((bb.size:Int) - (q':Int))=(bb.size:Int) - (q':Int):=by rw[IntKind.wrap_u64];omega
   go_wp2_with fail;by_cases h3:bb.size<q'+m
   case pos =>
    have HE:Hid (R=.error (bb.size,160)):=hid (by rw[<-HRD.out,if_neg h1,if_pos h3]);obtain rfl:=HE.out;have h4:(bb.size:Int) - (q':Int)<(m:Int):=by omega
    go_quiet (fail);go_wp2_with fail;refine(jE bb.size 160 _).mono ?_;rintro e w2⟨rfl,rfl⟩;(unfold Cd.pan;go_wp2_with fail;exact⟨rfl,rfl,below_drewN HA3.out.rdr.bel _⟩)
   have HE:Hid (R=.ok ⟨q'+m,v++[⟨4,0,Cd.qO bb.data.toList q' m,0⟩],z1+m⟩):=hid (by rw[<-HRD.out,if_neg h1,if_neg h3]);obtain rfl:=HE.out;have h4:¬(bb.size:Int) - (q':Int)<(m:Int):=by omega
   go_quiet (fail);go_upto_region 23 with(fail)
   have HA4:=hid (HA3.out.below (below_drewN (Below.refl _ _) nq));(clear r0 c0 c1 c2 c3 c4 c5 c6 c7 f0 f1 f2 f3 f4 f5 f6 f7 t0 t1)
   generalize w1.drewN nq=W at *;clear HA3;have hs5:IntKind.i64.wrap (m:Int)=(m:Int):=by rw[IntKind.wrap_i64];omega
   have hs6:IntKind.i64.wrap ((q':Int)+(m:Int))=(q':Int)+(m:Int):=by rw[IntKind.wrap_i64];omega
   have hs7:IntKind.i64.wrap ((z1:Int)+(m:Int))=(z1:Int)+(m:Int):=by rw[IntKind.wrap_i64];omega
   have i0:(0:Int)<=(q':Int):=by omega
   have i1:(q':Int)<=(q':Int)+(m:Int):=by omega
   have i2:(q':Int)+(m:Int)<=(bb.size:Int):=by omega
   have i3:((q':Int)+(m:Int)).toNat=q'+m:=by omega
   have d0:∀ w',Bl W w'->w'.cell? ⟨w.heap.size,0,none⟩=some (.pointer (some ⟨g,0,none⟩)):=λw' hb=>(Bk.k1 (HA4.out.below hb).rb_).1
   have d4:∀ w',Bl W w'->w'.cell? ⟨g,4,none⟩=some (.string bb):=λw' hb=>(Bk.k8 (HA4.out.below hb).rdr.box).1.2.2.2.2.1
   have d5:∀ w',Bl W w'->w'.cell? ⟨g,5,none⟩=some (.int .i64 (q':Nat)):=λw' hb=>(Bk.k8 (HA4.out.below hb).rdr.box).1.2.2.2.2.2.1
   refine Lst.dD W (Bl.refl W) (by simp only[yA,xZ];rfl) (by kernel_rfl) (by kernel_rfl) (by kernel_rfl) rfl ?_;simp only[yC,yB];repeat(first|go_big_quiet_step(fail)|(refine wpQuiet_step (λK hK=>?_);rw[if_pos (by rfl)];refine Lst.aV _ _ rfl _ rfl _ (by assumption) _ Tryz.underlying116 rfl ?_;go_simp;refine hK _ ?_;clear hK K)|(refine wpQuiet_step (λK hK=>?_);rw[if_pos (by rfl)];refine Lst.aV _ _ rfl _ rfl _ (by assumption) _ Tryz.underlying9 rfl ?_;go_simp;refine hK _ ?_;clear hK K)|(refine wpQuiet_step (λK hK=>?_);rw[if_pos (by rfl)];refine Lst.aV _ _ rfl _ rfl _ (by assumption) _ Tryz.underlying3 rfl ?_;go_simp;refine hK _ ?_;clear hK K)|(refine wpQuiet_step (λK hK=>?_);go_simp;refine⟨_,λ_ _=>rfl,hK _ ?_⟩;clear hK K))
   refine wpQuiet_nil ?_;intro X1 hX1 K hK;have HA5:=hid (HA4.out.below hX1);clear d0 d4 d5 hX1 HA4;go_simp;have hcut:bb.extract q' (q'+m)=Cd.qO bb.data.toList q' m:=by
    unfold Cd.qO;apply ByteArray.ext;apply Array.ext';simp[List.take_drop]
   rw[hcut];refine(rH q0 q1 q2 q3 bb w0 X1 g w.heap.size ⟨q',v,z1⟩ _ ⟨4,0,Cd.qO bb.data.toList q' m,0⟩ HA5.out.rdr HA5.out.rb_ HVL.out).mono ?_;rintro e X2⟨rfl,hp⟩;refine hK _ _ ?_;obtain⟨v2,ha⟩:=HA5.out.put hp;have HA6:=hid ha;clear hp ha hK K HA5 hcut;(obtain⟨r0,-⟩:=HA6.out.rb_.k1;obtain⟨⟨c0,c1,c2,c3,c4,c5,c6,c7⟩,f0,f1,f2,f3,f4,f5,f6,f7⟩:=Bk.k8 HA6.out.rdr.box;obtain⟨t0,t1⟩:=HA6.out.typ.cells)
   simp only at c5 c7 t0 t1;go_wp2_with fail;have h5:q'+m<=bb.size:=by omega
   have h6:z1+m<=4096:=by omega
   have hfin:=(HA6.out.at_ (q'+m) h5).Ik (z1+m) h6;rw[Int.natCast_add,Int.natCast_add]at hfin;refine bodyPost_end (results_none rfl _ _ _) rfl ?_;exact hfin.fin
 have HNL:Hid (¬Cd.jS xk):=hid (by unfold Cd.jS;omega);by_cases k5:xk=5
 case pos =>
  subst k5;have hot:Chk.okT s t=true:=Vl.zl HTT.out (by simp);have hpos:=List.length_pos_iff.2 (Vl.y8 hot);have HOT:=hid hot;have HTL:Hid (t.length<=12):=hid (by have:=HLT.out;omega);have hn2:2<=n:=by have:=HLT.out;omega
  have i1:(1:Int)<=(n:Int):=by omega
  have i2:(1:Int)<=(c:Int):=by omega
  have i3:(n:Int)<=(c:Int):=by omega
  have i4:((n:Int) - 1).toNat=n - 1:=by omega
  have i5:((c:Int) - 1).toNat=c - 1:=by omega
  have i6:¬c=1:=by omega
  have i7:¬n=1:=by omega
  clear hot hpos;go_wp2_with fail;refine(sF q0 q1 q2 q3 bb w0 V2 g ⟨p,v,z1⟩ _ hbb HA2.out.rdr).mono ?_;obtain⟨O,HO⟩:∃ O,Hid (Cd.num bb.data.toList p=O):=⟨_,hid rfl⟩;try simp only
  rw[HO.out];cases O with
  |error pe =>
   have HE:Hid (R=.error pe):=hid (by rw[<-HRR.out,if_neg HNL.out];unfold Cd.rG;rw[if_pos rfl];simp only;rw[HO.out];rfl);obtain rfl:=HE.out;rintro e w1⟨rfl,hb1⟩;(unfold Cd.pan;go_wp2_with fail;exact⟨rfl,rfl,hb1⟩)
  |ok q =>
   obtain⟨m,q'⟩:=q;have HRD:Hid ((if 4096<m then .error (p,3)else Cd.gI (Cd.dZ s bb.data.toList k) (List.replicate m t) ⟨q',v++[⟨5,0,Cd.E0,m⟩],z1⟩:Cd.Rs Cd.S)=R):=hid (by
    rw[<-HRR.out,if_neg HNL.out];unfold Cd.rG;rw[if_pos rfl];simp only;rw[HO.out];simp only;split<;>rfl)
   rintro e w1⟨rfl,hg1,hr1⟩;simp only at hr1 ⊢;have HA3:=hid (HA2.out.num hg1 hr1);(clear r0 c0 c1 c2 c3 c4 c5 c6 c7 f0 f1 f2 f3 f4 f5 f6 f7 t0 t1)
   clear hg1 hr1 HA2 HRR;by_cases h1:4096<m
   case pos =>
    have HE:Hid (R=.error (p,3)):=hid (by rw[<-HRD.out,if_pos h1]);obtain rfl:=HE.out;have h2:(4096:Int)<(m:Int):=by omega
    go_wp2_with fail;refine(jE p 3 _).mono ?_;rintro e w2⟨rfl,rfl⟩;(unfold Cd.pan;go_wp2_with fail;exact⟨rfl,rfl,HA3.out.rdr.bel⟩)
   have h2:¬(4096:Int)<(m:Int):=by omega
   have HRM:Hid (Cd.gI (Cd.dZ s bb.data.toList k) (List.replicate m t) ⟨q',v++[⟨5,0,Cd.E0,m⟩],z1⟩=R):=hid (by rw[<-HRD.out,if_neg h1]);have hs5:IntKind.i64.wrap (m:Int)=(m:Int):=by rw[IntKind.wrap_i64];omega
   have hwa:IntKind.i64.wrap ((ar:Int)+1)=(ar:Int)+1:=by rw[IntKind.wrap_i64];omega
   go_wp2_with fail;refine(rH q0 q1 q2 q3 bb w0 w1 g w.heap.size ⟨q',v,z1⟩ _ ⟨5,0,Cd.E0,m⟩ HA3.out.rdr HA3.out.rb_ HVL.out).mono ?_;rintro e w2⟨rfl,hp⟩;obtain⟨v2,ha⟩:=HA3.out.put hp;have HA4:=hid ha;clear hp ha HA3 HRD HO;go_wp2_with fail;go_loopw [158] (λu wr=>∃(j:Nat)(y:Cd.S)(v3:Value),j<=m/\u=.int .u64 j/\Hid (Cd.gI (Cd.dZ s bb.data.toList k) (List.replicate (m - j) t) y=R)/\Hid (Cd.At q0 q1 q2 q3 bb w0 g w.heap.size g7 fG n c ⟨5,xn⟩ t w wr y v3)) (λu _=>m - (intOf u).toNat)
   case atStart=>exact⟨0,_,_,by omega,rfl,HRM,HA4⟩
   case round =>
    obtain⟨j,y,v3,hj,rfl,HRJ,HAJ⟩:=hrel;obtain⟨W,rfl⟩:∃ w',w'=wr:=⟨_,rfl⟩;clear HA4;by_cases hlt:j<m
    case neg =>
     have HE:Hid (R=.ok y):=hid (by rw[<-HRJ.out,show m - j=0 by omega];rfl);obtain rfl:=HE.out;have h3:¬(j:Int)<(m:Int):=by omega
     go_wp2_with fail;refine bodyPost_end (results_none rfl _ _ _) rfl ?_;exact HAJ.out.fin
    have h3:(j:Int)<(m:Int):=by omega
    have HRK:Hid (Cd.gI (Cd.dZ s bb.data.toList k) (t::List.replicate (m - (j+1)) t) y=R):=hid (by rw[<-HRJ.out,show m - j=(m - (j+1))+1 by omega];rfl);have d0:∀ w',Bl W w'->w'.cell? ⟨w.heap.size,0,none⟩=some (.pointer (some ⟨g,0,none⟩)):=λw' hb=>(Bk.k1 (HAJ.out.below hb).rb_).1
    go_upto_region 33 with(fail)
    refine Lst.dD W (Bl.refl W) (by simp only[yA,xZ];rfl) (by kernel_rfl) (by kernel_rfl) (by kernel_rfl) rfl ?_;simp only[yC,yB];repeat(first|go_big_quiet_step(fail)|(refine wpQuiet_step (λK hK=>?_);rw[if_pos (by rfl)];refine Lst.aV _ _ rfl _ rfl _ (by assumption) _ Tryz.underlying116 rfl ?_;go_simp;refine hK _ ?_;clear hK K)|(refine wpQuiet_step (λK hK=>?_);go_simp;refine⟨_,λ_ _=>rfl,hK _ ?_⟩;clear hK K))
    refine wpQuiet_nil ?_;intro X1 hX1 K hK;have HA5:=hid (HAJ.out.below hX1);clear d0 hX1 HAJ;go_simp;refine(HIH.out _ t y v3 X1 HOT.out HTL.out HA5.out.rdr HA5.out.typ.tail).mono ?_;obtain⟨D,HD⟩:∃ D,Hid (Cd.dZ s bb.data.toList k t y=D):=⟨_,hid rfl⟩;rw[HD.out];cases D with
    |error pe =>
     have HE:Hid (R=.error pe):=hid (by rw[<-HRK.out];exact Cd.wI HD.out);obtain rfl:=HE.out;rintro e w7⟨rfl,hb7⟩;clear hK;(unfold Cd.pan;go_wp2_with fail;exact⟨rfl,rfl,hb7⟩)
    |ok y2 =>
     have HE:Hid (Cd.gI (Cd.dZ s bb.data.toList k) (List.replicate (m - (j+1)) t) y2=R):=hid (by rw[<-HRK.out,Cd.zy HD.out]);rintro e w7⟨rfl,hp7⟩;obtain⟨v4,ha⟩:=HA5.out.put hp7;have HA6:=hid ha;clear hp7 ha HA5;refine hK _ _ ?_;clear hK K;go_wp2_with fail;go_roundw
     case rel=>exact⟨j+1,y2,v4,by omega,by go_num,HE,HA6⟩
     case measure=>simp[intOf];omega
 by_cases k6:xk=6
 case pos =>
  subst k6;have hot:Chk.okT s t=true:=Vl.zl HTT.out (by simp);have hpos:=List.length_pos_iff.2 (Vl.y8 hot);have HOT:=hid hot;have HTL:Hid (t.length<=12):=hid (by have:=HLT.out;omega);have hn2:2<=n:=by have:=HLT.out;omega
  have i1:(1:Int)<=(n:Int):=by omega
  have i2:(1:Int)<=(c:Int):=by omega
  have i3:(n:Int)<=(c:Int):=by omega
  have i4:((n:Int) - 1).toNat=n - 1:=by omega
  have i5:((c:Int) - 1).toNat=c - 1:=by omega
  have i6:¬c=1:=by omega
  have i7:¬n=1:=by omega
  clear hot hpos;go_wp2_with fail;refine(KA q0 q1 q2 q3 bb w0 V2 g ⟨p,v,z1⟩ _ hbb HA2.out.rdr).mono ?_;obtain⟨O,HO⟩:∃ O,Hid (Cd.bit bb.data.toList p=O):=⟨_,hid rfl⟩;try simp only
  rw[HO.out];cases O with
  |error pe =>
   have HE:Hid (R=.error pe):=hid (by rw[<-HRR.out,if_neg HNL.out];unfold Cd.rG;rw[if_neg (show ¬(6:Nat)=5 by decide),if_pos rfl];simp only;rw[HO.out];rfl);obtain rfl:=HE.out;rintro e w1⟨rfl,hb1⟩;(unfold Cd.pan;go_wp2_with fail;exact⟨rfl,rfl,hb1⟩)
  |ok q =>
   obtain⟨m,q'⟩:=q;have hm1:m<=1:=(Cd.KG HO.out).1;have HRM:Hid (Cd.gI (Cd.dZ s bb.data.toList k) (List.replicate m t) ⟨q',v++[⟨6,0,Cd.E0,m⟩],z1⟩=R):=hid (by
    rw[<-HRR.out,if_neg HNL.out];unfold Cd.rG;rw[if_neg (show ¬(6:Nat)=5 by decide),if_pos rfl];simp only;rw[HO.out];rfl)
   rintro e w1⟨rfl,hg1,hr1⟩;simp only at hr1 ⊢;have HA3:=hid (HA2.out.num hg1 hr1);(clear r0 c0 c1 c2 c3 c4 c5 c6 c7 f0 f1 f2 f3 f4 f5 f6 f7 t0 t1)
   clear hg1 hr1 HA2 HRR HO;have hwa:IntKind.i64.wrap ((ar:Int)+1)=(ar:Int)+1:=by rw[IntKind.wrap_i64];omega
   go_wp2_with fail;refine(rH q0 q1 q2 q3 bb w0 w1 g w.heap.size ⟨q',v,z1⟩ _ ⟨6,0,Cd.E0,m⟩ HA3.out.rdr HA3.out.rb_ HVL.out).mono ?_;rintro e W⟨rfl,hp⟩;obtain⟨v3,ha⟩:=HA3.out.put hp;have HAJ:=hid ha;clear hp ha HA3;by_cases hm:m=1
   case neg =>
    obtain rfl:m=0:=by omega
    have HE:Hid (R=.ok ⟨q',v++[⟨6,0,Cd.E0,(0:Nat)⟩],z1⟩):=hid (by rw[<-HRM.out];rfl);obtain rfl:=HE.out;go_wp2_with fail;refine bodyPost_end (results_none rfl _ _ _) rfl ?_;exact HAJ.out.fin
   subst hm;have HRK:Hid (Cd.gI (Cd.dZ s bb.data.toList k) [t] ⟨q',v++[⟨6,0,Cd.E0,(1:Nat)⟩],z1⟩=R):=hid HRM.out;have d0:∀ w',Bl W w'->w'.cell? ⟨w.heap.size,0,none⟩=some (.pointer (some ⟨g,0,none⟩)):=λw' hb=>(Bk.k1 (HAJ.out.below hb).rb_).1
   go_upto_region 39 with(fail)
   refine Lst.dD W (Bl.refl W) (by simp only[yA,xZ];rfl) (by kernel_rfl) (by kernel_rfl) (by kernel_rfl) rfl ?_;simp only[yC,yB];repeat(first|go_big_quiet_step(fail)|(refine wpQuiet_step (λK hK=>?_);rw[if_pos (by rfl)];refine Lst.aV _ _ rfl _ rfl _ (by assumption) _ Tryz.underlying116 rfl ?_;go_simp;refine hK _ ?_;clear hK K)|(refine wpQuiet_step (λK hK=>?_);go_simp;refine⟨_,λ_ _=>rfl,hK _ ?_⟩;clear hK K))
   refine wpQuiet_nil ?_;intro X1 hX1 K hK;have HA5:=hid (HAJ.out.below hX1);clear d0 hX1 HAJ;go_simp;refine(HIH.out _ t _ v3 X1 HOT.out HTL.out HA5.out.rdr HA5.out.typ.tail).mono ?_;obtain⟨D,HD⟩:∃ D,Hid (Cd.dZ s bb.data.toList k t ⟨q',v++[⟨6,0,Cd.E0,(1:Nat)⟩],z1⟩=D):=⟨_,hid rfl⟩;rw[HD.out];cases D with
   |error pe =>
    have HE:Hid (R=.error pe):=hid (by rw[<-HRK.out];exact Cd.wI HD.out);obtain rfl:=HE.out;rintro e w7⟨rfl,hb7⟩;clear hK;(unfold Cd.pan;go_wp2_with fail;exact⟨rfl,rfl,hb7⟩)
   |ok y2 =>
    have HE:Hid (R=.ok y2):=hid (by rw[<-HRK.out,Cd.zy HD.out];rfl);obtain rfl:=HE.out;rintro e w7⟨rfl,hp7⟩;obtain⟨v4,ha⟩:=HA5.out.put hp7;have HA6:=hid ha;clear hp7 ha HA5;refine hK _ _ ?_;clear hK K;go_wp2_with fail;refine bodyPost_end (results_none rfl _ _ _) rfl ?_;exact HA6.out.fin
 have hk7:xk=7/\t=[]/\(Chk.find s xn).isSome=true:=by
  rcases HKN.out with h|h|h|h
  ·exact absurd (show Cd.jS xk from h) HNL.out
  ·exact absurd h k5
  ·exact absurd h k6
  ·exact h
 obtain⟨rfl,rfl,hfs⟩:=hk7;have HRN:Hid (Cd.goD (Cd.dZ s bb.data.toList k) (Cd.Vt ((Chk.find s xn).getD Chk.ny) bb.data.toList ⟨p,v,z1⟩)=R):=hid (by
  rw[<-HRR.out,if_neg HNL.out];unfold Cd.rG;rw[if_neg (show ¬(7:Nat)=5 by decide),if_neg (show ¬(7:Nat)=6 by decide)];rfl)
 have hnm:=HNM.out xn hfs ⟨p,v,z1⟩ (.slice A9 n9 c9);rw[HRN.out]at hnm;have HNN:=hid hnm;have d0:∀ w',Bl V2 w'->w'.cell? ⟨w.heap.size,0,none⟩=some (.pointer (some ⟨g,0,none⟩)):=λw' hb=>(Bk.k1 (HA2.out.below hb).rb_).1
 have d1:∀ w',Bl V2 w'->w'.cell? ⟨g7,fG+1,none⟩=some (.string xn):=λw' hb=>(HA2.out.below hb).typ.cells.2
 clear HNM HRR HRN hnm hfs k1 k2 k3 k4 k5 k6 HKN HTT;go_upto_region 10 with(fail)
 (clear r0 c0 c1 c2 c3 c4 c5 c6 c7 f0 f1 f2 f3 f4 f5 f6 f7 t0 t1)
 refine Lst.dD V2 (Bl.refl V2) (by simp only[yA,xZ];rfl) (by kernel_rfl) (by kernel_rfl) (by kernel_rfl) rfl ?_;simp only[yC,yB];repeat(first|go_big_quiet_step(fail)|(refine wpQuiet_step (λK hK=>?_);rw[if_pos (by rfl)];refine Lst.aV _ _ rfl _ rfl _ (by assumption) _ Tryz.underlying116 rfl ?_;go_simp;refine hK _ ?_;clear hK K)|(refine wpQuiet_step (λK hK=>?_);rw[if_pos (by rfl)];refine Lst.aV _ _ rfl _ rfl _ (by assumption) _ Tryz.underlying9 rfl ?_;go_simp;refine hK _ ?_;clear hK K)|(refine wpQuiet_step (λK hK=>?_);go_simp;refine⟨_,λ_ _=>rfl,hK _ ?_⟩;clear hK K))
 refine wpQuiet_nil ?_;intro X1 hX1 K hK;have HA5:=hid (HA2.out.below hX1);clear d0 d1 hX1 HA2;go_simp;refine(HNN.out X1 HVL.out HA5.out.rdr).mono ?_;cases R with
 |error pe =>
  rintro e w7⟨rfl,hb7⟩;clear hK;(unfold Cd.pan;go_wp2_with fail;exact⟨rfl,rfl,hb7⟩)
 |ok y2 =>
  rintro e w7⟨rfl,hp7⟩;obtain⟨v4,ha⟩:=HA5.out.put hp7;have HA6:=hid ha;clear hp7 ha HA5;refine hK _ _ ?_;clear hK K;go_wp2_with fail;refine bodyPost_end (results_none rfl _ _ _) rfl ?_;exact HA6.out.fin
theorem PY(s:Id.Sch)(q0 q1 q2 q3:Value)(bb:ByteArray)(w0:World)(g:Nat):Cd.zV s q0 q1 q2 q3 bb w0 g 0:=by
 intro tv t x vv w ht h12 hr hst;obtain⟨p,v,z⟩:=x;have HRD:=hid hr;have e0:(12 - ((0:Nat):Int))=12:=by omega
 rw[e0];have HE:Cd.dZ s bb.data.toList 0 t ⟨p,v,z⟩=.error (p,151):=rfl;rw[HE];obtain⟨A,n,c,rfl⟩:=ah.is hst.now;clear hr hst ht h12 HE e0;go_enter Tryz.func60,Tryz.ntmps60;go_upto_region 1 with(fail)
 refine ak (λV hV=>?_);obtain⟨hb,hq,hVs⟩:=ay hV;clear hV;have HR2:=hid (HRD.out.below hb);obtain⟨r0,-⟩:=hq.k1;obtain⟨⟨c0,c1,c2,c3,c4,c5,c6,c7⟩,-⟩:=Bk.k8 HR2.out.box;simp only at c5 c7;clear hb hq hVs HRD;go_wp2_with fail;refine(jE p 151 _).mono ?_;rintro e w2⟨rfl,rfl⟩;(unfold Cd.pan;go_wp2_with fail;exact⟨rfl,rfl,HR2.out.bel⟩)
theorem ES(s:Id.Sch)(hF:Chk.Fine s)(hR:Chk.Right s)(q0 q1 q2 q3:Value)(bb:ByteArray)(hbb:bb.size<=1000000)(w0:World)(g:Nat)(hs:Id.aY w0 none (.agg #[q0,q1,q2,q3]) s):∀ k,k<=12->Cd.zV s q0 q1 q2 q3 bb w0 g k
 |0,_=>PY s q0 q1 q2 q3 bb w0 g
 |k+1,h=>PZ s hF hR q0 q1 q2 q3 bb hbb w0 g k h hs (ES s hF hR q0 q1 q2 q3 bb hbb w0 g hs k (by omega))
namespace Cd
open Id Chk Vl Ev
def qN(n:Vl.Node):List UInt8 :=
 if n.kind=2 then[UInt8.ofNat (n.int % 256).toNat]else if n.kind=3 then var (zz n.int)else if n.kind=4 then var n.text.size++n.text.data.toList
 else if n.kind=5 then var (n.kids % 18446744073709551616).toNat else if n.kind=6 then[UInt8.ofNat (n.kids % 256).toNat]else if n.kind=8 then var (n.int % 18446744073709551616).toNat else[]
def gy(v:List Vl.Node):List UInt8:=v.flatMap qN
theorem PI{v:List Vl.Node}{k:Nat}(h:k<v.length):gy (v.take (k+1))=gy (v.take k)++qN v[k]:=by
 unfold gy;rw[List.take_succ_eq_append_getElem h,List.flatMap_append];simp
theorem Vq(n:Vl.Node):(qN n).length<=10+n.text.size:=by
 unfold qN;have h1:=λu=>(mO u).2
 split
 ·simp;omega
 ·split
  ·have:=h1 (zz n.int);omega
  ·split
   ·rw[xI];have:=h1 n.text.size;simp;omega
   ·split
    ·have:=h1 (n.kids % 18446744073709551616).toNat;omega
    ·split
     ·simp;omega
     ·split
      ·have:=h1 (n.int % 18446744073709551616).toNat;omega
      ·simp
theorem BK:∀(v:List Vl.Node),(gy v).length<=10 * v.length+nJ v
 |[]=>by simp[gy,nJ]
 |n::v=>by
  have h1:=Vq n;have h2:=BK v;unfold gy nJ at *;simp only[yJ,xI,xJ,List.map_cons,List.sum_cons];omega
theorem yO(v:List Vl.Node)(k:Nat):(gy (v.take k)).length<=(gy v).length:=by
 conv=>rhs;rw[<-List.take_append_drop k v]
 unfold gy;rw[List.flatMap_append,xI];omega
theorem KD(i:Int):Sm.kT (UInt8.ofNat (i % 256).toNat)=.int .u8 (i % 256):=by
 unfold Sm.kT;rw[Sm.ofNat_toNat];congr 1
 omega
def zQ(R:Nat)(v:List Vl.Node):ByteArray:=if R=0 then⟨(gy v).toArray⟩else⟨#[]⟩
theorem EO{n:Vl.Node}(h2:n.kind=2->0<=n.int/\n.int<256)(h5:n.kind=5->0<=n.kids/\n.kids<18446744073709551616)(h6:n.kind=6->0<=n.kids/\n.kids<256)(h8:n.kind=8->0<=n.int/\n.int<18446744073709551616):qN n=jD n:=by
 unfold qN jD;by_cases k2:n.kind=2
 ·obtain⟨a,b⟩:=h2 k2
  rw[if_pos k2,if_pos k2,show n.int % 256=n.int by omega]
 rw[if_neg k2,if_neg k2];by_cases k3:n.kind=3
 ·rw[if_pos k3,if_pos k3]
 rw[if_neg k3,if_neg k3];by_cases k4:n.kind=4
 ·rw[if_pos k4,if_pos k4]
 rw[if_neg k4,if_neg k4];by_cases k5:n.kind=5
 ·obtain⟨a,b⟩:=h5 k5
  rw[if_pos k5,if_pos k5,show n.kids % 18446744073709551616=n.kids by omega]
 rw[if_neg k5,if_neg k5];by_cases k6:n.kind=6
 ·obtain⟨a,b⟩:=h6 k6
  rw[if_pos k6,if_pos k6,show n.kids % 256=n.kids by omega]
 rw[if_neg k6,if_neg k6];by_cases k8:n.kind=8
 ·obtain⟨a,b⟩:=h8 k8
  rw[if_pos k8,if_pos k8,show n.int % 18446744073709551616=n.int by omega]
 rw[if_neg k8,if_neg k8]
theorem Yw{k:Nat}{n:Vl.Node}(hk:jS k)(h:leaf k n=true):qN n=jD n:=by
 unfold leaf at h;simp only[xX,Bool.or_eq_true,beq_iff_eq]at h;obtain⟨⟨⟨h1,h2⟩,h3⟩,h4⟩:=h;unfold jS at hk;refine EO (λh=>?_) (λh=>?_) (λh=>?_) (λh=>?_)<;>omega
theorem YD{s:Sch}{lim:Nat}{c:Srt}{t:List Srt}{n:Vl.Node}{ks:List (List Srt)}(hl:lim<=1000000)(ho:OkN n)(h:kR s lim c t n=some ks):qN n=jD n:=by
 obtain⟨o1,o2,-⟩:=ho;unfold kR at h;split at h
 ·rename_i hc
  unfold kW at h;split at h
  ·rename_i hh
   obtain⟨a1,a2,a3,a4,a5⟩:=hh;unfold Ak at a5;refine EO (λh=>?_) (λh=>?_) (λh=>?_) (λh=>?_)
   ·omega
   ·rw[if_neg (by omega)]at a5
    omega
   ·rw[if_pos (by omega)]at a5
    omega
   ·omega
  ·cases h
 ·unfold mQ at h
  split at h
  ·split at h
   ·rename_i hh
    obtain⟨a1,a2,a3,a4,a5⟩:=hh;refine EO (λh=>?_) (λh=>?_) (λh=>?_) (λh=>?_)<;>omega
   ·cases h
  ·split at h
   ·rename_i hh
    obtain⟨a1,a2,a3,a4⟩:=hh;refine EO (λh=>?_) (λh=>?_) (λh=>?_) (λh=>?_)<;>omega
   ·cases h
theorem RZ{f:List Srt->List Vl.Node->Option (Nat × List Vl.Node)}(hf:∀ t r d r',f t r=some (d,r')->r.length<=1000000->(∀ n∈r,OkN n)->∃ m,r=m++r'/\∀ n∈m,qN n=jD n) :
  ∀(ts:List (List Srt))(d:Nat)(r:List Vl.Node)(e:Nat)(r':List Vl.Node),fQ f ts d r=some (e,r')->r.length<=1000000->(∀ n∈r,OkN n)->∃ m,r=m++r'/\∀ n∈m,qN n=jD n
 |[],d,r,e,r',h,hl,ho=>by
  injection h with h
  injection h with h1 h2
  subst h1 h2;exact⟨[],rfl,λn hn=>absurd hn List.not_mem_nil⟩
 |t::ts,d,r,e,r',h,hl,ho=>by
  unfold fQ at h;split at h
  ·cases h
  ·rename_i p hp
   obtain⟨a,q⟩:=p;obtain⟨m,rfl,hm⟩:=hf t r a q hp hl ho;obtain⟨m',rfl,hm'⟩:=RZ hf ts _ q e r' h (by rw[xI]at hl;omega) (λn hn=>ho n (by simp[hn]));exact⟨m++m',by rw[xU],λn hn=>by rcases List.mem_append.1 hn with h|h;exact hm n h;exact hm' n h⟩
theorem Yq{s:Sch}:∀(F:Nat)(t:List Srt)(r:List Vl.Node)(d:Nat)(r':List Vl.Node),ofF s none F t r=some (d,r')->r.length<=1000000->(∀ n∈r,OkN n)->∃ m,r=m++r'/\∀ n∈m,qN n=jD n
 |0,t,r,d,r',h,hl,ho=>by unfold ofF at h;cases h
 |F+1,[],r,d,r',h,hl,ho=>by unfold ofF at h;cases h
 |F+1,c::t,[],d,r',h,hl,ho=>by unfold ofF at h;cases h
 |F+1,c::t,n::r,d,r',h,hl,ho=>by
  unfold ofF at h;have hon:=ho n (by simp);simp only[xJ]at hl;split at h
  ·rename_i hk
   split at h
   ·rename_i hlf
    injection h with h
    injection h with h1 h2
    subst h1 h2;exact⟨[n],rfl,λn' hn'=>by rw[List.mem_singleton.1 hn'];exact Yw hk hlf⟩
   ·cases h
  ·rename_i hk
   obtain⟨ks,e,hks,rfl,h2⟩:=uJ h;obtain⟨m,rfl,hm⟩:=RZ (λt r d r' hh hll hoo=>Yq F t r d r' hh hll hoo) ks 0 r e r' h2 (by omega) (λn' hn'=>ho n' (by simp[hn']));refine⟨n::m,rfl,λn' hn'=>?_⟩;rcases List.mem_cons.1 hn' with rfl|h
   ·exact YD (by show(m++r').length<=1000000;omega) hon hks
   ·exact hm n' h
theorem JX:∀{v:List Vl.Node},(∀ n∈v,qN n=jD n)->gy v=encs v
 |[],_=>rfl
 |n::v,h=>by
  have h1:=JX (v:=v) (λm hm=>h m (List.mem_cons_of_mem _ hm));have h2:=h n List.mem_cons_self;unfold gy encs at *;rw[yJ,yJ,h1,h2]
theorem Nu:∀{l:List Nat}{a:Nat},a∈l->a<=l.sum
 |[],_,h=>absurd h List.not_mem_nil
 |b::l,a,h=>by
  rw[List.sum_cons];rcases List.mem_cons.1 h with rfl|h
  ·omega
  ·have:=Nu h
   omega
theorem SH{s:Sch}{t:List Srt}{v:List Vl.Node}(h:fits s t v=0)(hl:v.length<=1000000)(ho:∀ n∈v,OkN n):gy v=encs v:=by
 obtain⟨_,_,d,h3,_,_⟩:=CB h;obtain⟨m,e,hm⟩:=Yq _ t v d [] h3 hl ho;rw[List.append_nil]at e;subst e;exact JX hm
noncomputable def decP(s:Sch)(t:List Srt)(b:List UInt8):List Vl.Node × Nat × Nat:=if lG s t≠0 then([],0,lG s t)else match dZ s b 12 t ⟨0,[],0⟩with
 | .error p=>([],p.1,p.2)
 | .ok y=>if y.at_<b.length then([],y.at_,162)else(y.v,0,0)
theorem CZ{s:Sch}(h:Fine s):∀ r∈s.records,r.fields.length<=4096:=λr hr=>xM (h.re r hr).2.1 (by decide)
theorem SG{s:Sch}{t:List Srt}{v:List Vl.Node}(h:fits s t v=0):lG s t=0:=by
 by_cases h0:lG s t=0
 ·exact h0
 ·rw[JQ h0]at h
  exact h
theorem Vm{s:Sch}{t:List Srt}{v:List Vl.Node}(h:fits s t v=0)(ho:∀ n∈v,OkN n)(more:List UInt8):dZ s (gy v++more) 12 t ⟨0,[],0⟩=.ok ⟨(gy v).length,v,size v⟩:=by
 obtain⟨_,_,d,h3,h4,h5⟩:=CB h;have hv:v.length<=4096:=by unfold size at h5;omega
 rw[SH h (by omega) ho];obtain⟨m,e,_,hm⟩:=RG _ t v d [] h3 ho;rw[List.append_nil]at e;subst e;have h6:=hm (encs v++more) 12 ⟨0,[],0⟩ more h4 (by simp) (by simpa using hv) (by simpa using h5);simpa using h6
theorem Vs{s:Sch}{t:List Srt}{v:List Vl.Node}(h:fits s t v=0)(ho:∀ n∈v,OkN n):decP s t (gy v)=(v,0,0):=by
 have h1:=Vm h ho [];rw[List.append_nil]at h1;unfold decP;rw[if_neg (by rw[SG h];simp),h1];simp
theorem Xx{s:Sch}(hF:Fine s){t:List Srt}{b:List UInt8}{v:List Vl.Node}{a e:Nat}(h:decP s t b=(v,a,e)) :
  (e=0->a=0/\fits s t v=0/\gy v=b/\(∀ n∈v,OkN n)/\v.length<=4096/\∀ n∈v,n.text.size<=4096)/\(e≠0->v=[]/\a<=b.length):=by
 unfold decP at h;split at h
 ·rename_i h0
  injection h with h1 h2
  injection h2 with h2 h3
  subst h1 h2 h3;exact⟨λh=>absurd h h0,λ_=>⟨rfl,Nat.zero_le _⟩⟩
 ·rename_i h0
  have h0:lG s t=0:=by omega
  split at h
  ·rename_i p hp
   injection h with h1 h2
   injection h2 with h2 h3
   subst h1 h2 h3;obtain⟨h4,h5⟩:=Nz (CZ hF) 12 t _ p hp (Nat.zero_le _);refine⟨λh=>?_,λ_=>⟨rfl,h4⟩⟩;unfold errs at h5;omega
  ·rename_i y hy
   obtain⟨m,d,g,g2,g3,g4,g5,g6,g7⟩:=Kq (CZ hF) 12 t _ y hy (Nat.zero_le _);split at h
   ·rename_i hlt
    injection h with h1 h2
    injection h2 with h2 h3
    subst h1 h2 h3;exact⟨λh=>(by cases h),λ_=>⟨rfl,by omega⟩⟩
   ·rename_i hlt
    injection h with h1 h2
    injection h2 with h2 h3
    subst h2 h3;have hv:=g.v;simp only[yI]at hv;rw[h1]at hv;subst hv;have h8:=g7 [] (v.length+1) (by simp);rw[List.append_nil]at h8;have hsz:size v<=4096:=by have:=g.sz;simp only at this;omega
    have hvl:v.length<=4096:=by unfold size at hsz;omega
    have hft:fits s t v=0:=by
     rw[JR h0,h8];unfold fitsV;simp only[xO];rw[if_neg (by simp),if_neg (by omega),if_neg (by omega)]
    have hbs:=g.bs;simp only[List.drop_zero]at hbs;rw[xP (by omega),List.append_nil]at hbs;refine⟨λ_=>⟨rfl,hft,by rw[SH hft (by omega) g.ok,hbs],g.ok,hvl,λn hn=>?_⟩,λh=>absurd rfl h⟩;have h9:n.text.size<=(v.map (·.text.size)).sum:=Nu (List.mem_map_of_mem hn);unfold size at hsz;omega
end Cd
theorem Cb{fn:Func}{p q r:Tmp}{tp tq tr:TypeId}(h:fn.results=#[.cell p tp,.cell q tq,.cell r tr])(tmps:Array Value)(P:Program)(w:World) :
  (results fn tmps).run P w=((asAddr (tmps.getD p undef)).run P w).andThen λa w₁=>((loadVar tp a).run P w₁).andThen λx w₂=>((asAddr (tmps.getD q undef)).run P w₂).andThen λa2 w₃=>((loadVar tq a2).run P w₃).andThen λy w₄=>((asAddr (tmps.getD r undef)).run P w₄).andThen λa3 w₅=>((loadVar tr a3).run P w₅).andThen λz w₆=>.ok (.tuple #[x,y,z]) w₆:=by
 simp only[results,h];simp[Sem.run_bind,Result.andThen]
theorem XD(v:Value)(W:World):(Instr.typeAssert (.iface 114 v) 20 114 true).run Tryz.prog W=.ok (.tuple #[v,.bool true]) W:=by kernel_rfl
structure Cd.Res(w:World)(b:Nat)(v a e:Value):Prop where
 v:Bk w b 23 #[v]
 a:Bk w (b+1) 3 #[a]
 e:Bk w (b+2) 29 #[e]
theorem Cd.Res.below{w w':World}{b:Nat}{v a e:Value}(h:Cd.Res w b v a e)(hb:Below w.heap.size w w'):Cd.Res w' b v a e:=⟨h.v.below hb h.v.lt,h.a.below hb h.a.lt,h.e.below hb h.e.lt⟩
theorem Cd.Res.au{w:World}{b:Nat}{v a e v' a' e':Value}(h:Cd.Res w b v a e):Cd.Res (((w.setCell ⟨b,0,none⟩ v').setCell ⟨b+1,0,none⟩ a').setCell ⟨b+2,0,none⟩ e') b v' a' e' :=
 ⟨((h.v.au 0 v').far (p:=⟨b+1,0,none⟩) (by simp) a').far (p:=⟨b+2,0,none⟩) (by simp) e',((h.a.far (p:=⟨b,0,none⟩) (by simp) v').au 0 a').far (p:=⟨b+2,0,none⟩) (by simp) e',((h.e.far (p:=⟨b,0,none⟩) (by simp) v').far (p:=⟨b+1,0,none⟩) (by simp) a').au 0 e'⟩
theorem Df(p q r:Addr)(w:World) :
  CallsD Tryz.prog 59 #[.pointer (some p),.pointer (some q),.pointer (some r)] .returning w λe u' w'=>e=.returned (.tuple #[])/\u'=.returning/\w'=w:=by
 refine callsD_of_wpS Tryz.func59 rfl λc₀ cs hu=>?_
 apply wpS_seq;apply wpS_region;simp[wpOpsS,go_sem,recoverD,hu,Tryz.ntmps59,Exit.thenS];apply wpS_seq;apply wpS_region;simp[wpOpsS,go_sem,Exit.thenS];refine wpS_cond (t:=false) (by simp[Act.eval,Array.replicate]) ?_;simp only[Bool.false_eq_true,if_false];refine wpS_of_wp (wp_skip ?_);cases c₀
 simp_all[bodyPostS,results,Tryz.results59]
theorem DT(b at_ e:Nat)(v0 a0 e0:Value)(older:List PanicEntry)(w:World)(h:Cd.Res w b v0 a0 e0) :
  CallsD Tryz.prog 59 #[.pointer (some ⟨b,0,none⟩),.pointer (some ⟨b+1,0,none⟩),.pointer (some ⟨b+2,0,none⟩)] (.panicking ({ v:=.iface 114 (.agg #[.int .i64 (at_:Nat),.int .i64 (e:Nat)]),recovered:=false }::older)) w λen u' w' =>
   en=.returned (.tuple #[])/\u'=.panicking ({ v:=.iface 114 (.agg #[.int .i64 (at_:Nat),.int .i64 (e:Nat)]),recovered:=true }::older)/\Below b w w'/\Cd.Res w' b (.slice none 0 0) (.int .i64 (at_:Nat)) (.int .i64 (e:Nat)):=by
 have HR:=hid h;have hlt:=h.e.lt;clear h;refine callsD_of_wpS Tryz.func59 rfl λc₀ cs hu=>?_
 apply wpS_seq;apply wpS_region;simp[wpOpsS,go_sem,recoverD,hu,Tryz.ntmps59,Exit.thenS];apply wpS_seq;apply wpS_region;simp[wpOpsS,go_sem,Exit.thenS];refine wpS_cond (t:=true) (by simp[Act.eval,Array.replicate]) ?_;simp only[if_true];refine wpS_of_wp ?_;change Code.wp _ _ _ { tmps:=#[.pointer (some ⟨b,0,none⟩),.pointer (some ⟨b+1,0,none⟩),.pointer (some ⟨b+2,0,none⟩),.iface 114 (.agg #[.int .i64 (at_:Nat),.int .i64 (e:Nat)]),undef,undef,.iface 114 (.agg #[.int .i64 (at_:Nat),.int .i64 (e:Nat)]),.iface 114 (.agg #[.int .i64 (at_:Nat),.int .i64 (e:Nat)]),.bool true,undef,undef,undef,undef,undef,undef,undef,undef,undef,undef,undef,undef],defers:=[] } w
 have hta:=λW=>XD (.agg #[.int .i64 (at_:Nat),.int .i64 (e:Nat)]) W
 go_upto_region 5 with(fail)
 refine ak (λV hV=>?_);obtain⟨hb,hq,hVs⟩:=ay hV;clear hV;have HR2:=hid (HR.out.below hb);have HB:=hid hb;obtain⟨⟨d0,d1⟩,-⟩:=hq.k2;have hne0:¬w.heap.size=b:=by omega
 have hne1:¬w.heap.size=b+1:=by omega
 have hne2:¬w.heap.size=b+2:=by omega
 have hqq:=hid hq;clear hb hq hta;obtain⟨u0,y0⟩:=HR2.out.v.k1;obtain⟨u1,y1⟩:=HR2.out.a.k1;obtain⟨u2,y2⟩:=HR2.out.e.k1;go_region;refine⟨rfl,_,rfl,.tuple #[],?_,rfl,rfl,?_,?_⟩
 ·simp[results,Tryz.results59]
 ·have hlo:b<=w.heap.size:=by omega
  exact((((HB.out.mono hlo).setCell (p:=⟨b,0,none⟩) (xB _) _).setCell (p:=⟨b+1,0,none⟩) (by simp) _).setCell (p:=⟨b+2,0,none⟩) (by simp) _).drew
 ·exact HR2.out.au.below ((Below.refl _ _).drew)
theorem Cd.Res.keep{w:World}{b B:Nat}{v a e v' a' e' vv:Value}{l:List Vl.Node}(h:Cd.Res w b v a e)(hr:Vl.fP w (some B) vv l):Vl.fP (((w.setCell ⟨b,0,none⟩ v').setCell ⟨b+1,0,none⟩ a').setCell ⟨b+2,0,none⟩ e') (some B) vv l:=by
 have k1:Kp B [92] w (w.setCell ⟨b,0,none⟩ v'):=(Only.set h.v 0 v').kp B (by decide);have k2:Kp B [92] (w.setCell ⟨b,0,none⟩ v') ((w.setCell ⟨b,0,none⟩ v').setCell ⟨b+1,0,none⟩ a'):=(Only.set (h.a.far (p:=⟨b,0,none⟩) (by simp) v') 0 a').kp B (by decide);have k3:Kp B [92] ((w.setCell ⟨b,0,none⟩ v').setCell ⟨b+1,0,none⟩ a') (((w.setCell ⟨b,0,none⟩ v').setCell ⟨b+1,0,none⟩ a').setCell ⟨b+2,0,none⟩ e'):=(Only.set ((h.e.far (p:=⟨b,0,none⟩) (by simp) v').far (p:=⟨b+1,0,none⟩) (by simp) a') 0 e').kp B (by decide);exact ah.kp (show ah w (some B) 92 4 Vl.oC vv l from hr) (k1.trans (k2.trans k3)) (xB _) (by decide) (λ_ _ h=>h)
theorem Di(sv:Value)(x:Id.Sch)(hF:Chk.Fine x)(tv:Value)(t:List Id.Srt)(bb:ByteArray)(hbb:bb.size<=1000000)(w:World)(hk:Tk.KW w)(hv:Id.aY w none sv x)(ht:Id.bf w none tv t) :
  Calls Tryz.prog 16 #[sv,tv,.string bb] w λe w'=>∃ vv,e=.returned (.tuple #[vv,.int .i64 (Cd.decP x t bb.data.toList).2.1,.int .i64 (Cd.decP x t bb.data.toList).2.2])/\Below w.heap.size w w'/\Vl.fP w' (some w.heap.size) vv (Cd.decP x t bb.data.toList).1:=by
 obtain⟨R,HR⟩:∃ R,Hid (Cd.decP x t bb.data.toList=R):=⟨_,hid rfl⟩;rw[HR.out];unfold Cd.decP at HR;have HF:=hid hF;have HKW:=hid hk;have HV:=hid hv;have HS:=hid ht;obtain⟨A1,n1,c1,A2,n2,c2,A3,n3,c3,rfl,-,-,-⟩:=hv;have hmf:∀(fn:Fn)(first cap:Array Value)(w:World),(Instr.makeFunc fn first cap).run Tryz.prog w=.ok (.func fn first cap) w:=λ_ _ _ _=>rfl
 clear hF hk ht;go_enter_defers Tryz.func16,Tryz.ntmps16;go_upto_region 1 with(fail)
 refine ak (λV hV=>?_);have HL:Hid (Chk.Lx w V #[.string x.name,.slice A1 n1 c1,.slice A2 n2 c2,.slice A3 n3 c3]):=hid (by
  rw[hV];exact⟨((((Below.refl _ _).alloc (xB _) _).alloc (by simp) _).alloc (by simp;omega) _).alloc (by simp;omega) _,(((Bk.new w _ _).alloc _).alloc _).alloc _⟩)
 have HRS:Hid (Cd.Res V (w.heap.size+1) (.slice none 0 0) (.int .i64 0) (.int .i64 0)):=hid (by
  rw[hV];have h1:=Bk.new (w.alloc (.cells #[.string x.name,.slice A1 n1 c1,.slice A2 n2 c2,.slice A3 n3 c3] 28)) 23 #[.slice none 0 0];have h2:=Bk.new ((w.alloc (.cells #[.string x.name,.slice A1 n1 c1,.slice A2 n2 c2,.slice A3 n3 c3] 28)).alloc (.cells #[.slice none 0 0] 23)) 3 #[.int .i64 0];have h3:=Bk.new (((w.alloc (.cells #[.string x.name,.slice A1 n1 c1,.slice A2 n2 c2,.slice A3 n3 c3] 28)).alloc (.cells #[.slice none 0 0] 23)).alloc (.cells #[.int .i64 0] 3)) 29 #[.int .i64 0];simp only[World.size_alloc]at h1 h2 h3;exact⟨(h1.alloc _).alloc _,h2.alloc _,h3⟩)
 clear hV;obtain⟨⟨q0,q1,q2,q3⟩,-⟩:=HL.out.box.k4;go_wp2_with fail;refine(MK _ x HF.out _ t _ (HKW.out.below HL.out.bel) (Id.aY.below HL.out.bel HV.out) (ah.below HS.out HL.out.bel (λ_ _ h=>h))).mono ?_;obtain⟨T,HT⟩:∃ T,Hid (Vl.lG x t=T):=⟨_,hid rfl⟩;rw[HT.out];rw[HT.out]at HR;rintro e W1⟨rfl,hb⟩;have HL1:=hid (HL.out.below hb);have rM:=hid (HRS.out.below hb);have hW1:w.heap.size+1+2<W1.heap.size:=rM.out.e.lt;clear hb q0 q1 q2 q3 HL HRS;by_cases hT:T=0
 case neg =>
  have HE:Hid (R=([],0,T)):=hid (by rw[<-HR.out,if_pos hT]);obtain rfl:=HE.out;have t1:((T:Int) != 0)=true:=by rw[bne_iff_ne];omega
  have t2:¬(T:Int)=0:=by omega
  obtain⟨u0,y0⟩:=rM.out.v.k1;obtain⟨u1,y1⟩:=rM.out.a.k1;obtain⟨u2,y2⟩:=rM.out.e.k1;go_wp2_with fail;have hres:=rM.out.au (v':=.slice none 0 0) (a':=.int .i64 0) (e':=.int .i64 (T:Nat));have hbel:Below w.heap.size w (((W1.setCell ⟨w.heap.size+1,0,none⟩ (.slice none 0 0)).setCell ⟨w.heap.size+1+1,0,none⟩ (.int .i64 0)).setCell ⟨w.heap.size+1+2,0,none⟩ (.int .i64 (T:Nat))):=((HL1.out.bel.setCell (p:=⟨w.heap.size+1,0,none⟩) (by simp) _).setCell (p:=⟨w.heap.size+1+1,0,none⟩) (by simp;omega) _).setCell (p:=⟨w.heap.size+1+2,0,none⟩) (by simp;omega) _;obtain⟨e0,-⟩:=hres.v.k1;obtain⟨e1,-⟩:=hres.a.k1;obtain⟨e2,-⟩:=hres.e.k1;refine⟨.tuple #[.slice none 0 0,.int .i64 0,.int .i64 (T:Nat)],?_,.slice none 0 0,rfl,hbel,ah.nil _ _ _ _ _⟩;rw[Cb rfl];go_simp
 subst hT;have HTY:Hid (Chk.Right x/\Chk.right x t=true):=hid (Vl.I4 HT.out);have HRP:Hid ((match Cd.dZ x bb.data.toList 12 t ⟨0,[],0⟩with
  | .error p=>([],p.1,p.2)
  | .ok y=>if y.at_<bb.size then([],y.at_,162)else(y.v,0,0):List Vl.Node × Nat × Nat)=R):=hid (by
   rw[<-HR.out,if_neg (by simp),show bb.data.toList.length=bb.size by simp];all_goals(cases Cd.dZ x bb.data.toList 12 t ⟨0,[],0⟩<;>rfl))
 clear HR HT;simp only[xY];have HV1:=hid (Id.aY.below HL1.out.bel HV.out);have HS1:Hid (Id.bf W1 none tv t):=hid (ah.below HS.out HL1.out.bel (λ_ _ h=>h));obtain⟨⟨q0,q1,q2,q3⟩,-⟩:=HL1.out.box.k4;go_upto_region 6 with(fail)
 refine ak (λV2 hV2=>?_);obtain⟨hb2,hq2,-⟩:=ay hV2;clear hV2 q0 q1 q2 q3;have hrd:Cd.Rdr (.string x.name) (.slice A1 n1 c1) (.slice A2 n2 c2) (.slice A3 n3 c3) bb W1 V2 W1.heap.size ⟨0,[],0⟩ (.slice none 0 0):=⟨hb2,xB _,hq2,ah.nil _ _ _ _ _,Nat.zero_le _,Nat.zero_le _,Nat.zero_le _⟩;have hst:Cd.Sts W1.heap.size W1.heap.size V2 tv t:=Cd.Sts.old HS1.out hb2 (xB _);obtain⟨ho1,ho2⟩:=Vl.sV HTY.out.2;have hp:=ES x HF.out HTY.out.1 (.string x.name) (.slice A1 n1 c1) (.slice A2 n2 c2) (.slice A3 n3 c3) bb hbb W1 W1.heap.size HV1.out 12 (xB _) tv t ⟨0,[],0⟩ (.slice none 0 0) V2 ho1 ho2 hrd hst;rw[show(12 - ((12:Nat):Int))=0 by omega]at hp;have HP:=hid hp;clear hp hst hrd hb2 hq2 ho1 ho2 HTY HV1 HS1;go_wp2_with fail;refine HP.out.mono ?_;clear HP;obtain⟨D,HD⟩:∃ D,Hid (Cd.dZ x bb.data.toList 12 t ⟨0,[],0⟩=D):=⟨_,hid rfl⟩;rw[HD.out];rw[HD.out]at HRP;cases D with
 |error pe =>
  have HE:Hid (R=([],pe.1,pe.2)):=hid HRP.out.symm;obtain rfl:=HE.out;rintro e w5⟨rfl,hb5⟩;have HB5:=hid hb5;have vU:=hid (show Cd.Res w5 (w.heap.size+1) _ _ _ from⟨rM.out.v.below hb5 (by omega),rM.out.a.below hb5 (by omega),rM.out.e.below hb5 (by omega)⟩);clear hb5 rM;unfold Cd.pan;go_wp2_with fail;refine leaves_cons (f:=59) (args:=#[.pointer (some ⟨w.heap.size+1,0,none⟩),.pointer (some ⟨w.heap.size+1+1,0,none⟩),.pointer (some ⟨w.heap.size+1+2,0,none⟩)]) (by simp) (by simp[go_sem]) ?_;refine(DT (w.heap.size+1) pe.1 pe.2 _ _ _ [] w5 vU.out).mono ?_;rintro e u' w6⟨rfl,rfl,hb6,hr6⟩;obtain⟨e0,-⟩:=hr6.v.k1;obtain⟨e1,-⟩:=hr6.a.k1;obtain⟨e2,-⟩:=hr6.e.k1;have hbel:Below w.heap.size w w6:=(HL1.out.bel.trans (HB5.out.mono HL1.out.bel.size)).trans (hb6.mono (by omega));refine⟨.tuple #[.slice none 0 0,.int .i64 (pe.1:Nat),.int .i64 (pe.2:Nat)],?_,.slice none 0 0,rfl,hbel,ah.nil _ _ _ _ _⟩;rw[Cb rfl];go_simp
 |ok y =>
  have HRY:Hid ((if y.at_<bb.size then([],y.at_,162)else(y.v,0,0))=R):=hid HRP.out;rintro e w5⟨rfl,hp5⟩;obtain⟨ho5,vv5,hr5⟩:=hp5;have HR5:=hid hr5;have hb5:=hr5.bel;have vU:=hid (show Cd.Res w5 (w.heap.size+1) _ _ _ from⟨rM.out.v.below hb5 (by omega),rM.out.a.below hb5 (by omega),rM.out.e.below hb5 (by omega)⟩);have HB5:=hid (HL1.out.bel.trans (hb5.mono HL1.out.bel.size));obtain⟨p,v,z⟩:=y;obtain⟨A9,n9,c9,rfl⟩:=ah.is hr5.row;obtain⟨⟨c0,c1,c2,c3,c4,c5,c6,c7⟩,-⟩:=Bk.k8 hr5.box;simp only at c5 c7 HRY;have hlo:¬W1.heap.size=w.heap.size+1:=by omega
  have hlo1:¬W1.heap.size=w.heap.size+1+1:=by omega
  have hlo2:¬W1.heap.size=w.heap.size+1+1+1:=by omega
  clear hr5 hb5 rM ho5 HRP HD;by_cases hlt:p<bb.size
  case pos =>
   have HE:Hid (R=([],p,162)):=hid (by rw[<-HRY.out,if_pos hlt]);obtain rfl:=HE.out;have h1:(p:Int)<(bb.size:Int):=by omega
   obtain⟨u0,y0⟩:=vU.out.v.k1;obtain⟨u1,y1⟩:=vU.out.a.k1;obtain⟨u2,y2⟩:=vU.out.e.k1;go_wp2_with fail;go_region;go_wp2_with fail;refine leaves_cons (f:=59) (args:=#[.pointer (some ⟨w.heap.size+1,0,none⟩),.pointer (some ⟨w.heap.size+1+1,0,none⟩),.pointer (some ⟨w.heap.size+1+2,0,none⟩)]) (by simp) (by simp[go_sem]) ?_;refine(Df ⟨w.heap.size+1,0,none⟩ ⟨w.heap.size+1+1,0,none⟩ ⟨w.heap.size+1+2,0,none⟩ _).mono ?_;rintro e u' w6⟨rfl,rfl,rfl⟩;have hres:=vU.out.au (v':=(.slice none 0 0)) (a':=(.int .i64 (p:Nat))) (e':=(.int .i64 162));have hbel:=((HB5.out.setCell (p:=⟨w.heap.size+1,0,none⟩) (by simp) (.slice none 0 0)).setCell (p:=⟨w.heap.size+1+1,0,none⟩) (by simp;omega) (.int .i64 (p:Nat))).setCell (p:=⟨w.heap.size+1+2,0,none⟩) (by simp;omega) (.int .i64 162);obtain⟨e0,-⟩:=hres.v.k1;obtain⟨e1,-⟩:=hres.a.k1;obtain⟨e2,-⟩:=hres.e.k1;refine⟨.tuple #[(.slice none 0 0),(.int .i64 (p:Nat)),(.int .i64 162)],?_,(.slice none 0 0),rfl,hbel.drew,ah.nil _ _ _ _ _⟩;rw[Cb rfl];go_simp
  have HE:Hid (R=(v,0,0)):=hid (by rw[<-HRY.out,if_neg hlt]);obtain rfl:=HE.out;have h1:¬(p:Int)<(bb.size:Int):=by omega
  obtain⟨u0,y0⟩:=vU.out.v.k1;obtain⟨u1,y1⟩:=vU.out.a.k1;obtain⟨u2,y2⟩:=vU.out.e.k1;go_wp2_with fail;refine leaves_cons (f:=59) (args:=#[.pointer (some ⟨w.heap.size+1,0,none⟩),.pointer (some ⟨w.heap.size+1+1,0,none⟩),.pointer (some ⟨w.heap.size+1+2,0,none⟩)]) (by simp) (by simp[go_sem]) ?_;refine(Df ⟨w.heap.size+1,0,none⟩ ⟨w.heap.size+1+1,0,none⟩ ⟨w.heap.size+1+2,0,none⟩ _).mono ?_;rintro e u' w6⟨rfl,rfl,rfl⟩;have hres:=vU.out.au (v':=(.slice A9 n9 c9)) (a':=(.int .i64 0)) (e':=(.int .i64 0));have hbel:=((HB5.out.setCell (p:=⟨w.heap.size+1,0,none⟩) (by simp) (.slice A9 n9 c9)).setCell (p:=⟨w.heap.size+1+1,0,none⟩) (by simp;omega) (.int .i64 0)).setCell (p:=⟨w.heap.size+1+2,0,none⟩) (by simp;omega) (.int .i64 0);obtain⟨e0,-⟩:=hres.v.k1;obtain⟨e1,-⟩:=hres.a.k1;obtain⟨e2,-⟩:=hres.e.k1;refine⟨.tuple #[(.slice A9 n9 c9),(.int .i64 0),(.int .i64 0)],?_,(.slice A9 n9 c9),rfl,hbel,(ah.mono (vU.out.keep HR5.out.row) (λ_ _ hr=>hr.weak (Id.Ec (by omega))) (λ_ _ h=>h))⟩;rw[Cb rfl];go_simp
namespace Vl
open Id Chk
def aaf(w0 w:World)(cs:List Value)(t:List Srt):Prop:=∃ u,cs=[u]/\bf w0 none u t
def V6(w0 w:World)(v:Value)(l:List (List Srt)):Prop:=ah w (some w0.heap.size) 45 1 (aaf w0) v l
theorem V6.below{w0 w w':World}{v:Value}{l:List (List Srt)}(h:V6 w0 w v l)(hb:Below w.heap.size w w'):V6 w0 w' v l:=ah.below h hb (λ_ _ h=>h)
structure Go5(w wr:World)(S nd st:Array Value):Prop where
 bel:Below w.heap.size w wr
 sch:Bk wr w.heap.size 28 S
 node:Bk wr (w.heap.size+1) 92 nd
 sort:Bk wr (w.heap.size+2) 44 st
theorem Go5.below{w wr w':World}{S nd st:Array Value}(h:Go5 w wr S nd st)(hb:Below wr.heap.size wr w'):Go5 w w' S nd st :=
 ⟨h.bel.trans (hb.mono h.bel.size),h.sch.below hb h.sch.lt,h.node.below hb h.node.lt,h.sort.below hb h.sort.lt⟩
theorem Go5.base{w wr w':World}{B:Nat}{S nd st:Array Value}(h:Go5 w wr S nd st)(hb:Below B wr w')(hB:w.heap.size+3<=B):Go5 w w' S nd st :=
 ⟨h.bel.trans (hb.mono (by omega)),h.sch.below hb (by omega),h.node.below hb (by omega),h.sort.below hb (by omega)⟩
end Vl
namespace Vl
end Vl
namespace Vl
open Id Chk Prn
end Vl
namespace Chk
open Id
end Chk
namespace Chk
open Id
def decls(x:Sch):List ByteArray:=(YQ x).map (·.1)
end Chk
namespace Chk
open Id
end Chk
namespace Vl
open Id Chk
theorem oC.one(w:World)(cs:List Value)(x:Node)(h:oC w cs x):∀ u∈cs,u.oneCell'=true:=by
 unfold oC Node.cells at h;subst h;simp[Value.oneCell']
theorem fP.below{w w':World}{B:Option Nat}{v:Value}{l:List Node}(h:fP w B v l)(hb:Below w.heap.size w w'):fP w' B v l:=ah.below h hb (λ_ _ h=>h)
theorem fP.none{w:World}{b:Nat}{v:Value}{l:List Node}(h:fP w (some b) v l):fP w none v l:=ah.mono h (λ_ _ hr=>hr.weak (λb' e'=>by cases e')) (λ_ _ h=>h)
theorem _root_.Go.Proofs.YtogijkhenihaaaaGreatDoor.ah.part{α:Type}{w:World}{t:TypeId}{size n c g off:Nat}{E:World->List Value->α->Prop}{l:List α}(h:ah w none t size E (.slice (some ⟨g,off,none⟩) n c) l){a b:Nat}(hab:a<=b)(hb:b<=n):ah w none t size E (.slice (some ⟨g,off+a * size,none⟩) (b - a) (c - a)) ((l.take b).drop a):=by
 obtain⟨css,h1,h2,h3,h4⟩:=h;obtain⟨hl,A,c',e,h5,h6,h7,h8⟩:=h3;injection e with e1 e2 e3
 subst e1 e2 e3;have hk:∀ cs∈(css.take b).drop a,cs.length=size:=λcs hc=>h2 cs (List.mem_of_mem_take (List.mem_of_mem_drop hc))
 have hlen:((css.take b).drop a).length=b - a:=by rw[List.length_drop,List.length_take,h1];omega
 have hll:((l.take b).drop a).length=b - a:=by rw[List.length_drop,List.length_take];omega
 refine⟨(css.take b).drop a,by rw[hlen,hll],hk,⟨by rw[kD hk,hlen,hll],_,_,by rw[hll],by rw[hll];omega,by omega,(λe=>by cases e),?_⟩,λi p q=>?_⟩
 ·intro h0
  rw[kD hk,hlen]at h0;have hpos:0<l.length * size:=by
   rcases Nat.eq_zero_or_pos size with hz|hz
   ·rw[hz]at h0;omega
   ·refine Nat.mul_pos ?_ hz
    rcases Nat.eq_zero_or_pos (b - a)with hy|hy
    ·rw[hy]at h0;omega
    ·omega
  obtain⟨g',off',e,hc⟩:=h8 (by rw[hl];exact hpos);injection e with e
  injection e with e1 e2
  subst e1 e2;refine⟨_,_,rfl,λj u hu=>?_⟩;have hj:j<((css.take b).drop a).flatten.length:=(List.getElem?_eq_some_iff.1 hu).1;rw[kD hk,hlen]at hj;have hs:0<size:=by rcases Nat.eq_zero_or_pos size with hz|hz;rw[hz]at hj;omega;exact hz
  have hd:j / size<b - a:=(Nat.div_lt_iff_lt_mul hs).2 hj;have hm:j % size<size:=Nat.mod_lt _ hs;have hjd:j=j / size * size+j % size:=by have:=Nat.div_add_mod j size;rw[Nat.mul_comm]at this;omega
  have e3:=pX hk (j:=j / size) (by rw[hlen];exact hd) (j % size) hm;rw[<-hjd,hu]at e3;have e4:=pX h2 (j:=a+j / size) (by rw[h1];omega) (j % size) hm;have e5:((css.take b).drop a)[j / size]'(by rw[hlen];exact hd)=css[a+j / size]'(by rw[h1];omega):=by simp
  rw[e5,<-e4]at e3;have:=hc ((a+j / size) * size+j % size) u e3.symm;rw[Nat.add_mul,Nat.add_assoc,<-hjd,<-Nat.add_assoc]at this;exact this
 ·have e1:((css.take b).drop a)[i]=css[a+i]'(by rw[hlen]at p;omega):=by simp
  have e2:((l.take b).drop a)[i]=l[a+i]'(by rw[hll]at q;omega):=by simp
  rw[e1,e2];exact h4 _ _ _
end Vl
namespace Vl
open Id Chk
def Ez(a b:Node):Bool:=a.kind==b.kind&&a.int==b.int&&a.text.toList==b.text.toList&&a.kids==b.kids
def bD:List Node->List Node->Bool
 |[],[]=>true
 |x::a,y::b=>Ez x y&&bD a b
 |_,_=>false
theorem OQ{a b:Node}:Ez a b=true↔a=b:=by
 obtain⟨a0,a1,a2,a3⟩:=a;obtain⟨b0,b1,b2,b3⟩:=b;unfold Ez;simp only[xX,beq_iff_eq,Node.mk.injEq];constructor
 ·rintro⟨⟨⟨h1,h2⟩,h3⟩,h4⟩;exact⟨h1,h2,Tk.text_eq h3,h4⟩
 ·rintro⟨h1,h2,h3,h4⟩;exact⟨⟨⟨h1,h2⟩,by rw[h3]⟩,h4⟩
theorem AZ:∀{a b:List Node},bD a b=true↔a=b
 |[],[]=>by simp[bD]
 |[],y::b=>by simp[bD]
 |x::a,[]=>by simp[bD]
 |x::a,y::b=>by unfold bD;rw[xX,OQ,AZ,List.cons.injEq]
theorem jZ{a b:List Node}(h:a.length≠b.length):bD a b=false:=by
 rw[Bool.eq_false_iff];intro h2;exact h (by rw[AZ.1 h2])
end Vl
theorem LD(va vb:Value)(a b:List Vl.Node)(w:World)(ha:Vl.fP w none va a)(hb:Vl.fP w none vb b)(hl:a.length<=100000) :
  Calls Tryz.prog 68 #[va,vb] w λe w'=>e=.returned (.bool (Vl.bD a b))/\Below w.heap.size w w':=by
 obtain⟨R,HR⟩:∃ R,Hid (Vl.bD a b=R):=⟨_,hid rfl⟩;rw[HR.out];have HA:=hid ha;have HB:=hid hb;obtain⟨A1,n1,c1,rfl⟩:=ah.is ha;obtain⟨A2,n2,c2,rfl⟩:=ah.is hb;have HN1:Hid (n1=a.length):=hid (by obtain⟨_,_,e,_⟩:=ah.slice ha;injection e);have HN2:Hid (n2=b.length):=hid (by obtain⟨_,_,e,_⟩:=ah.slice hb;injection e);have hn:n1<=100000:=by rw[HN1.out];exact hl
 clear ha hb;go_enter Tryz.func68,Tryz.ntmps68;by_cases hlen:n1=n2
 case neg =>
  have HX:Hid (R=false):=hid (by rw[<-HR.out];exact Vl.jZ (by rw[<-HN1.out,<-HN2.out];exact hlen));have t0:((n1:Int) != (n2:Int))=true:=by rw[bne_iff_ne];omega
  have t1:¬(n1:Int)=(n2:Int):=by omega
  go_wp2_with fail;go_ret;exact⟨by rw[HX.out];rfl,Below.refl _ _⟩
 subst hlen;have t0:((n1:Int) != (n1:Int))=false:=by simp
 go_wp2_with fail;go_loopw [5] (λi wr=>∃(k:Nat),k<=n1/\i=.int .i64 k/\Hid (Vl.bD (a.drop k) (b.drop k)=R)/\Hid (Below w.heap.size w wr)) (λi _=>n1 - (intOf i).toNat)
 case atStart=>exact⟨0,by omega,rfl,HR,hid (Below.refl _ _)⟩
 case round =>
  obtain⟨k,hk,rfl,HK,HBL⟩:=hrel;obtain⟨U,rfl⟩:∃ w',w'=wr:=⟨_,rfl⟩;have ik0:(0:Int)<=(k:Int):=by omega
  by_cases hlt:k<n1
  case neg =>
   have HX:Hid (R=true):=hid (by rw[<-HK.out,xP (by rw[<-HN1.out];omega),xP (by rw[<-HN2.out];omega)];rfl);go_wp2_with fail;go_ret;exact⟨by rw[HX.out];rfl,HBL.out⟩
  have hka:k<a.length:=by rw[<-HN1.out];exact hlt
  have hkb:k<b.length:=by rw[<-HN2.out];exact hlt
  have ik1:(k:Int)<(n1:Int):=by omega
  have hd:=HK.out;rw[xQ hka,xQ hkb]at hd;obtain⟨ga,ZG,csa,hAa,-,ea,hca⟩:=ah.get HA.out hka (by omega);obtain⟨⟨x0,x1,x2,x3⟩,Hxa⟩:∃ y,Hid (a[k]=y):=⟨_,hid rfl⟩;rw[Hxa.out]at ea hd;unfold Vl.oC Vl.Node.cells at ea;subst ea;have a0:=hca 0 _ rfl;have a1:=hca 1 _ rfl;have a2:=hca 2 _ rfl;have a3:=hca 3 _ rfl;simp only[xK]at a0;have Pq:ga<w.heap.size:=xH w _ a0;have a0:=(HBL.out.cell Pq).trans a0;have a1:=(HBL.out.cell Pq).trans a1;have a2:=(HBL.out.cell Pq).trans a2;have a3:=(HBL.out.cell Pq).trans a3;subst hAa;clear hca Hxa;obtain⟨gb,aa6,csb,hAb,-,eb,hcb⟩:=ah.get HB.out hkb (by omega);obtain⟨⟨y0,y1,y2,y3⟩,Hxb⟩:∃ y,Hid (b[k]=y):=⟨_,hid rfl⟩;rw[Hxb.out]at eb hd;unfold Vl.oC Vl.Node.cells at eb;subst eb;have b0:=hcb 0 _ rfl;have b1:=hcb 1 _ rfl;have b2:=hcb 2 _ rfl;have b3:=hcb 3 _ rfl;simp only[xK]at b0;have Po:gb<w.heap.size:=xH w _ b0;have b0:=(HBL.out.cell Po).trans b0;have b1:=(HBL.out.cell Po).trans b1;have b2:=(HBL.out.cell Po).trans b2;have b3:=(HBL.out.cell Po).trans b3;subst hAb;clear hcb Hxb;unfold Vl.bD Vl.Ez at hd;simp only at hd;have HD:=hid hd;clear hd HK;by_cases e0:x0=y0
  case neg =>
   have HX:Hid (R=false):=hid (by rw[<-HD.out,show(x0==y0)=false from beq_eq_false_iff_ne.2 e0];rfl);have t1:((x0:Int)==(y0:Int))=false:=by rw[xG];omega
   have t2:¬(x0:Int)=(y0:Int):=by omega
   go_wp2_with fail;go_quiet (fail);go_wp2_with fail;go_ret;exact⟨by rw[HX.out];rfl,below_drewN HBL.out _⟩
  subst e0;by_cases e1:x1=y1
  case neg =>
   have HX:Hid (R=false):=hid (by rw[<-HD.out,show(x1==y1)=false from beq_eq_false_iff_ne.2 e1,Bool.and_false];rfl);have t1:(x1==y1)=false:=beq_eq_false_iff_ne.2 e1;go_wp2_with fail;go_quiet (fail);go_wp2_with fail;go_ret;exact⟨by rw[HX.out];rfl,below_drewN HBL.out _⟩
  subst e1;cases e2:(x2.toList==y2.toList)
  case false =>
   have HX:Hid (R=false):=hid (by rw[<-HD.out,e2,Bool.and_false];rfl);go_wp2_with fail;go_quiet (fail);go_wp2_with fail;go_ret;exact⟨by rw[HX.out];rfl,below_drewN HBL.out _⟩
  by_cases e3:x3=y3
  case neg =>
   have HX:Hid (R=false):=hid (by rw[<-HD.out,show(x3==y3)=false from beq_eq_false_iff_ne.2 e3,Bool.and_false];rfl);have t1:(x3==y3)=false:=beq_eq_false_iff_ne.2 e3;go_wp2_with fail;go_quiet (fail);go_wp2_with fail;go_ret;exact⟨by rw[HX.out];rfl,below_drewN HBL.out _⟩
  subst e3;have HK2:Hid (Vl.bD (a.drop (k+1)) (b.drop (k+1))=R):=hid (by rw[<-HD.out,e2];simp);clear HD;go_wp2_with fail;go_quiet (fail);go_wp2_with fail;go_roundw
  case rel=>exact⟨k+1,by omega,by go_num,HK2,hid (below_drewN HBL.out _)⟩
  case measure=>simp[intOf];omega
namespace Prn
open Id Chk
end Prn
