import Derived.Test.YtogijkhenihaaaaGreatDoorGT16
import Derived.Deep.DrawnRows
import Derived.Lib.BufferRead
set_option linter.all false
set_option maxRecDepth 100000
set_option maxHeartbeats 0
namespace Go.Proofs.YtogijkhenihaaaaGreatDoor
open Lib (hid)
section
open Go.BigFrame Go.RowKit
namespace Vl
open Id Chk
structure ZB(x:Sch)(t:List Srt)(v:List Node):Prop where
 sch:Ir x
 tl:t.length<=300
 vl:v.length<=6000
 nm:∀ i (h:i<t.length),t[i].name.size<=200
 tx:∀ i (h:i<v.length),v[i].text.size<=6000
end Vl
theorem NP(sv:Value)(x:Id.Sch)(tv:Value)(t:List Id.Srt)(vs:Value)(v:List Vl.Node)(w:World)(hv:Id.aY w none sv x)(ht:Id.bf w none tv t)(hvv:Vl.fP w none vs v) :
  Calls Tryz.prog 11 #[sv,tv,vs] w (Chk.EW w (Vl.ZB x t v)):=by
 have HV:=hid hv;have HS:=hid ht;have HVV:=hid hvv;obtain⟨A,n,c,rfl⟩:=ah.is ht;obtain⟨A9,n9,c9,rfl⟩:=ah.is hvv;have HN:Hid (n=t.length):=hid (by obtain⟨_,_,e,_⟩:=ah.slice ht;injection e);have HN9:Hid (n9=v.length):=hid (by obtain⟨_,_,e,_⟩:=ah.slice hvv;injection e);obtain⟨A1,n1,c1,A2,n2,c2,A3,n3,c3,rfl,-,-,-⟩:=hv;clear ht hvv;go_enter Tryz.func11,Tryz.ntmps11;go_upto_region 1 with(fail)
 refine ak (λV hV=>?_);have HL:=hid (Chk.Lx.start hV);clear hV;obtain⟨⟨q0,q1,q2,q3⟩,-⟩:=HL.out.box.k4;go_wp2_with fail;clear q0 q1 q2 q3;refine(Qk _ x _ (HV.out.below HL.out.bel)).mono ?_;rintro e W1⟨b,rfl,hb,hf⟩;have HL1:=hid (HL.out.below hb);have HF:=hid hf;clear hb hf HL;cases b
 case true =>
  go_wp2_with fail;go_ret;exact⟨true,rfl,HL1.out.bel,λh=>by cases h⟩
 by_cases h1:n<=300
 case neg =>
  have t1:(300:Int)<(n:Int):=by omega
  go_wp2_with fail;go_ret;exact⟨true,rfl,HL1.out.bel,λh=>by cases h⟩
 have t1:¬(300:Int)<(n:Int):=by omega
 by_cases h2:n9<=6000
 case neg =>
  have t2:(6000:Int)<(n9:Int):=by omega
  go_wp2_with fail;go_ret;exact⟨true,rfl,HL1.out.bel,λh=>by cases h⟩
 have t2:¬(6000:Int)<(n9:Int):=by omega
 go_wp2_with fail;go_loopw [7] (λi wr=>∃(k:Nat),k<=n/\i=.int .i64 k/\W1=wr/\Hid (∀ j,j<k->∀ h:j<t.length,t[j].name.size<=200)) (λi _=>n - (intOf i).toNat)
 case atStart=>exact⟨0,by omega,rfl,rfl,hid (λj h=>absurd h (Nat.not_lt_zero _))⟩
 case round =>
  obtain⟨k,hk,rfl,rfl,HK⟩:=hrel;have ik0:(0:Int)<=(k:Int):=by omega
  by_cases hlt:k<n
  case neg =>
   have HNM:Hid (∀ i (h:i<t.length),t[i].name.size<=200):=hid (λi h=>HK.out i (by have:=HN.out;omega) h);go_wp2_with fail;go_loopw [8] (λi wr=>∃(k:Nat),k<=n9/\i=.int .i64 k/\W1=wr/\Hid (∀ j,j<k->∀ h:j<v.length,v[j].text.size<=6000)) (λi _=>n9 - (intOf i).toNat)
   case atStart=>exact⟨0,by omega,rfl,rfl,hid (λj h=>absurd h (Nat.not_lt_zero _))⟩
   case round =>
    obtain⟨m,hm,rfl,rfl,HM⟩:=hrel;have im0:(0:Int)<=(m:Int):=by omega
    by_cases hmt:m<n9
    case neg =>
     go_wp2_with fail;go_ret;exact⟨false,rfl,HL1.out.bel,λ_=>⟨HF.out (by trivial),by rw[<-HN.out];exact h1,by rw[<-HN9.out];exact h2,HNM.out,λi h=>HM.out i (by have:=HN9.out;omega) h⟩⟩
    have hka:m<v.length:=by rw[<-HN9.out];exact hmt
    have im1:(m:Int)<(n9:Int):=by omega
    obtain⟨g,off,cs,hA,-,e1,hc⟩:=ah.get HVV.out hka (by omega);obtain⟨⟨y0,y1,y2,y3⟩,Hy⟩:∃ y,Hid (v[m]=y):=⟨_,hid rfl⟩;rw[Hy.out]at e1;unfold Vl.oC Vl.Node.cells at e1;subst e1;have a2:=hc 2 _ rfl;have a2:=(HL1.out.bel.cell (xH w _ a2)).trans a2;subst hA;clear hc;by_cases h3:y2.size<=6000
    case neg =>
     have t3:(6000:Int)<(y2.size:Int):=by omega
     go_wp2_with fail;go_ret;exact⟨true,rfl,HL1.out.bel,λh=>by cases h⟩
    have t3:¬(6000:Int)<(y2.size:Int):=by omega
    have HM2:Hid (∀ j,j<m+1->∀ h:j<v.length,v[j].text.size<=6000):=hid (KQ (n:=0) (Q:=λj=>∀ h:j<v.length,v[j].text.size<=6000) HM.out (λh=>by rw[Hy.out];exact h3));go_wp2_with fail;go_roundw
    case rel=>exact⟨m+1,by omega,by go_num,by first|rfl|trivial,HM2⟩
    case measure=>simp[intOf];omega
  have hka:k<t.length:=by rw[<-HN.out];exact hlt
  have ik1:(k:Int)<(n:Int):=by omega
  obtain⟨g,off,cs,hA,-,e1,hc⟩:=ah.get HS.out hka (by omega);obtain⟨⟨y0,y1⟩,Hy⟩:∃ y,Hid (t[k]=y):=⟨_,hid rfl⟩;rw[Hy.out]at e1;unfold Id.dF Id.Srt.cells at e1;subst e1;have a2:=hc 1 _ rfl;have a2:=(HL1.out.bel.cell (xH w _ a2)).trans a2;subst hA;clear hc;by_cases h3:y1.size<=200
  case neg =>
   have t3:(200:Int)<(y1.size:Int):=by omega
   go_wp2_with fail;go_ret;exact⟨true,rfl,HL1.out.bel,λh=>by cases h⟩
  have t3:¬(200:Int)<(y1.size:Int):=by omega
  have HK2:Hid (∀ j,j<k+1->∀ h:j<t.length,t[j].name.size<=200):=hid (KQ (n:=0) (Q:=λj=>∀ h:j<t.length,t[j].name.size<=200) HK.out (λh=>by rw[Hy.out];exact h3));go_wp2_with fail;go_roundw
  case rel=>exact⟨k+1,by omega,by go_num,by first|rfl|trivial,HK2⟩
  case measure=>simp[intOf];omega
theorem Az{P:Program}{ops:Array Oper}{o:Oper}{a:Act}{w:World}{K:Act->World->Prop}{Q:Exit->Act->World->Prop}{H:Prop}(hgd:o.guard=none)(sl x:Operand)(t u:TypeId)
  (ho:o.op=.call { callee:=.builtin .append,args:=#[sl,x],argTypes:=#[t,u] })
  (base:Nat) (e:TypeId) (i:TypeInfo) (ht:P.underlying t=some (.slice e)) (hu:P.underlying u=some .string) (hi:P.info? e=some i) (hz:i.zero=some (.int .u8 0))
  (hsize:i.size=1) (hby:i.bytes=1)
  (v:Value) (n:Nat) (xs:List Value) (hs:a.eval sl=v) (hown:w.ownsRow base e 1 v n xs) (s:ByteArray) (hx:a.eval x=.string s)
  (h63:n+s.size<=maxLen) (hbytes:n+s.size<=140737488355328) (hbase:base<=w.heap.size)
  (h:∀ v' w',w'.ownsRow base e 1 v' (n+s.size) (xs++Lib.strCells s)->Below base w w'->K (a.put o.dst v') w'):if Region.wanted o (yielded ops a.tmps)=true then Oper.wp P o a w K Q else H:=by
 have hw:Region.wanted o (yielded ops a.tmps)=true:=by simp[Region.wanted,hgd]
 rw[if_pos hw];obtain⟨v',w',hr,h2,h3,h4⟩:=Lib.run_append_own_string (P:=P) w base t u o.type e i ht hu hi hz hsize hby v n xs hown s h63 hbytes hbase;unfold Oper.wp execOp;simp only[ho,resolve,invoke,builtin,Sem.run_bind,Sem.run_pure,Result.andThen_ok,List.map_toArray,List.map_cons,List.map_nil,hs,hx,hr];exact h v' w' h2 ((Below.refl base w).grown h3 hbase (λk hk=>(hown.lt k hk).1))
theorem Ev.Bt.below{w w':World}{B:Nat}{v:Value}{xs:List UInt8}(h:Ev.Bt w B v xs)(hb:Below w.heap.size w w'):Ev.Bt w' B v xs:=(show mg w' (some B) 5 1 v xs.length (xs.map Sm.kT)from mg.below (B:=some B) h hb)
theorem Ev.Bt.str{w:World}{B:Nat}{v:Value}{xs:List UInt8}(h:Ev.Bt w B v xs):Sem.run Tryz.prog (convert 120 9 v) w=.ok (.string ⟨xs.toArray⟩) w:=by
 rcases h.2 with⟨rfl,hn⟩|⟨g,cap,cur,rfl,-,hg,-⟩
 ·have e:=List.eq_nil_of_length_eq_zero hn
  subst e;exact Lib.run_convert_nil_bytes w _ _ _ 0 Tryz.underlying120 Tryz.underlying5 Tryz.underlying9
 ·have hcs:=h.own.cells (g:=g) rfl
  refine run_convert_bytes_back (P:=Tryz.prog) w 120 9 5 ⟨g,0,none⟩ cap xs Tryz.underlying120 Tryz.underlying5 Tryz.underlying9 ?_;intro j hj;refine hcs j _ ?_;rw[List.getElem?_map,yF hj];rfl
theorem Dh(sv:Value)(x:Id.Sch)(hF:Chk.Fine x)(tv:Value)(t:List Id.Srt)(vs:Value)(v:List Vl.Node)(hl:v.length<=100000)(hz:∀ n∈v,n.text.size<=100000)(hok:∀ n∈v,Cd.OkN n)(w:World)(hk:Tk.KW w)(hv:Id.aY w none sv x)(ht:Id.bf w none tv t)(hvv:Vl.fP w none vs v) :
  Calls Tryz.prog 17 #[sv,tv,vs] w λe w'=>e=.returned (.tuple #[.string (Cd.zQ (Vl.fits x t v) v),.int .i64 (Vl.fits x t v)])/\Below w.heap.size w w':=by
 obtain⟨R,HR⟩:∃ R,Hid (Vl.fits x t v=R):=⟨_,hid rfl⟩;rw[HR.out];have HF:=hid hF;have HKW:=hid hk;have HV:=hid hv;have HS:=hid ht;have HVV:=hid hvv;have HZ:=hid hz;have HL9:=hid hl;have HOK:=hid hok;obtain⟨A,n,c,rfl⟩:=ah.is ht;obtain⟨A9,n9,c9,rfl⟩:=ah.is hvv;have HN9:Hid (n9=v.length):=hid (by obtain⟨_,_,e,_⟩:=ah.slice hvv;injection e);obtain⟨A1,n1,c1,A2,n2,c2,A3,n3,c3,rfl,-,-,-⟩:=hv;clear hF hk ht hvv hz hl hok;go_enter Tryz.func17,Tryz.ntmps17;go_upto_region 1 with(fail)
 refine ak (λV hV=>?_);have HL:=hid (Chk.Lx.start hV);clear hV;obtain⟨⟨q0,q1,q2,q3⟩,-⟩:=HL.out.box.k4;go_wp2_with fail;refine(FU _ x HF.out _ t _ v HL9.out HZ.out _ (HKW.out.below HL.out.bel) (Id.aY.below HL.out.bel HV.out) (ah.below HS.out HL.out.bel (λ_ _ h=>h)) (Vl.fP.below HVV.out HL.out.bel)).mono ?_;rw[HR.out];rintro e U⟨rfl,hb⟩;have HB:=hid (HL.out.bel.trans (hb.mono HL.out.bel.size));clear hb HL q0 q1 q2 q3;by_cases hR:R=0
 case neg =>
  have t1:((R:Int) != 0)=true:=by rw[bne_iff_ne];omega
  have t2:¬(R:Int)=0:=by omega
  have HX:Hid (Cd.zQ R v=⟨#[]⟩):=hid (by unfold Cd.zQ;rw[if_neg hR]);go_wp2_with fail;go_ret2;exact⟨by rw[HX.out];rfl,HB.out⟩
 subst hR;have HX:Hid (Cd.zQ 0 v=⟨(Cd.gy v).toArray⟩):=hid (by unfold Cd.zQ;rw[if_pos rfl]);have HEL:Hid ((Cd.gy v).length<=50000):=hid (by
  obtain⟨_,_,_,_,_,h5⟩:=Vl.CB HR.out;have h6:=Cd.BK v;unfold Vl.size at h5;unfold Vl.nJ at h6;omega)
 try simp only[xY]
 have hn9:n9<=100000:=by rw[HN9.out];exact HL9.out
 go_wp2_with fail;go_loopw [21,9] (λi sl wr=>∃(k:Nat)(bv:Value),k<=n9/\i=.int .i64 k/\bv=sl/\Hid (Ev.Bt wr U.heap.size bv (Cd.gy (v.take k)))/\Hid (Below U.heap.size U wr)) (λi _ _=>n9 - (intOf i).toNat)
 case atStart=>exact⟨0,_,by omega,rfl,rfl,hid (by rw[List.take_zero];exact Ev.Bt.nil _ _),hid (Below.refl _ _)⟩
 case round =>
  obtain⟨k,bv,hk,rfl,rfl,HBT,HBU⟩:=hrel;obtain⟨W,rfl⟩:∃ w',w'=wr:=⟨_,rfl⟩;have ik0:(0:Int)<=(k:Int):=by omega
  by_cases hlt:k<n9
  case neg =>
   have HT:Hid (Ev.Bt W U.heap.size bv (Cd.gy v)):=hid (by have h:=HBT.out;rw[yE (by rw[<-HN9.out];omega)]at h;exact h);have ik1:¬(k:Int)<(n9:Int):=by omega
   go_wp2_with fail;rw[Ev.Bt.str HT.out];go_wp2_with fail;go_ret2;exact⟨by rw[HX.out];rfl,HB.out.trans (HBU.out.mono HB.out.size)⟩
  have hka:k<v.length:=by rw[<-HN9.out];exact hlt
  have ik1:(k:Int)<(n9:Int):=by omega
  obtain⟨g,off,cs,rfl,-,e1,hc⟩:=ah.get HVV.out hka (by omega);have HNX:=hid (Cd.PI hka);have Y3:=HOK.out v[k] (xR hka);have htl:(Cd.gy (v.take (k+1))).length<=50000:=xM (Cd.yO v (k+1)) HEL.out;obtain⟨⟨k0,k1,k2,k3⟩,Hx⟩:∃ y,Hid (v[k]=y):=⟨_,hid rfl⟩;have hk2:k2.size<=100000:=by have h:=HZ.out v[k] (xR hka);rw[Hx.out]at h;exact h
  rw[Hx.out]at e1 HNX Y3;unfold Vl.oC Vl.Node.cells at e1;subst e1;obtain⟨o1,o2,-⟩:=Y3;simp only at o1 o2;have a0:=hc 0 _ rfl;have a1:=hc 1 _ rfl;have a2:=hc 2 _ rfl;have a3:=hc 3 _ rfl;simp only[xK]at a0;have hgl:g<w.heap.size:=xH w _ a0;have hBW:=HB.out.trans (HBU.out.mono HB.out.size);have a0:=(hBW.cell hgl).trans a0;have a1:=(hBW.cell hgl).trans a1;have a2:=(hBW.cell hgl).trans a2;have a3:=(hBW.cell hgl).trans a3;obtain⟨xs,Hxs⟩:∃ xs,Hid (Cd.gy (v.take k)=xs):=⟨_,hid rfl⟩;have hxl:xs.length<=50000:=by rw[<-Hxs.out];exact xM (Cd.yO v k) HEL.out
  rw[Hxs.out]at HBT HNX;clear hc Hx hBW htl;go_upto_region 8 with(fail)
  refine ak (λX hX=>?_);obtain⟨hb,hq,-⟩:=ay hX;clear hX;have HBX:=hid (HBU.out.trans (hb.mono HBU.out.size));have DY:Hid (Ev.Bt X U.heap.size bv xs):=hid (Ev.Bt.below HBT.out hb);have HQ:=hid hq;have hXs:=HBX.out.size;obtain⟨⟨b0,b1,b2,b3⟩,-⟩:=hq.k4;clear hb hq a0 a1 a2 a3;have hBx:=HBX.out.size;by_cases d2:k0=2
  ·subst d2
   go_wp2_with(at_builtin;refine fV rfl _ _ _ rfl U.heap.size 5 _ _ Tryz.underlying120 mV rfl _ xs.length _ rfl DY.out.own _ rfl rfl (by simp only[maxLen];omega) (by omega) (by omega) ?_;intro v' w1 hown1 hb1 hg1;clear hg1);go_roundw
   case rel=>exact⟨k+1,_,by omega,by go_num,rfl,hid (by rw[HNX.out];exact Ev.Bt.push hown1 rfl (Cd.KD k1)),hid (HBX.out.trans hb1)⟩
   case measure=>simp[intOf];omega
  by_cases d3:k0=3
  ·subst d3
   go_wp2_with fail;refine(Vu k1 o1 o2 _).mono ?_;rintro e wz⟨rfl,rfl⟩;go_wp2_with fail;refine(sD U.heap.size bv xs (Cd.zz k1) (Cd.VT o1 o2) (by omega) _ DY.out hBx).mono ?_;rintro e w1⟨v',rfl,hown1,hb1,-⟩;go_wp2_with fail;go_roundw
   case rel=>exact⟨k+1,_,by omega,by go_num,rfl,hid (by rw[HNX.out];exact hown1),hid (HBX.out.trans hb1)⟩
   case measure=>simp[intOf];omega
  by_cases d4:k0=4
  ·subst d4
   have hkl:=(Ev.mO k2.size).2;obtain⟨i0,hi0,hz0,hz1,hz2⟩:=info_parts mV;have hll:(xs++Ev.var k2.size).length<=1000000010:=by rw[xI];omega
   have HW:IntKind.u64.wrap (k2.size:Int)=(k2.size:Int):=by rw[IntKind.wrap_u64];omega
   go_upto_region 14 with(fail)
   have hS:Bk X.drew W.heap.size 92 #[.int .u8 (4:Nat),.int .i64 k1,.string k2,.int .i64 k3]:=HQ.out.drew;have hbt:Ev.Bt X.drew U.heap.size bv xs:=Ev.Bt.below DY.out ((Below.refl _ _).drew);have hbu:Below U.heap.size U X.drew:=HBX.out.trans (((Below.refl _ _).drew).mono hBx);refine bJ (λw'=>Bk w' W.heap.size 92 #[.int .u8 (4:Nat),.int .i64 k1,.string k2,.int .i64 k3]) [8] (by kernel_rfl) hS (λhHeld=>?_);clear b0 b1 b2 b3 hS;generalize X.drew=X1 at *;have aa1:=hid hbt;have aa0:=hid hbu;have hx1:=hbu.size;clear hbt hbu;(refine aj 0 (v:=?_) rfl (by kernel_rfl) (by kernel_rfl) (by kernel_rfl) (by kernel_rfl) (λ_ _ _ h=>h) (λ_=>by assumption) (by rfl) ?_ ?_;rotate_left;· (intro w;go_simp;try with_reducible rfl);try simp only[Act.put,xA,xE,xC])
   (refine aj 1 (v:=?_) rfl (by kernel_rfl) (by kernel_rfl) (by kernel_rfl) (by kernel_rfl) (λ_ _ _ h=>h) (λ_=>by assumption) (by rfl) ?_ ?_;rotate_left;· (intro w;go_simp;try with_reducible rfl);try simp only[Act.put,xA,xE,xC])
   (refine Lst.qH 8 2 (v:=?_) rfl (by kernel_rfl) (by kernel_rfl) (by kernel_rfl) (by kernel_rfl) (by kernel_rfl) (by kernel_rfl) (λ_ _ _ h=>h) (by assumption) (by rfl) ?_ ?_;rotate_left;· (intro w hSw;obtain⟨e0,e1,e2,e3⟩:=(Bk.k4 hSw).1;go_simp;try with_reducible rfl);try simp only[Act.put,xA,xE,xC])
   (refine aj 3 (v:=?_) rfl (by kernel_rfl) (by kernel_rfl) (by kernel_rfl) (by kernel_rfl) (λ_ _ _ h=>h) (λ_=>by assumption) (by rfl) ?_ ?_;rotate_left;· (intro w;go_simp;try with_reducible rfl);try simp only[Act.put,xA,xE,xC])
   (refine aj 4 (v:=?_) rfl (by kernel_rfl) (by kernel_rfl) (by kernel_rfl) (by kernel_rfl) (λ_ _ _ h=>h) (λ_=>by assumption) (by rfl) ?_ ?_;rotate_left;· (intro w;go_simp;try with_reducible rfl);try simp only[Act.put,xA,xE,xC])
   (refine aj 6 (v:=?_) rfl (by kernel_rfl) (by kernel_rfl) (by kernel_rfl) (by kernel_rfl) (λ_ _ _ h=>h) (λ_=>by assumption) (by rfl) ?_ ?_;rotate_left;· (intro w;go_simp;try with_reducible rfl);try simp only[Act.put,xA,xE,xC])
   (refine Lst.qH 8 7 (v:=?_) rfl (by kernel_rfl) (by kernel_rfl) (by kernel_rfl) (by kernel_rfl) (by kernel_rfl) (by kernel_rfl) (λ_ _ _ h=>h) (by assumption) (by rfl) ?_ ?_;rotate_left;· (intro w hSw;obtain⟨e0,e1,e2,e3⟩:=(Bk.k4 hSw).1;go_simp;try with_reducible rfl);try simp only[Act.put,xA,xE,xC])
   (refine aB 5 (by kernel_rfl) rfl (λK hK=>?_))
   go_simp;refine(sD U.heap.size bv xs k2.size (by omega) (by omega) X1 aa1.out hx1).mono ?_;rintro e w1⟨v1,rfl,hown1,hb1,hO1⟩;have hH2:=Only.bk hO1 hHeld (by decide);have hbz:=hb1.size;have aaz:=hid (aa0.out.trans hb1);have aar:=hid hown1;clear hb1 hO1 hHeld hown1;(refine hK.out _ _ (λhnn=>hH2) ?_;clear hK K;try simp only[Act.put,xA,xE,xC])
   (refine aB 8 (by kernel_rfl) rfl (λK hK=>?_))
   refine Az rfl _ _ 120 9 rfl U.heap.size 5 i0 Tryz.underlying120 Tryz.underlying9 hi0 hz0 hz1 hz2 v1 (xs++Ev.var k2.size).length _ rfl aar.out.own k2 rfl (by unfold maxLen;omega) (by omega) (by omega) ?_;intro v2 w2 h2 hb2;have aay:=hid (aaz.out.trans hb2);have hfin:Ev.Bt w2 U.heap.size v2 (Cd.gy (v.take (k+1))):=by
    have h:=Ev.Bt.VX h2;rw[HNX.out,show Cd.qN ⟨4,k1,k2,k3⟩=Ev.var k2.size++k2.data.toList from rfl,<-xU];exact h
   have HFN:=hid hfin;clear h2 hb2 hfin;(refine hK.out _ _ (λhnn=>absurd hnn (by decide)) ?_;clear hK K;try simp only[Act.put,xA,xE,xC])
   (refine aB 9 (by kernel_rfl) rfl (λK hK=>?_))
   go_simp;(refine hK.out _ _ (λhnn=>absurd hnn (by decide)) ?_;clear hK K;try simp only[Act.put,xA,xE,xC])
   refine dU (by kernel_rfl) ?_ _;refine NoPanic.normal ?_;go_wp2_with fail;go_roundw
   case rel=>exact⟨k+1,_,by omega,by go_num,rfl,hid HFN.out,hid aay.out⟩
   case measure=>simp[intOf];omega
  by_cases d5:k0=5
  ·subst d5
   have hcv:(((k3 % 18446744073709551616).toNat:Nat):Int)=k3 % 18446744073709551616:=by omega
   have hp:=sD U.heap.size bv xs (k3 % 18446744073709551616).toNat (by omega) (by omega) X DY.out hBx;rw[hcv]at hp;have HPV:=hid hp;clear hp;go_wp2_with fail;refine HPV.out.mono ?_;rintro e w1⟨v',rfl,hown1,hb1,-⟩;go_wp2_with fail;go_roundw
   case rel=>exact⟨k+1,_,by omega,by go_num,rfl,hid (by rw[HNX.out];exact hown1),hid (HBX.out.trans hb1)⟩
   case measure=>simp[intOf];omega
  by_cases d6:k0=6
  ·subst d6
   go_wp2_with(at_builtin;refine fV rfl _ _ _ rfl U.heap.size 5 _ _ Tryz.underlying120 mV rfl _ xs.length _ rfl DY.out.own _ rfl rfl (by simp only[maxLen];omega) (by omega) (by omega) ?_;intro v' w1 hown1 hb1 hg1;clear hg1);go_roundw
   case rel=>exact⟨k+1,_,by omega,by go_num,rfl,hid (by rw[HNX.out];exact Ev.Bt.push hown1 rfl (Cd.KD k3)),hid (HBX.out.trans hb1)⟩
   case measure=>simp[intOf];omega
  by_cases d8:k0=8
  ·subst d8
   have hcv:(((k1 % 18446744073709551616).toNat:Nat):Int)=k1 % 18446744073709551616:=by omega
   have hp:=sD U.heap.size bv xs (k1 % 18446744073709551616).toNat (by omega) (by omega) X DY.out hBx;rw[hcv]at hp;have HPV:=hid hp;clear hp;go_wp2_with fail;refine HPV.out.mono ?_;rintro e w1⟨v',rfl,hown1,hb1,-⟩;go_wp2_with fail;go_roundw
   case rel=>exact⟨k+1,_,by omega,by go_num,rfl,hid (by rw[HNX.out];exact hown1),hid (HBX.out.trans hb1)⟩
   case measure=>simp[intOf];omega
  have e2:¬(k0:Int)=2:=by omega
  have e3:¬(k0:Int)=3:=by omega
  have e4:¬(k0:Int)=4:=by omega
  have e5:¬(k0:Int)=5:=by omega
  have e6:¬(k0:Int)=6:=by omega
  have e8:¬(k0:Int)=8:=by omega
  have HE0:Hid (Cd.gy (v.take (k+1))=xs):=hid (by rw[HNX.out];unfold Cd.qN;simp only[if_neg d2,if_neg d3,if_neg d4,if_neg d5,if_neg d6,if_neg d8,List.append_nil]);go_wp2_with fail;go_roundw
  case rel=>exact⟨k+1,_,by omega,by go_num,rfl,hid (by rw[HE0.out];exact DY.out),hid HBX.out⟩
  case measure=>simp[intOf];omega
end
section
open Go.RowKit
theorem Ew(B:Nat)(v:Value)(xs:List UInt8)(x:Nat)(hx:x<18446744073709551616)(hn:xs.length<=1000000000)(w:World)(hown:Ev.Bt w B v xs)(hB:B<=w.heap.size) :
  Calls Tryz.prog 138 #[v,.int .u64 x] w λe w'=>∃ v',e=.returned v'/\Ev.Bt w' B v' (xs++Ev.var x)/\Below B w w':=by
 have HX:Hid (x<2 * 128 ^ 9):=hid (by simpa using hx);have HO:=hid hown;clear hx hown;go_enter Tryz.func138,Tryz.ntmps138;go_wp2;go_loopw [0,1] (λb z wr=>∃(f y:Nat)(p:List UInt8),f<=9/\p.length+f=9/\z=.int .u64 y/\y<18446744073709551616/\Hid (y<2 * 128 ^ f)/\Hid (p++Ev.gY f y=Ev.var x)/\Ev.Bt wr B b (xs++p)/\Below B w wr) (λ_ z _=>(intOf z).toNat)
 case atStart=>exact⟨9,x,[],by omega,rfl,rfl,by have:=HX.out;simpa using this,HX,hid rfl,by rw[List.append_nil];exact HO.out,Below.refl _ _⟩
 case round =>
  obtain⟨f,y,p,hf,hpf,rfl,ZK,HY,HP,hown,hb⟩:=hrel;have hz:=hb.size;have hlen:(xs++p).length<=1000000010:=by rw[xI];omega
  have HPF:=hid hpf;clear hpf;by_cases hlt:128<=y
  ·obtain⟨g,rfl⟩:∃ g,f=g+1:=by
    cases f with
    |zero=>have:=HY.out;omega
    |succ g=>exact⟨g,rfl⟩
   have HS:=hid (Ev.FV (f:=g) hlt);have HB:=hid (Ev.KF y);have hi:(128:Int)<=(y:Int):=by omega
   go_wp2_with(at_builtin;refine fV rfl _ _ _ rfl B 5 _ _ Tryz.underlying120 mV rfl _ (xs++p).length _ rfl hown.own _ rfl rfl (by simp only[maxLen];omega) (by omega) (by omega) ?_;intro v' w1 hown1 hb1 _);go_roundw
   case rel=>exact⟨g,y / 128,p++[UInt8.ofNat (y % 128+128)],by omega,by have:=HPF.out;simp;omega,by go_num,by omega,hid (by have h:=HY.out;rw[Nat.pow_succ]at h;omega),hid (by rw[<-HP.out,HS.out];simp),by rw[<-xU];exact Ev.Bt.push hown1 rfl HB.out,hb.trans hb1⟩
   case measure=>simp[intOf];omega
  ·have HL:=hid (Ev.FW (f:=f) (y:=y) (by omega))
   have HB:=hid (Ev.Ho (y:=y) (by omega));have hi:¬(128:Int)<=(y:Int):=by omega
   go_wp2_with(at_builtin;refine fV rfl _ _ _ rfl B 5 _ _ Tryz.underlying120 mV rfl _ (xs++p).length _ rfl hown.own _ rfl rfl (by simp only[maxLen];omega) (by omega) (by omega) ?_;intro v' w1 hown1 hb1 _);have hfin:=Ev.Bt.push hown1 rfl HB.out;rw[<-HL.out,xU,HP.out]at hfin;have HF:=hid hfin;clear hfin;go_ret;exact⟨_,rfl,HF.out,hb.trans hb1⟩
theorem TP(B:Nat)(v:Value)(xs:List UInt8)(s:ByteArray)(hs:s.size<=1000000000)(hn:xs.length<=1000000000)(w:World)(hown:Ev.Bt w B v xs)(hB:B<=w.heap.size) :
  Calls Tryz.prog 137 #[v,.string s] w λe w'=>∃ v',e=.returned v'/\Ev.Bt w' B v' (xs++Ev.txt s)/\Below B w w':=by
 obtain⟨i0,hi0,hz0,hz1,hz2⟩:=info_parts mV;have hvl:=(Ev.mO s.size).2;go_enter Tryz.func137,Tryz.ntmps137;go_wp2_with fail;refine(Ew B v xs s.size (by omega) hn _ hown hB).mono ?_;rintro e w1⟨v1,rfl,h1,hb1⟩;have hbz:=hb1.size;have hl:(xs++Ev.var s.size).length<=1000000010:=by rw[xI];omega
 have HY:Hid (xs++Ev.txt s=(xs++Ev.var s.size)++s.data.toList):=hid (by unfold Ev.txt;rw[xU]);generalize xs++Ev.var s.size=ys at *;go_wp2_with(at_builtin;refine Lib.wpList_append_own_string _ rfl _ _ 120 9 rfl B 5 i0 Tryz.underlying120 Tryz.underlying9 hi0 hz0 hz1 hz2 _ _ _ rfl h1.own s rfl ?c3 ?c4 ?c5 ?_)
 case c3=>unfold maxLen;omega
 case c4=>omega
 case c5=>omega
 intro v2 w2 h2 hg _;have hfin:Ev.Bt w2 B v2 (xs++Ev.txt s):=by rw[HY.out];exact Ev.Bt.VX h2
 have HF:=hid hfin;clear hfin h2;go_wp2_with fail;go_ret;exact⟨_,rfl,HF.out,hb1.trans ((Below.refl _ _).grown hg (by omega) (λk hk=>(h1.own.lt k hk).1))⟩
namespace Ev
theorem KI(x:Nat):∀ n k,k<n->(big x n).take (k+1)=(big x n).take k++[UInt8.ofNat (x / 256 ^ (n - 1 - k))]
 |n+1,0,_=>by simp[big]
 |n+1,k+1,h=>by
  have ih:=KI x n k (by omega);simp only[big,List.take_succ_cons];rw[ih,show n - 1 - k=n+1 - 1 - (k+1)from by omega];rfl
theorem Hf(x m:Nat):Sm.kT (UInt8.ofNat (x / 256 ^ m))=.int .u8 ((x:Int) / 2 ^ (8 * m) % 256):=by
 rw[Sm.MN];have e:(256:Nat) ^ m=2 ^ (8 * m):=(Nat.pow_mul 2 8 m).symm;rw[e];congr 1
end Ev
theorem O7(B:Nat)(v:Value)(xs:List UInt8)(x:Nat)(hx:x<18446744073709551616)(hn:xs.length<=1000000000)(w:World)(hown:Ev.Bt w B v xs)(hB:B<=w.heap.size) :
  Calls Tryz.prog 139 #[v,.int .u64 x,.int .i64 8] w λe w'=>∃ v',e=.returned v'/\Ev.Bt w' B v' (xs++Ev.big x 8)/\Below B w w':=by
 have HO:=hid hown;have HX:=hid hx;clear hx hown;go_enter Tryz.func139,Tryz.ntmps139;go_wp2;go_loopw [0,7] (λb i wr=>∃ k:Nat,k<=8/\i=.int .i64 (7 - (k:Int))/\Ev.Bt wr B b (xs++(Ev.big x 8).take k)/\Below B w wr) (λ_ i _=>(intOf i+1).toNat)
 case atStart=>exact⟨0,by omega,rfl,by rw[List.take_zero,List.append_nil];exact HO.out,Below.refl _ _⟩
 case round =>
  obtain⟨k,hk,rfl,hown,hb⟩:=hrel;have hz:=hb.size;by_cases hlt:k<8
  ·have HS:=hid (Ev.KI x 8 k hlt)
   have hi:(0:Int)<=7 - (k:Int):=by omega
   have hi2:7 - (k:Int)<=7:=by omega
   have hlen:(xs++(Ev.big x 8).take k).length<=1000000010:=by rw[xI,List.length_take];omega
   have HB:=hid (Ev.Hf x (7 - k));go_wp2_with(at_builtin;refine fV rfl _ _ _ rfl B 5 _ _ Tryz.underlying120 mV rfl _ (xs++(Ev.big x 8).take k).length _ rfl hown.own _ rfl rfl (by simp only[maxLen];omega) (by omega) (by omega) ?_;intro v' w1 hown1 hb1 _);go_roundw
   case rel=>exact⟨k+1,by omega,by congr 1;omega,by rw[HS.out,<-xU];exact Ev.Bt.push hown1 rfl HB.out,hb.trans hb1⟩
   case measure=>simp[intOf];omega
  ·obtain rfl:k=8:=by omega
   rw[yE (by rw[Ev.yP];omega)]at hown;have HF:=hid hown;clear hown;go_wp2_with fail;go_ret;exact⟨_,rfl,HF.out,hb⟩
theorem Ig(B:Nat)(v:Value)(xs:List UInt8)(x:Nat)(hx:x<4294967296)(hn:xs.length<=1000000000)(w:World)(hown:Ev.Bt w B v xs)(hB:B<=w.heap.size) :
  Calls Tryz.prog 140 #[v,.int .u64 x,.int .i64 4] w λe w'=>∃ v',e=.returned v'/\Ev.Bt w' B v' (xs++Sm.le4 x)/\Below B w w':=by
 have HO:=hid hown;have HX:=hid hx;clear hx hown;go_enter Tryz.func140,Tryz.ntmps140;go_wp2;go_loopw [0,9] (λb i wr=>∃ k:Nat,k<=4/\i=.int .i64 k/\Ev.Bt wr B b (xs++(Sm.le4 x).take k)/\Below B w wr) (λ_ i _=>(4 - intOf i).toNat)
 case atStart=>exact⟨0,by omega,rfl,by rw[List.take_zero,List.append_nil];exact HO.out,Below.refl _ _⟩
 case round =>
  obtain⟨k,hk,rfl,hown,hb⟩:=hrel;have hz:=hb.size;by_cases hlt:k<4
  ·have HS:=hid (Sm.UL (n:=x) hlt)
   have HB:=hid (Ev.Hf x k);have hi:(k:Int)<4:=by omega
   have hlen:(xs++(Sm.le4 x).take k).length<=1000000010:=by rw[xI,List.length_take];omega
   go_wp2_with(at_builtin;refine fV rfl _ _ _ rfl B 5 _ _ Tryz.underlying120 mV rfl _ (xs++(Sm.le4 x).take k).length _ rfl hown.own _ rfl rfl (by simp only[maxLen];omega) (by omega) (by omega) ?_;intro v' w1 hown1 hb1 _);go_roundw
   case rel=>exact⟨k+1,by omega,by go_num,by rw[HS.out,<-xU];exact Ev.Bt.push hown1 rfl HB.out,hb.trans hb1⟩
   case measure=>simp[intOf];omega
  ·obtain rfl:k=4:=by omega
   have HF:Hid (Ev.Bt wr B _ (xs++Sm.le4 x)):=hid hown;clear hown;go_wp2_with fail;go_ret;exact⟨_,rfl,HF.out,hb⟩
theorem Jf(n:Int)(w:World):Calls Tryz.prog 181 #[.int .i64 n] w λe w'=>e=.returned (.bool (Ev.peer n))/\w=w':=by
 by_cases h1:0<=n
 ·by_cases h2:n<4
  ·have HP:Hid (Ev.peer n=true):=hid (by unfold Ev.peer;simp[h1,h2])
   rw[HP.out];go_enter Tryz.func181,Tryz.ntmps181;go_wp2_with fail;go_ret;exact⟨rfl,rfl⟩
  ·have HP:Hid (Ev.peer n=false):=hid (by unfold Ev.peer;simp[h2])
   rw[HP.out];go_enter Tryz.func181,Tryz.ntmps181;go_wp2_with fail;go_ret;exact⟨rfl,rfl⟩
 ·have HP:Hid (Ev.peer n=false):=hid (by unfold Ev.peer;simp[h1])
  rw[HP.out];go_enter Tryz.func181,Tryz.ntmps181;go_wp2_with fail;go_ret;exact⟨rfl,rfl⟩
theorem Ud{a b:Bool}(h:a=b):Ending.returned (.bool a)=Ending.returned (.bool b):=by rw[h]
theorem vP{W w1:World}{n:Nat}(hb:Below n W w1):(∀ b o,b<n->w1.cell? ⟨b,o,none⟩=W.cell? ⟨b,o,none⟩)/\(∀ b o,b<n->w1.frozen? ⟨b,o,none⟩=W.frozen? ⟨b,o,none⟩) :=
 ⟨λb o h=>hb.cell (p:=⟨b,o,none⟩) h,λb o h=>hb.frozen (p:=⟨b,o,none⟩) h⟩
theorem Tk.KW.any{w w':World}{n:Nat}(h:Tk.KW w)(hb:Below n w w')(h0:0<n):Tk.KW w' :=
 ⟨Nat.lt_of_lt_of_le h.1 hb.size,λj hj=>(hb.cell (p:=⟨0,0+j,none⟩) h0).trans (h.2 j hj)⟩
theorem Rh(l:Ev.Letter)(w:World)(hk:Tk.KW w) :
  Calls Tryz.prog 136 #[l.val] w λe w'=>e=.returned (.bool (Ev.right l))/\Below w.heap.size w w':=by
 obtain⟨k0,k1,k2,k3,k4,k5,k6,k7,k8,k9⟩:=l;unfold Ev.Letter.val;go_enter Tryz.func136,Tryz.ntmps136;go_wp2_with fail;refine(Jf _ _).mono ?_;rintro e w1⟨rfl,rfl⟩;go_wp2_with fail;all_goals try((with_reducible refine(Jf _ _).mono ?_);rintro e w1⟨rfl,rfl⟩;go_wp2_with fail)
 all_goals try((with_reducible refine(name_any k6 _ (hk.below ((Below.refl _ _).alloc (xB _) _))).mono ?_);rintro e w1⟨rfl,hb1⟩;simp only[World.size_alloc]at hb1;obtain⟨hc,hf⟩:=vP hb1;go_wp2_with fail)
 all_goals try(have hkx:=(hk.below ((Below.refl _ _).alloc (xB _) _)).any hb1 (by have:=hk.1;omega);(with_reducible refine(name_any k7 _ hkx).mono ?_);rintro e w2⟨rfl,hb2⟩;have hz1:=hb1.size;simp only[World.size_alloc]at hz1;have DF:=hb1.trans (hb2.mono hz1);obtain⟨hc2,hf2⟩:=vP DF;go_wp2_with fail)
 all_goals(go_ret;refine⟨?_,?_⟩)
 all_goals try exact(Below.refl w.heap.size w).alloc (xB _) _
 all_goals try exact((Below.refl w.heap.size w).alloc (xB _) _).trans (hb1.mono (by omega))
 all_goals try exact((Below.refl w.heap.size w).alloc (xB _) _).trans (DF.mono (by omega))
 all_goals refine Ud ?_
 all_goals((repeat(rename (∀(a:Act)(w:World),Code.wp _ _ _ a w->_)=>HKx;clear HKx));(repeat(rename (Act->World->Prop)=>HKx;clear HKx));(repeat(rename (Exit->Act->World->Prop)=>HKx;clear HKx)))
 all_goals(clear hk;simp only[Ev.right];grind)
theorem P8(s:ByteArray)(hs:s.size<=maxLen)(w:World) :
  Calls Tryz.prog 183 #[.string s] w λe w'=>e=.returned (.tuple #[.int .u64 (Ev.qm s.data.toList).1,.int .i64 (Ev.qm s.data.toList).2])/\∃ n,w'=w.drewN n:=by
 unfold maxLen at hs;have HG:Hid (Ev.qm s.data.toList=Ev.jI s.data.toList 10 0):=hid rfl;rw[HG.out];go_enter Tryz.func183,Tryz.ntmps183;go_wp2_with fail;go_loopw [2,8] (λx i wr=>∃ k q:Nat,k<=10/\i=.int .i64 k/\x=.int .u64 (Ev.acc s.data.toList k)/\Hid (Ev.jI s.data.toList 10 0=Ev.jI s.data.toList (10 - k) k)/\Hid (wr=w.drewN q)) (λ_ i _=>10 - (intOf i).toNat)
 case atStart=>exact⟨0,0,by omega,rfl,rfl,hid rfl,hid rfl⟩
 case round =>
  obtain⟨k,q,hk,rfl,rfl,HF,HW⟩:=hrel;obtain rfl:=HW.out;have hal:=Ev.EU s.data.toList k;by_cases hlt:k<s.size
  ·by_cases h10:k<10
   ·have hi:(k:Int)<(s.size:Int):=by omega
    have hi1:(k:Int)<10:=by omega
    have hi0:(0:Int)<=(k:Int):=by omega
    have hm:(k:Int)<min (s.size:Int) 10:=by omega
    have HB:=hid (Sm.getD_byte s k hlt);have hx:=s[k].toNat_lt;have HA:=hid (Ev.Tn (k:=k) hal hx);have hll:k<s.data.toList.length:=by simpa using hlt
    have HS:=hid (λh=>Ev.P7 h10 hll (congrArg UInt8.toNat (Sm.getD_byte s k hlt)) h);have HN:=hid (λh=>Ev.Vh h10 hll (congrArg UInt8.toNat (Sm.getD_byte s k hlt)) h);have H9:=hid (λh=>Sm.getD_byte s 9 h);have HAS:Hid (Ev.acc s.data.toList (k+1)=Ev.acc s.data.toList k ||| (s[k].toNat % 128 * 2 ^ (7 * k) % 18446744073709551616)):=hid (by simp only[Ev.acc,HB.out]);go_wp2_with fail
    ·go_ret2
     have h9:9<s.size:=by omega
     have e9:k=9:=by omega
     refine⟨?_,q,rfl⟩;rw[HF.out,HS.out (by omega),if_pos ⟨e9,by rw[H9.out h9];omega⟩];rfl
    ·go_ret2
     have h9:9<s.size:=by omega
     obtain rfl:k=9:=by omega
     refine⟨?_,q,rfl⟩;rw[HF.out,HS.out (by omega),if_neg (by rintro⟨_,h⟩;rw[H9.out h9]at h;omega),HAS.out,<-HA.out];rfl
    ·go_ret2
     refine⟨?_,q,rfl⟩;rw[HF.out,HS.out (by omega),if_neg (by rintro⟨h,_⟩;omega),HAS.out,<-HA.out];rfl
    ·go_roundw
     case rel=>exact⟨k+1,q,by omega,by go_num,by rw[HAS.out,<-HA.out],hid (by rw[HF.out,HN.out (by omega)]),hid rfl⟩
     case measure=>simp[intOf];omega
   ·have HE:=hid (Ev.G5 (l:=s.data.toList) (k:=k) (.inl (by omega)))
    have hm:¬(k:Int)<min (s.size:Int) 10:=by omega
    go_wp2_with fail;go_ret2;exact⟨by rw[HF.out,HE.out];rfl,q,rfl⟩
  ·have HE:=hid (Ev.G5 (l:=s.data.toList) (k:=k) (.inr (by simpa using hlt)))
   have hm:¬(k:Int)<min (s.size:Int) 10:=by omega
   go_wp2_with fail;go_ret2;exact⟨by rw[HF.out,HE.out];rfl,q,rfl⟩
namespace Ev
theorem YR{X c:Nat}(hX:X<18446744073709551616)(hc:c<256):bits .or .u64 (IntKind.u64.wrap ((X:Int) * 256)) (c:Int)=((X * 256 % 18446744073709551616+c:Nat):Int):=by
 have e:IntKind.u64.wrap ((X:Int) * 256)=((X * 256 % 18446744073709551616:Nat):Int):=by rw[IntKind.wrap_u64];omega
 rw[e,u64_or_nat _ c (Nat.mod_lt _ (by decide)) (by omega),Nat.or_comm,yx 8 hc (by omega),Nat.add_comm]
theorem Yv{X c k:Nat}(hX:X<2 ^ (8 * k))(hk:k<4)(hc:c<256):bits .or .u64 (X:Int) (IntKind.u64.wrap ((c:Int) * 2 ^ (8 * k)))=((X+c * 2 ^ (8 * k):Nat):Int):=by
 have hp:2 ^ (8 * k)<=2 ^ 24:=Nat.pow_le_pow_right (by decide) (by omega);have hb:c * 2 ^ (8 * k)<=255 * 2 ^ (8 * k):=Nat.mul_le_mul_right _ (by omega);have e:IntKind.u64.wrap ((c:Int) * 2 ^ (8 * k))=((c * 2 ^ (8 * k):Nat):Int):=by
  rw[show((2:Int) ^ (8 * k))=((2 ^ (8 * k):Nat):Int)from by rw[Int.natCast_pow];rfl,<-Int.natCast_mul,IntKind.wrap_u64];omega
 rw[e,u64_or_nat X _ (by omega) (by omega),yx (8 * k) hX (Nat.mul_mod_left _ _)]
theorem take_succ{s:ByteArray}{k:Nat}(h:k<s.size):s.data.toList.take (k+1)=s.data.toList.take k++[s[k]]:=take_snoc s k h
end Ev
theorem P9(s:ByteArray)(hs:s.size=8)(w:World) :
  Calls Tryz.prog 147 #[.string s,.int .i64 8] w λe w'=>e=.returned (.int .u64 (Ev.qQ 0 s.data.toList))/\∃ n,w'=w.drewN n:=by
 have HS:=hid hs;have hs1:8<=s.size:=by omega
 clear hs;go_enter Tryz.func147,Tryz.ntmps147;go_wp2_with fail;go_loopw [4,7] (λx i wr=>∃ k q:Nat,k<=8/\i=.int .i64 k/\x=.int .u64 (Ev.qQ 0 (s.data.toList.take k))/\Hid (wr=w.drewN q)) (λ_ i _=>8 - (intOf i).toNat)
 case atStart=>exact⟨0,0,by omega,rfl,rfl,hid rfl⟩
 case round =>
  obtain⟨k,q,hk,rfl,rfl,HW⟩:=hrel;obtain rfl:=HW.out;by_cases hlt:k<8
  ·have hks:k<s.size:=by omega
   have HT:=hid (Ev.take_succ hks);have hx:=s[k].toNat_lt;have hi:(k:Int)<8:=by omega
   have hi2:(k:Int)<(s.size:Int):=by omega
   have HB:=hid (Ev.Hq (s.data.toList.take k) 0 s[k]);have hbl:=Ev.FD (s.data.toList.take k) 0 (by decide);generalize Ev.qQ 0 (s.data.toList.take k)=X at *;go_wp2_with fail;go_roundw
   case rel=>
    refine⟨k+1,q,by omega,by go_num,?_,hid rfl⟩;rw[HT.out,HB.out,Ev.YR hbl hx]
   case measure=>simp[intOf];omega
  ·obtain rfl:k=8:=by omega
   have HT:Hid (s.data.toList.take 8=s.data.toList):=hid (yE (by have:=HS.out;simp;omega));go_wp2_with fail;go_ret;exact⟨by rw[HT.out];rfl,q,rfl⟩
theorem Ih(s:ByteArray)(hs:4<=s.size)(w:World) :
  Calls Tryz.prog 142 #[.string s,.int .i64 4] w λe w'=>e=.returned (.int .u64 (Sm.yS s.data.toList))/\∃ n,w'=w.drewN n:=by
 have HL:=hid (Ev.UF s.data.toList);go_enter Tryz.func142,Tryz.ntmps142;go_wp2_with fail;go_loopw [4,7] (λx i wr=>∃ k q:Nat,k<=4/\i=.int .i64 k/\x=.int .u64 (Ev.lit s.data.toList k)/\Hid (wr=w.drewN q)) (λ_ i _=>4 - (intOf i).toNat)
 case atStart=>exact⟨0,0,by omega,rfl,rfl,hid rfl⟩
 case round =>
  obtain⟨k,q,hk,rfl,rfl,HW⟩:=hrel;obtain rfl:=HW.out;by_cases hlt:k<4
  ·have hks:k<s.size:=by omega
   have HT:=hid (Sm.getD_byte s k hks);have hx:=s[k].toNat_lt;have hi:(k:Int)<4:=by omega
   have hi2:(k:Int)<(s.size:Int):=by omega
   have hll:=Ev.Si s.data.toList k;have HLL:=hid hll;clear hll;have HB:Hid (Ev.lit s.data.toList (k+1)=Ev.lit s.data.toList k+s[k].toNat * 2 ^ (8 * k)):=hid (by simp only[Ev.lit,HT.out]);generalize Ev.lit s.data.toList k=X at *;go_wp2_with fail;go_roundw
   case rel=>
    refine⟨k+1,q,by omega,by go_num,?_,hid rfl⟩;rw[HB.out,Ev.Yv HLL.out hlt hx]
   case measure=>simp[intOf];omega
  ·obtain rfl:k=4:=by omega
   go_wp2_with fail;go_ret;exact⟨by rw[<-HL.out];rfl,q,rfl⟩
namespace Ev
abbrev St:=ByteArray × Bool
def Rb(w:World)(b:Nat)(s:St):Prop:=Bk w b 224 #[.string s.1,.bool s.2]
def tk(n:Nat)(s:St):ByteArray × St:=if s.2=true∨s.1.size<n then(ByteArray.empty,(s.1,true))else(s.1.extract 0 n,(s.1.extract n s.1.size,false))
def one(s:St):Nat × St:=if(tk 1 s).2.2 then(0,(tk 1 s).2)else(((tk 1 s).1.data.toList.getD 0 0).toNat,(tk 1 s).2)
def num(s:St):Nat × St:=if s.2=true∨(qm s.1.data.toList).2<=0 then(0,(s.1,true))else((qm s.1.data.toList).1,(tk (qm s.1.data.toList).2.toNat s).2)
def qj(s:St):ByteArray × St:=tk (num s).1 (num s).2
theorem Rb.c0{w:World}{b:Nat}{s:ByteArray}{f:Bool}(h:Rb w b (s,f)):w.cell? ⟨b,0,none⟩=some (.string s):=h.cell 0
theorem Rb.c1{w:World}{b:Nat}{s:ByteArray}{f:Bool}(h:Rb w b (s,f)):w.cell? ⟨b,1,none⟩=some (.bool f):=h.cell 1
theorem XR{n:Nat}{s:ByteArray}:tk n (s,true)=(ByteArray.empty,(s,true)):=by unfold tk;rw[if_pos (.inl rfl)]
theorem TM{n:Nat}{s:ByteArray}{f:Bool}(h:s.size<n):tk n (s,f)=(ByteArray.empty,(s,true)):=by unfold tk;rw[if_pos (.inr h)]
theorem VW{n:Nat}{s:ByteArray}(h:n<=s.size):tk n (s,false)=(s.extract 0 n,(s.extract n s.size,false)):=by unfold tk;rw[if_neg (by simp;omega)]
end Ev
theorem take_any(b n:Nat)(s:ByteArray)(f:Bool)(hs:s.size<=maxLen)(hn:n<18446744073709551616)(w:World)(h:Ev.Rb w b (s,f)) :
  Calls Tryz.prog 146 #[.pointer (some ⟨b,0,none⟩),.int .u64 n] w λe w'=>e=.returned (.string (Ev.tk n (s,f)).1)/\Ev.Rb w' b (Ev.tk n (s,f)).2/\w.grownBy w' (some b):=by
 unfold maxLen at hs;have c0:=h.c0;have c1:=h.c1;have f0:=Bk.frozen h 0;have f1:=Bk.frozen h 1;have HB:=hid h;cases f
 ·by_cases hl:s.size<n
  ·have HT:=hid (Ev.TM (f:=false) hl)
   rw[HT.out];have hi:(s.size:Int)<(n:Int):=by omega
   go_enter Tryz.func146,Tryz.ntmps146;go_wp2_with fail;go_ret;exact⟨rfl,HB.out.au 1 _,bn (dL _ _) (.inl rfl) _⟩
  ·have HT:=hid (Ev.VW (s:=s) (n:=n) (by omega))
   rw[HT.out];have hi:¬(s.size:Int)<(n:Int):=by omega
   have hi2:(n:Int)<=(s.size:Int):=by omega
   go_enter Tryz.func146,Tryz.ntmps146;go_wp2_with fail;go_ret;exact⟨rfl,HB.out.au 0 _,bn (dL _ _) (.inl rfl) _⟩
 ·rw[Ev.XR]
  go_enter Tryz.func146,Tryz.ntmps146;go_wp2_with fail;go_ret;exact⟨rfl,HB.out.au 1 _,bn (dL _ _) (.inl rfl) _⟩
theorem Ev.yh(n:Nat)(s:Ev.St):(Ev.tk n s).2.1.size<=s.1.size:=by
 unfold Ev.tk;split
 ·exact xB _
 ·simp
theorem Ev.XQ{s:Ev.St}(h:(Ev.tk 1 s).2.2=false):0<(Ev.tk 1 s).1.size:=by
 unfold Ev.tk at h ⊢;split at h
 ·cases h
 ·rename_i hn
  rw[if_neg hn];simp only[not_or]at hn;simp;omega
theorem one_any(b:Nat)(s:ByteArray)(f:Bool)(hs:s.size<=maxLen)(w:World)(h:Ev.Rb w b (s,f)) :
  Calls Tryz.prog 143 #[.pointer (some ⟨b,0,none⟩)] w λe w'=>e=.returned (.int .u8 (Ev.one (s,f)).1)/\Ev.Rb w' b (Ev.one (s,f)).2/\w.grownBy w' (some b):=by
 have HT:=hid (take_any b 1 s f hs (by omega) w h);have HO:=hid (Ev.XQ (s:=(s,f)));have HE:Hid (Ev.one (s,f)=if(Ev.tk 1 (s,f)).2.2 then(0,(Ev.tk 1 (s,f)).2)else(((Ev.tk 1 (s,f)).1.data.toList.getD 0 0).toNat,(Ev.tk 1 (s,f)).2)):=hid rfl;rw[HE.out];generalize Ev.tk 1 (s,f)=r at *;obtain⟨x,s',f'⟩:=r;clear h;cases f'
 ·have h0:0<x.size:=HO.out rfl
  have HX:=hid (Sm.getD_byte x 0 h0);have hi:(0:Int)<(x.size:Int):=by omega
  go_enter Tryz.func143,Tryz.ntmps143;go_wp2_with fail;refine HT.out.mono ?_;rintro e w1⟨rfl,hR,hg⟩;have c1:=hR.c1;have HR:=hid hR;clear hR;go_wp2_with fail;go_ret;exact⟨rfl,HR.out,hg⟩
 ·go_enter Tryz.func143,Tryz.ntmps143
  go_wp2_with fail;refine HT.out.mono ?_;rintro e w1⟨rfl,hR,hg⟩;have c1:=hR.c1;have HR:=hid hR;clear hR;go_wp2_with fail;go_ret;exact⟨rfl,HR.out,hg⟩
theorem D6(b:Nat)(s:ByteArray)(f:Bool)(hs:s.size<=maxLen)(w:World)(h:Ev.Rb w b (s,f)) :
  Calls Tryz.prog 144 #[.pointer (some ⟨b,0,none⟩)] w λe w'=>e=.returned (.int .u64 (Ev.num (s,f)).1)/\Ev.Rb w' b (Ev.num (s,f)).2/\w.grownBy w' (some b):=by
 have HG:=hid (P8 s hs);have hgl:=Ev.DJ s.data.toList 10 0;have hsl:s.data.toList.length=s.size:=by simp
 have bV:(Ev.qm s.data.toList).1<18446744073709551616/\(Ev.qm s.data.toList).2<=s.size/\-1<=(Ev.qm s.data.toList).2:=by rw[<-hsl];exact hgl
 have HE:Hid (Ev.num (s,f)=if f=true∨(Ev.qm s.data.toList).2<=0 then(0,(s,true))else((Ev.qm s.data.toList).1,(Ev.tk (Ev.qm s.data.toList).2.toNat (s,f)).2)):=hid rfl;rw[HE.out];clear HE hgl hsl;generalize Ev.qm s.data.toList=g at *;obtain⟨x,k⟩:=g;obtain⟨x1,x2,x3⟩:=bV;simp only at x1 x2 x3 ⊢;have c0:=h.c0;have c1:=h.c1;have f1:=Bk.frozen h 1;have HB:=hid h;have hs2:=hs;unfold maxLen at hs2;have HS:=hid hs;clear hs h;cases f
 ·by_cases hk:k<=0
  ·rw[if_pos (.inr hk)]
   go_enter Tryz.func144,Tryz.ntmps144;go_wp2_with fail;refine(HG.out _).mono ?_;rintro e w1⟨rfl,q,rfl⟩;go_wp2_with fail;go_ret;exact⟨rfl,Bk.au (w:=w.drewN q) HB.out 1 _,bn (zH (dL _ _) _) (.inl rfl) _⟩
  ·rw[if_neg (by simp;omega)]
   obtain⟨j,rfl⟩:=Int.eq_ofNat_of_zero_le (show 0<=k by omega);have hj:IntKind.u64.wrap (j:Int)=j:=by rw[IntKind.wrap_u64];omega
   go_enter Tryz.func144,Tryz.ntmps144;go_wp2_with fail;refine(HG.out _).mono ?_;rintro e w1⟨rfl,q,rfl⟩;go_wp2_with fail;refine(take_any b j s false HS.out (by omega) (w.drewN q) (Bk.drewN HB.out q)).mono ?_;rintro e w2⟨rfl,hR,hg⟩;have HR:=hid hR;clear hR;go_wp2_with fail;go_ret;exact⟨rfl,HR.out,aI (zH (dL _ _) _) hg⟩
 ·rw[if_pos (.inl rfl)]
  go_enter Tryz.func144,Tryz.ntmps144;go_wp2_with fail;refine(HG.out _).mono ?_;rintro e w1⟨rfl,q,rfl⟩;go_wp2_with fail;go_ret;exact⟨rfl,Bk.au (w:=w.drewN q) HB.out 1 _,bn (zH (dL _ _) _) (.inl rfl) _⟩
theorem Ev.tJ(s:Ev.St):(Ev.num s).1<18446744073709551616/\(Ev.num s).2.1.size<=s.1.size:=by
 unfold Ev.num;split
 ·exact⟨by simp,xB _⟩
 ·exact⟨(Ev.DJ _ 10 0).1,Ev.yh _ _⟩
theorem Eh(b:Nat)(s:ByteArray)(f:Bool)(hs:s.size<=maxLen)(w:World)(h:Ev.Rb w b (s,f)) :
  Calls Tryz.prog 145 #[.pointer (some ⟨b,0,none⟩)] w λe w'=>e=.returned (.string (Ev.qj (s,f)).1)/\Ev.Rb w' b (Ev.qj (s,f)).2/\w.grownBy w' (some b):=by
 have HN:=hid (D6 b s f hs w h);have hnf:=Ev.tJ (s,f);have HE:Hid (Ev.qj (s,f)=Ev.tk (Ev.num (s,f)).1 (Ev.num (s,f)).2):=hid rfl;rw[HE.out];clear HE h;generalize Ev.num (s,f)=g at *;obtain⟨n,s',f'⟩:=g;simp only at hnf;go_enter Tryz.func145,Tryz.ntmps145;go_wp2_with fail;refine HN.out.mono ?_;rintro e w1⟨rfl,hR,hg⟩;go_wp2_with fail;refine(take_any b n s' f' (xM hnf.2 hs) hnf.1 _ hR).mono ?_;rintro e w2⟨rfl,hR2,hg2⟩;have HR:=hid hR2;clear hR2;go_wp2_with fail;go_ret;exact⟨rfl,HR.out,aI hg hg2⟩
theorem Ev.str_eq{s:ByteArray}{l:List UInt8}(h:s.data.toList=l):s=⟨l.toArray⟩:=by
 subst h;cases s
 simp
attribute [local go_sem ↓] Go.wp_at_zero Go.wp_at_succ
namespace Ev
def Btn(w:World)(B:Nat)(v:Value)(xs:List UInt8)(N:Nat):Prop:=Bt w B v xs/\xs.length<=N/\B<=w.heap.size
theorem Btn.hn{w:World}{B:Nat}{v:Value}{xs:List UInt8}{N:Nat}(h:Btn w B v xs N):B<=w.heap.size:=h.2.2
theorem Btn.below{w w':World}{B:Nat}{v:Value}{xs:List UInt8}{N:Nat}(h:Btn w B v xs N)(hb:Below w.heap.size w w'):Btn w' B v xs N :=
 ⟨Tk.Gj h.1 hb,h.2.1,xM h.2.2 hb.size⟩
theorem Bt.three{w:World}{a b c:Nat}(ha:a<256)(hb:b<256)(hc:c<256):Bt (w.alloc (.cells #[.int .u8 a,.int .u8 b,.int .u8 c] 5)) w.heap.size (.slice (some ⟨w.heap.size,0,none⟩) 3 3) [UInt8.ofNat a,UInt8.ofNat b,UInt8.ofNat c]:=by
 have e:∀ x,x<256->Sm.kT (UInt8.ofNat x)=.int .u8 x:=λx hx=>by unfold Sm.kT;rw[Sm.ofNat_toNat,Nat.mod_eq_of_lt hx]
 refine⟨rfl,.inr ⟨w.heap.size,3,_,rfl,xB _,heap_alloc_new w _,xB _,by unfold maxLen;omega,rfl,?_⟩⟩;simp[e _ ha,e _ hb,e _ hc]
theorem Bt.run{w:World}{B:Nat}{v:Value}{xs:List UInt8}(h:Bt w B v xs)(h0:0<xs.length):∃ g cap,v=.slice (some ⟨g,0,none⟩) xs.length cap /\
  Sem.run Tryz.prog (convert 120 9 (.slice (some ⟨g,0,none⟩) xs.length cap)) w=.ok (.string ⟨xs.toArray⟩) w:=by
 obtain⟨g,cap,rfl,hg1,hg2⟩:=h.own.form h0;have hcs:=h.own.cells (g:=g) rfl;refine⟨g,cap,rfl,run_convert_bytes_back (P:=Tryz.prog) w 120 9 5 ⟨g,0,none⟩ cap xs Tryz.underlying120 Tryz.underlying5 Tryz.underlying9 ?_⟩;intro j hj;refine hcs j _ ?_;rw[List.getElem?_map,yF hj];rfl
end Ev
theorem Jb{B:Nat}{v:Value}{xs:List UInt8}{x N:Nat}{w:World}(h:Ev.Btn w B v xs N)(hx:x<18446744073709551616)(hn:N<=1000000000) :
  Calls Tryz.prog 138 #[v,.int .u64 x] w λe w'=>∃ v',e=.returned v'/\Ev.Btn w' B v' (xs++Ev.var x) (N+10)/\Below B w w' :=
 (Ew B v xs x hx (xM h.2.1 hn) w h.1 h.2.2).mono λe w' ⟨v',he,hr,hb⟩=>⟨v',he,⟨hr,by rw[xI];have:=(Ev.mO x).2;have:=h.2.1;omega,xM h.2.2 hb.size⟩,hb⟩
theorem Ei{B:Nat}{v:Value}{xs:List UInt8}{s:ByteArray}{N:Nat}{w:World}(h:Ev.Btn w B v xs N)(hs:N+s.size<=1000000000) :
  Calls Tryz.prog 137 #[v,.string s] w λe w'=>∃ v',e=.returned v'/\Ev.Btn w' B v' (xs++Ev.txt s) (N+s.size+10)/\Below B w w':=by
 refine(TP B v xs s (by omega) (xM h.2.1 (by omega)) w h.1 h.2.2).mono λe w' ⟨v',he,hr,hb⟩=>⟨v',he,⟨hr,?_,xM h.2.2 hb.size⟩,hb⟩
 have h1:=(Ev.mO s.size).2;have h2:=h.2.1;have h3:s.data.toList.length=s.size:=by simp
 unfold Ev.txt;rw[xI,xI];omega
theorem Um{B:Nat}{v:Value}{xs:List UInt8}{x N:Nat}{w:World}(h:Ev.Btn w B v xs N)(hx:x<18446744073709551616)(hn:N<=1000000000) :
  Calls Tryz.prog 139 #[v,.int .u64 x,.int .i64 8] w λe w'=>∃ v',e=.returned v'/\Ev.Btn w' B v' (xs++Ev.big x 8) (N+8)/\Below B w w' :=
 (O7 B v xs x hx (xM h.2.1 hn) w h.1 h.2.2).mono λe w' ⟨v',he,hr,hb⟩=>⟨v',he,⟨hr,by rw[xI,Ev.yP];have:=h.2.1;omega,xM h.2.2 hb.size⟩,hb⟩
theorem Iz(n:Nat)(h:n<18446744073709551616):IntKind.u64.wrap (n:Int)=n:=by
 rw[IntKind.wrap_u64];omega
theorem qR{B:Nat}{a w:World}(h:Below B a.drew w):Below B a w:=⟨h.os,h.tape,h.output,h.size,h.block⟩
theorem Ev.Nq{l:Ev.Letter}(h:Ev.right l=false):Ev.pack l=(ByteArray.empty,1):=by unfold Ev.pack;rw[h];rfl
theorem Ev.Jj{l:Ev.Letter}(h:Ev.right l=true):Ev.pack l=(⟨(Ev.bytes l).toArray⟩,0):=by unfold Ev.pack;rw[h];rfl
theorem Ev.CS{l:Ev.Letter}(h:Ev.right l=true):0<=l.from_/\l.from_<4/\0<=l.to_/\l.to_<4/\0<=l.code/\l.code<=999/\l.kind<5/\l.key.size<=64/\l.body.size<=4096:=by
 unfold Ev.right Ev.peer at h;grind
theorem Jk(l:Ev.Letter)(hl:l.ok)(h6:l.svc.size<=10000/\l.mth.size<=10000)(w:World)(hk:Tk.KW w) :
  Calls Tryz.prog 66 #[l.val] w λe w'=>e=.returned (.tuple #[.string (Ev.pack l).1,.int .i64 (Ev.pack l).2])/\Below w.heap.size w w':=by
 have HR0:=Rh l;cases hr:Ev.right l
 ·have HP:=hid (Ev.Nq hr)
  have HR:=hid hr;clear hr;rw[HP.out];obtain⟨k0,k1,k2,k3,k4,k5,k6,k7,k8,k9⟩:=l;unfold Ev.Letter.val at HR0 ⊢;have HR1:=hid HR0;clear HR0;go_enter Tryz.func66,Tryz.ntmps66;go_wp2_with fail;refine(HR1.out _ (hk.below ((Below.refl _ _).alloc (xB _) _))).mono ?_;rintro e w1⟨rfl,hb1⟩;simp only[World.size_alloc]at hb1;rw[HR.out];go_wp2_with fail;go_ret2;exact⟨rfl,((Below.refl w.heap.size w).alloc (xB _) _).trans (hb1.mono (by omega))⟩
 ·have HP:=hid (Ev.Jj hr)
  have HR:=hid hr;obtain⟨f1,f2,f3,f4,f5,f6,f7,f8,f9⟩:=Ev.CS hr;clear hr;rw[HP.out];obtain⟨k0,k1,k2,k3,k4,k5,k6,k7,k8,k9⟩:=l;obtain⟨g1,g2,g3⟩:=hl;obtain⟨g4,g5⟩:=h6;simp only at f1 f2 f3 f4 f5 f6 f7 f8 f9 g1 g2 g3 g4 g5;obtain⟨k1,rfl⟩:=Int.eq_ofNat_of_zero_le f1;obtain⟨k2,rfl⟩:=Int.eq_ofNat_of_zero_le f3;obtain⟨k8,rfl⟩:=Int.eq_ofNat_of_zero_le f5;unfold Ev.Letter.val at HR0 ⊢;have HR1:=hid HR0;have HB:Hid (Ev.bytes ⟨k0,k1,k2,k3,k4,k5,k6,k7,k8,k9⟩=((((((([UInt8.ofNat k0,UInt8.ofNat k1,UInt8.ofNat k2]++Ev.var k3)++Ev.txt k4)++Ev.big k5 8)++Ev.txt k6)++Ev.txt k7)++Ev.var k8)++Ev.txt k9)++Sm.le4 (Sm.crc ((((((([UInt8.ofNat k0,UInt8.ofNat k1,UInt8.ofNat k2]++Ev.var k3)++Ev.txt k4)++Ev.big k5 8)++Ev.txt k6)++Ev.txt k7)++Ev.var k8)++Ev.txt k9))):=hid rfl;clear HR0;go_enter Tryz.func66,Tryz.ntmps66;go_wp2_with fail;refine(HR1.out _ (hk.below ((Below.refl _ _).alloc (xB _) _))).mono ?_;rintro e w1⟨rfl,hb1⟩;simp only[World.size_alloc]at hb1;rw[HR.out];have hz1:=hb1.size;simp only[World.size_alloc]at hz1;have hcell:=(vP hb1).1;have c0:w1.cell? ⟨w.heap.size,0,none⟩=some (.int .u8 k0):=(hcell _ _ (by omega)).trans (by simp);have c1:w1.cell? ⟨w.heap.size,1,none⟩=some (.int .i64 k1):=(hcell _ _ (by omega)).trans (by simp);have c2:w1.cell? ⟨w.heap.size,2,none⟩=some (.int .i64 k2):=(hcell _ _ (by omega)).trans (by simp);have c3:w1.cell? ⟨w.heap.size,3,none⟩=some (.int .u64 k3):=(hcell _ _ (by omega)).trans (by simp);have c4:w1.cell? ⟨w.heap.size,4,none⟩=some (.string k4):=(hcell _ _ (by omega)).trans (by simp);have c5:w1.cell? ⟨w.heap.size,5,none⟩=some (.int .u64 k5):=(hcell _ _ (by omega)).trans (by simp);have c6:w1.cell? ⟨w.heap.size,6,none⟩=some (.string k6):=(hcell _ _ (by omega)).trans (by simp);have c7:w1.cell? ⟨w.heap.size,7,none⟩=some (.string k7):=(hcell _ _ (by omega)).trans (by simp);have c8:w1.cell? ⟨w.heap.size,8,none⟩=some (.int .i64 k8):=(hcell _ _ (by omega)).trans (by simp);have c9:w1.cell? ⟨w.heap.size,9,none⟩=some (.string k9):=(hcell _ _ (by omega)).trans (by simp);clear hcell;have hlt:w.heap.size<w1.heap.size:=by omega
  go_wp2_with fail;have h0:Ev.Btn _ _ _ _ 3:=⟨Ev.Bt.three (w:=w1) g1 (show k1<256 by omega) (show k2<256 by omega),by simp,by simp⟩;have hb2:Below w1.heap.size w1 (w1.alloc (.cells #[.int .u8 k0,.int .u8 k1,.int .u8 k2] 5)):=(Below.refl _ _).alloc (xB _) _;have hcell:=(vP hb2).1;replace c3:=(hcell _ _ hlt).trans c3;replace c4:=(hcell _ _ hlt).trans c4;replace c5:=(hcell _ _ hlt).trans c5;replace c6:=(hcell _ _ hlt).trans c6;replace c7:=(hcell _ _ hlt).trans c7;replace c8:=(hcell _ _ hlt).trans c8;replace c9:=(hcell _ _ hlt).trans c9;clear hcell c0 c1 c2;generalize(w1.alloc (.cells #[.int .u8 k0,.int .u8 k1,.int .u8 k2] 5))=w2 at *;generalize[UInt8.ofNat k0,UInt8.ofNat k1,UInt8.ofNat k2]=xs at *;go_region_held3 (λw'=>w'.cell? ⟨w.heap.size,3,none⟩=some (.int .u64 k3)/\w'.cell? ⟨w.heap.size,4,none⟩=some (.string k4))
   (first|go_keep|(go_split_ands;refine⟨?_,?_⟩<;>((first|rw[hb4.cell (p:=⟨w.heap.size,_,none⟩) hlt]|rw[hb3.cell (p:=⟨w.heap.size,_,none⟩) hlt]);simp[*])))
   (first|(go_at_call 138;refine(Jb (by assumption) (by omega) (by omega)).mono ?_;rintro e w3⟨v3,rfl,h3,hb3⟩)|(go_at_call 137;refine(Ei (by assumption) (by omega)).mono ?_;rintro e w4⟨v4,rfl,h4,hb4⟩))
  have hq:=(vP (hb3.trans hb4)).1;replace c5:=(hq _ _ hlt).trans c5;replace c6:=(hq _ _ hlt).trans c6;replace c7:=(hq _ _ hlt).trans c7;replace c8:=(hq _ _ hlt).trans c8;replace c9:=(hq _ _ hlt).trans c9;have hbA:Below w1.heap.size w1 w4:=hb2.trans (qR (hb3.trans hb4));clear hq h3 hb3 hb4 hb2 c3 c4;generalize xs++Ev.var k3++Ev.txt k4=ys at *;go_wp2_with fail;refine(Um h4 (by omega) (by omega)).mono ?_;rintro e w5⟨v5,rfl,h5,hb5⟩;have hq:=(vP hb5).1;replace c6:=(hq _ _ hlt).trans c6;replace c7:=(hq _ _ hlt).trans c7;replace c8:=(hq _ _ hlt).trans c8;replace c9:=(hq _ _ hlt).trans c9;have hbB:Below w1.heap.size w1 w5:=hbA.trans hb5;clear hq h4 hbA hb5 c5;generalize ys++Ev.big k5 8=zs at *;go_wp2_with fail;go_region_held3 (λw'=>w'.cell? ⟨w.heap.size,6,none⟩=some (.string k6)/\w'.cell? ⟨w.heap.size,7,none⟩=some (.string k7))
   (first|go_keep|(go_split_ands;refine⟨?_,?_⟩<;>((first|rw[hb4.cell (p:=⟨w.heap.size,_,none⟩) hlt]|rw[hb3.cell (p:=⟨w.heap.size,_,none⟩) hlt]);simp[*])))
   (first|(go_at_call_of 137 (Value.string k6);refine(Ei (by assumption) (by omega)).mono ?_;rintro e w3⟨v3,rfl,h3,hb3⟩)|(go_at_call_of 137 (Value.string k7);refine(Ei (by assumption) (by omega)).mono ?_;rintro e w4⟨v4,rfl,h4,hb4⟩))
  have hq:=(vP (qR (hb3.trans hb4))).1;replace c8:=(hq _ _ hlt).trans c8;replace c9:=(hq _ _ hlt).trans c9;have hbC:Below w1.heap.size w1 w4:=hbB.trans (qR (hb3.trans hb4));clear hq h3 hb3 hb4 hbB c6 c7;generalize zs++Ev.txt k6++Ev.txt k7=us at *;go_wp2_with fail;have hwr:=Iz k8 (by omega);go_region_held3 (λw'=>w'.cell? ⟨w.heap.size,8,none⟩=some (.int .i64 k8)/\w'.cell? ⟨w.heap.size,9,none⟩=some (.string k9))
   (first|go_keep|(go_split_ands;refine⟨?_,?_⟩<;>((first|rw[hb7.cell (p:=⟨w.heap.size,_,none⟩) hlt]|rw[hb6.cell (p:=⟨w.heap.size,_,none⟩) hlt]);simp[*])))
   (first|(go_at_call 138;refine(Jb (by assumption) (by omega) (by omega)).mono ?_;rintro e w6⟨v6,rfl,h6,hb6⟩)|(go_at_call 137;refine(Ei (by assumption) (by omega)).mono ?_;rintro e w7⟨v7,rfl,h7,hb7⟩))
  have hbD:Below w1.heap.size w1 w7:=hbC.trans (qR (hb6.trans hb7));clear h6 hb6 hb7 hbC c8 c9 hwr;have hpos:0<(us++Ev.var k8++Ev.txt k9).length:=by have:=(Ev.mO k8).1;rw[xI,xI];omega
  generalize us++Ev.var k8++Ev.txt k9=ts at *;obtain⟨g,cap,rfl,hrun⟩:=h7.1.run hpos;have hts:=h7.2.1;go_wp2_with fail;have hcl:=Sm.Kr ts;refine(N7 ⟨ts.toArray⟩ (by show ts.toArray.size<=_;rw[List.size_toArray];unfold maxLen;omega) _).mono ?_;rintro e w8⟨rfl,hb8⟩;have h8:=h7.below hb8;have hbE:Below w1.heap.size w1 w8:=hbD.trans (hb8.mono h7.2.2);clear hrun;show match Ending.returned (Value.int IntKind.u32 ↑(Sm.crc ts)),w8 with
   |_,_=>_
  go_wp2_with fail;refine(Ig w1.heap.size _ ts (Sm.crc ts) hcl (by omega) _ h8.1 h8.2.2).mono ?_;rintro e w9⟨v9,rfl,h9,hb9⟩;obtain⟨g9,aaW,rfl,hrun⟩:=h9.run (by rw[xI];omega);have HB2:Hid (_=ts++Sm.le4 (Sm.crc ts)):=HB;clear HB;generalize ts++Sm.le4 (Sm.crc ts)=rs at *;go_wp2_with fail;go_ret2;exact⟨by rw[HB2.out];rfl,((Below.refl w.heap.size w).alloc (xB _) _).trans ((hb1.trans ((hbE.trans hb9).mono hz1)).mono (by omega))⟩
end
namespace Ev
def ba(l:List UInt8):ByteArray:=⟨l.toArray⟩
theorem rJ(l:List UInt8):(ba l).data.toList=l:=by simp[ba]
theorem FH(l:List UInt8):(ba l).size=l.length:=by show l.toArray.size=_;simp
theorem ba_eq{s:ByteArray}{l:List UInt8}(h:s.data.toList=l):s=ba l:=str_eq h
def parse(h:ByteArray):Letter × Bool :=
 let a1:=one (h,false)
 let a2:=one a1.2
 let a3:=one a2.2
 let a4:=num a3.2
 let a5:=qj a4.2
 let a6:=tk 8 a5.2
 let a7:=qj a6.2
 let a8:=qj a7.2
 let a9:=num a8.2
 let a10:=qj a9.2
 (⟨a1.1,a2.1,a3.1,a4.1,a5.1,if a6.2.2 then 0 else qQ 0 a6.1.data.toList,a7.1,a8.1,min (a9.1:Int) 1000,a10.1⟩,a10.2.2)
def su(b:ByteArray):Bool:=decide (4<=b.size)&&decide (Sm.crc (b.data.toList.take (b.size - 4))=Sm.yS (b.data.toList.drop (b.size - 4)))
def jV(b:ByteArray):Letter × Nat :=
 if su b then
  let r:=parse (b.extract 0 (b.size - 4))
  if r.2=false/\right r.1=true/\ba (bytes r.1)=b then(r.1,0)else(Letter.zero,162)
 else(Letter.zero,8)
theorem BX{n:Nat}{x r:List UInt8}(h:x.length=n):tk n (ba (x++r),false)=(ba x,(ba r,false)):=by
 rw[VW (by rw[FH,xI];omega)];have e1:(ba (x++r)).extract 0 n=ba x:=ba_eq (by rw[Lib.extract_data,rJ,List.drop_zero,Nat.sub_zero,<-h,List.take_append_of_le_length (xB _),List.take_length]);have e2:(ba (x++r)).extract n (ba (x++r)).size=ba r:=ba_eq (by
  rw[Lib.extract_data,rJ,FH,<-h,List.drop_append_of_le_length (xB _),List.drop_length,yI,xI,Nat.add_sub_cancel_left,List.take_length])
 rw[e1,e2]
theorem Uw(c:UInt8)(r:List UInt8):one (ba (c::r),false)=(c.toNat,(ba r,false)):=by
 have h:=BX (n:=1) (x:=[c]) (r:=r) rfl;rw[List.singleton_append]at h;unfold one;rw[h];simp[rJ]
theorem D7(y:Nat)(hy:y<18446744073709551616)(r:List UInt8):num (ba (var y++r),false)=(y,(ba r,false)):=by
 have hl:=(mO y).1;have h:=BX (n:=(var y).length) (x:=var y) (r:=r) rfl;unfold num;simp only[rJ];rw[Vg y hy,if_neg (by rintro(h|h)<;>first|cases h|(simp only at h;omega))];simp only[Int.toNat_natCast];rw[h]
theorem wE(s:ByteArray)(hs:s.size<18446744073709551616)(r:List UInt8):qj (ba (txt s++r),false)=(s,(ba r,false)):=by
 unfold qj txt;rw[xU,D7 _ hs,BX (by simp)];rw[<-ba_eq (s:=s) rfl]
theorem Aa{t:ByteArray}(h:t.toList.isEmpty=true):t.size=0:=by
 have e2:t.toList=ByteArray.empty.toList:=by rw[List.isEmpty_iff.1 h];decide +kernel
 rw[Tk.text_eq e2];rfl
theorem AL{t:ByteArray}(h:Tk.isName t=true):t.size<=32:=by
 rcases Nat.lt_or_ge 32 t.size with h'|h'
 ·rw[Tk.lq (.inr h')]at h;cases h
 ·exact h'
theorem LG{l:Letter}(h:right l=true):l.svc.size<=32/\l.mth.size<=32:=by
 unfold right at h;by_cases h1:l.kind=1∨l.kind=3
 ·rw[if_pos h1]at h
  simp only[xX]at h;exact⟨AL h.2.1.1.1,AL h.2.1.1.2⟩
 ·rw[if_neg h1]at h
  by_cases h2:l.kind=2∨l.kind=4
  ·rw[if_pos h2]at h
   simp only[xX]at h;have e1:=Aa h.2.1.1.1;have e2:=Aa h.2.1.1.2;omega
  ·rw[if_neg h2]at h
   simp at h
theorem OJ{l:Letter}(hl:l.ok)(hr:right l=true):parse (ba (head l))=(l,false):=by
 obtain⟨f1,f2,f3,f4,f5,f6,f7,f8,f9⟩:=CS hr;obtain⟨k0,k1,k2,k3,k4,k5,k6,k7,k8,k9⟩:=l;obtain⟨g1,g2,g3⟩:=hl;simp only at f1 f2 f3 f4 f5 f6 f7 f8 f9 g1 g2 g3;have hsz:k6.size<18446744073709551616/\k7.size<18446744073709551616:=by
  have:=LG hr;simp only at this;omega
 obtain⟨k1,rfl⟩:=Int.eq_ofNat_of_zero_le f1;obtain⟨k2,rfl⟩:=Int.eq_ofNat_of_zero_le f3;obtain⟨k8,rfl⟩:=Int.eq_ofNat_of_zero_le f5;have e0:head ⟨k0,k1,k2,k3,k4,k5,k6,k7,k8,k9⟩=UInt8.ofNat k0::(UInt8.ofNat k1::(UInt8.ofNat k2::(var k3++(txt k4++(big k5 8++(txt k6++(txt k7++(var k8++(txt k9++[]))))))))):=by
  simp[head]
 have o:∀ x,x<256->(UInt8.ofNat x).toNat=x:=λx hx=>by rw[Sm.ofNat_toNat,Nat.mod_eq_of_lt hx]
 have hb:=KH 8 0 k5 (by simpa using g3) (by simpa using g3);rw[Nat.zero_mul,Nat.zero_add]at hb;unfold parse;rw[e0];simp only[Uw,D7 k3 g2,wE k4 (by omega),BX (yP k5 8),wE k6 hsz.1,wE k7 hsz.2,D7 k8 (by omega),wE k9 (by omega),rJ,hb,o k0 g1,o k1 (by omega),o k2 (by omega)];rw[Int.min_eq_left (by omega)];simp
theorem Me(l:Letter):su (ba (bytes l))=true/\(ba (bytes l)).extract 0 ((ba (bytes l)).size - 4)=ba (head l):=by
 have hl4:(Sm.le4 (Sm.crc (head l))).length=4:=rfl;have hsz:(ba (bytes l)).size=(head l).length+4:=by rw[FH,bytes,xI,hl4]
 have hv:=Sm.TK (Sm.Kr (head l)) [];rw[List.append_nil]at hv;constructor
 ·unfold su
  rw[hsz,Nat.add_sub_cancel,rJ,bytes,List.take_append_of_le_length (xB _),List.take_length,List.drop_append_of_le_length (xB _),List.drop_length,yI,hv];simp
 ·refine ba_eq ?_
  rw[Lib.extract_data,hsz,Nat.add_sub_cancel,rJ,List.drop_zero,Nat.sub_zero,bytes,List.take_append_of_le_length (xB _),List.take_length]
theorem LH{l:Letter}(hl:l.ok)(hr:right l=true):jV (ba (bytes l))=(l,0):=by
 obtain⟨h1,h2⟩:=Me l;unfold jV;rw[if_pos h1,h2,OJ hl hr];simp[hr]
theorem Gm{b:ByteArray}(hc:su b=false):jV b=(Letter.zero,8):=by
 unfold jV;rw[if_neg (by simp[hc])]
end Ev
section
open Go.RowKit
namespace Ev
theorem Zz{a b:Nat}(h:¬a=b):((a:Int) != (b:Int))=true:=by rw[bne_iff_ne];omega
theorem Z4{a b:Nat}(h:a=b):((a:Int) != (b:Int))=false:=by rw[h];simp
theorem Jp(s:St):(one s).2.1.size<=s.1.size/\(one s).1<256:=by
 unfold one;split
 ·exact⟨yh _ _,by show 0<256;omega⟩
 ·exact⟨yh _ _,UInt8.toNat_lt _⟩
theorem Zi(n:Nat)(s:St):(tk n s).1.size<=s.1.size:=by
 unfold tk;split
 ·exact Nat.zero_le _
 ·simp;omega
theorem BZ(s:St):(qj s).2.1.size<=s.1.size/\(qj s).1.size<=s.1.size :=
 ⟨xM (yh _ _) (tJ s).2,xM (Zi _ _) (tJ s).2⟩
theorem TN{s:St}(h:(tk 8 s).2.2=false):(tk 8 s).1.size=8:=by
 unfold tk at h ⊢;split at h
 ·cases h
 ·rename_i hn
  rw[if_neg hn];simp only[not_or]at hn;simp;omega
theorem Ui{b:ByteArray}{l:Letter}{f:Bool}{P:ByteArray × Nat}(hc:su b=true)(hp:parse (b.extract 0 (b.size - 4))=(l,f))(hk:pack l=P):jV b=if f=false/\P.2=0/\P.1=b then(l,0)else(Letter.zero,162):=by
 subst hk;unfold jV;rw[if_pos hc,hp];simp only;cases hr:right l
 ·rw[Nq hr,if_neg (by simp),if_neg (by simp)]
 ·rw[Jj hr]
  have e:(ba (bytes l)=b)=((⟨(bytes l).toArray⟩:ByteArray)=b):=rfl;by_cases h:f=false/\ba (bytes l)=b
  ·rw[if_pos ⟨h.1,rfl,h.2⟩,if_pos ⟨h.1,rfl,h.2⟩]
  ·rw[if_neg (λh'=>h ⟨h'.1,h'.2.2⟩),if_neg (λh'=>h ⟨h'.1,h'.2.2⟩)]
end Ev
theorem Xy{b:ByteArray}(h4:4<=b.size)(h:Sm.crc ((b.extract 0 (b.size - 4)).data.toList)=Sm.yS ((b.extract (b.size - 4) b.size).data.toList)):Ev.su b=true:=by
 unfold Ev.su;rw[Lib.extract_data,Lib.extract_data,List.drop_zero,Nat.sub_zero]at h;rw[show b.size - (b.size - 4)=4 from by omega,yE (l:=b.data.toList.drop (b.size - 4)) (by simp;omega)]at h;simp[h4,h]
theorem PX{b:ByteArray}(h4:4<=b.size)(h:Sm.crc ((b.extract 0 (b.size - 4)).data.toList)≠Sm.yS ((b.extract (b.size - 4) b.size).data.toList)):Ev.su b=false:=by
 unfold Ev.su;rw[Lib.extract_data,Lib.extract_data,List.drop_zero,Nat.sub_zero]at h;rw[show b.size - (b.size - 4)=4 from by omega,yE (l:=b.data.toList.drop (b.size - 4)) (by simp;omega)]at h;simp[h4,h]
theorem read_short(b:ByteArray)(hs:b.size<4)(w:World) :
  Calls Tryz.prog 67 #[.string b] w λe w'=>e=.returned (.tuple #[(Ev.jV b).1.val,.int .i64 (Ev.jV b).2])/\Below w.heap.size w w':=by
 have HC:Hid (Ev.jV b=(Ev.Letter.zero,8)):=hid (Ev.Gm (by unfold Ev.su;simp;omega));have hi:(b.size:Int)<4:=by omega
 go_enter Tryz.func67,Tryz.ntmps67;go_wp2_with fail;refine bodyPost_ret (v:=.tuple #[Ev.Letter.zero.val,.int .i64 8]) ?_ rfl ⟨by rw[HC.out];rfl,?_⟩
 ·rw[results_cell_tmp rfl]
  go_simp;try rfl
 ·exact(Below.refl _ _).alloc (xB _) _
theorem Rj(b:ByteArray)(h4:4<=b.size)(hs:b.size<=10000)(w:World)(hk:Tk.KW w) :
  Calls Tryz.prog 67 #[.string b] w λe w'=>e=.returned (.tuple #[(Ev.jV b).1.val,.int .i64 (Ev.jV b).2])/\Below w.heap.size w w':=by
 have hi:¬(b.size:Int)<4:=by omega
 have hi2:(0:Int)<=(b.size:Int) - 4:=by omega
 have hi3:(b.size:Int) - 4<=(b.size:Int):=by omega
 have HCY:=hid (Xy h4);have HCN:=hid (PX h4);have hhz:(b.extract 0 (b.size - 4)).size=b.size - 4:=by simp
 have htz:(b.extract (b.size - 4) b.size).size=4:=by simp;omega
 have hnt:((b.size:Int) - 4).toNat=b.size - 4:=by omega
 have HNT:=hid hnt;clear hnt;go_enter Tryz.func67,Tryz.ntmps67;go_wp2_with fail;generalize hh:b.extract 0 (b.size - 4)=h at *;have HP0:=hid hh;clear hh;have hz:h.size+4=b.size:=by omega
 have hz2:b.size - 4=h.size:=by omega
 rw[hz2]at HCY HCN htz;rw[Lib.extract_data b h.size b.size]at HCY HCN;clear hhz hz2 HNT hi2 hi3;have b1:(h.size:Int)<=(b.size:Int):=by omega
 have b2:(0:Int)<=(h.size:Int):=by omega
 have hbz:b.size<=maxLen:=by unfold maxLen;omega
 have hhm:h.size<=maxLen:=by unfold maxLen;omega
 have HBZ:=hid hbz;have HHM:=hid hhm;have HTZ:=hid htz;have HZ:=hid hz;have hle:h.size<=10000:=by omega
 clear hbz hhm htz hz;have hQ0:Bk _ w.heap.size 56 _:=Bk.new w 56 #[.int .u8 0,.int .i64 0,.int .i64 0,.int .u64 0,.string ⟨#[]⟩,.int .u64 0,.string ⟨#[]⟩,.string ⟨#[]⟩,.int .i64 0,.string ⟨#[]⟩];have hB0:Below w.heap.size w _:=(Below.refl w.heap.size w).alloc (xB _) (.cells #[.int .u8 0,.int .i64 0,.int .i64 0,.int .u64 0,.string ⟨#[]⟩,.int .u64 0,.string ⟨#[]⟩,.string ⟨#[]⟩,.int .i64 0,.string ⟨#[]⟩] 56);have hk0:=hk.any hB0 hk.1;generalize w.alloc (.cells #[.int .u8 0,.int .i64 0,.int .i64 0,.int .u64 0,.string ⟨#[]⟩,.int .u64 0,.string ⟨#[]⟩,.string ⟨#[]⟩,.int .i64 0,.string ⟨#[]⟩] 56)=w0 at *;have hcl:=Sm.Kr h.data.toList;have hcw:=Iz (Sm.crc h.data.toList) (by omega);have b3:h.size<=b.size:=by omega
 refine nG w0 (by kernel_rfl) (by kernel_rfl) (Bl.refl w0) ?_;repeat(first|go_big_quiet_step((intro hb;first|(go_at_call 141;exact o7 hb (N7 _ HHM.out _))|(go_at_call 142;exact FC hb (Ih _ (by rw[HTZ.out];omega) _))))|(refine wpQuiet_step (λK hK=>?_);go_simp;refine⟨_,λ_ _=>rfl,hK _ ?_⟩;clear hK K))
 refine wpQuiet_nil ?_;intro w2 hw2;replace hB0:=hB0.trans (hw2.mono hB0.size);replace hQ0:=hQ0.below hw2 hQ0.lt;replace hk0:=hk0.below hw2;clear hw2 w0 b1 b2 hcw;by_cases hsum:Sm.crc h.data.toList=Sm.yS ((b.data.toList.drop h.size).take (b.size - h.size))
 ·have ht:=Ev.Z4 hsum
  have hc:=HCY.out hsum;clear hsum HCY HCN;obtain⟨x1,s1,f1,e1⟩:∃ x s f,Ev.one (h,false)=(x,(s,f)):=⟨_,_,_,rfl⟩;have z1:=Ev.Jp (h,false);rw[e1]at z1;simp only at z1;obtain⟨x2,s2,f2,e2⟩:∃ x s f,Ev.one (s1,f1)=(x,(s,f)):=⟨_,_,_,rfl⟩;have z2:=Ev.Jp (s1,f1);rw[e2]at z2;simp only at z2;obtain⟨x3,s3,f3,e3⟩:∃ x s f,Ev.one (s2,f2)=(x,(s,f)):=⟨_,_,_,rfl⟩;have z3:=Ev.Jp (s2,f2);rw[e3]at z3;simp only at z3;obtain⟨x4,s4,f4,e4⟩:∃ x s f,Ev.num (s3,f3)=(x,(s,f)):=⟨_,_,_,rfl⟩;have z4:=Ev.tJ (s3,f3);rw[e4]at z4;simp only at z4;obtain⟨x5,s5,f5,e5⟩:∃ x s f,Ev.qj (s4,f4)=(x,(s,f)):=⟨_,_,_,rfl⟩;have z5:=Ev.BZ (s4,f4);rw[e5]at z5;simp only at z5;obtain⟨x6,s6,f6,e6⟩:∃ x s f,Ev.tk 8 (s5,f5)=(x,(s,f)):=⟨_,_,_,rfl⟩;have z6:=Ev.yh 8 (s5,f5);have y6:=Ev.TN (s:=(s5,f5));rw[e6]at y6;simp only at y6;rw[e6]at z6;simp only at z6;obtain⟨x7,s7,f7,e7⟩:∃ x s f,Ev.qj (s6,f6)=(x,(s,f)):=⟨_,_,_,rfl⟩;have z7:=Ev.BZ (s6,f6);rw[e7]at z7;simp only at z7;obtain⟨x8,s8,f8,e8⟩:∃ x s f,Ev.qj (s7,f7)=(x,(s,f)):=⟨_,_,_,rfl⟩;have z8:=Ev.BZ (s7,f7);rw[e8]at z8;simp only at z8;obtain⟨x9,s9,f9,e9⟩:∃ x s f,Ev.num (s8,f8)=(x,(s,f)):=⟨_,_,_,rfl⟩;have z9:=Ev.tJ (s8,f8);rw[e9]at z9;simp only at z9;obtain⟨x10,s10,f10,e10⟩:∃ x s f,Ev.qj (s9,f9)=(x,(s,f)):=⟨_,_,_,rfl⟩;have z10:=Ev.BZ (s9,f9);rw[e10]at z10;simp only at z10;have HPP:Hid (Ev.parse h=(⟨x1,x2,x3,x4,x5,if f6 then 0 else Ev.qQ 0 x6.data.toList,x7,x8,min (x9:Int) 1000,x10⟩,f10)):=hid (by simp only[Ev.parse,e1,e2,e3,e4,e5,e6,e7,e8,e9,e10]);have E1:=hid e1;have E2:=hid e2;have E3:=hid e3;have E4:=hid e4;have E5:=hid e5;have E6:=hid e6;have E7:=hid e7;have E8:=hid e8;have E9:=hid e9;have E10:=hid e10;have HC:=hid hc;have Y6:=hid y6;clear hc y6 e1 e2 e3 e4 e5 e6 e7 e8 e9 e10;have hK:=(hk0.below ((Below.refl _ _).alloc (xB _) (.cells #[.string h,.bool false] 224)));have hB1:=(hB0.alloc hB0.size (.cells #[.string h,.bool false] 224)).alloc (by rw[World.size_alloc];have:=hB0.size;omega) (.cells #[.int .u8 0,.int .i64 0,.int .i64 0,.int .u64 0,.string ⟨#[]⟩,.int .u64 0,.string ⟨#[]⟩,.string ⟨#[]⟩,.int .i64 0,.string ⟨#[]⟩] 56);have hQ1:=(hQ0.alloc (.cells #[.string h,.bool false] 224)).alloc (.cells #[.int .u8 0,.int .i64 0,.int .i64 0,.int .u64 0,.string ⟨#[]⟩,.int .u64 0,.string ⟨#[]⟩,.string ⟨#[]⟩,.int .i64 0,.string ⟨#[]⟩] 56);have hR1:Ev.Rb _ w2.heap.size (h,false):=(Bk.new w2 224 #[.string h,.bool false]).alloc (.cells #[.int .u8 0,.int .i64 0,.int .i64 0,.int .u64 0,.string ⟨#[]⟩,.int .u64 0,.string ⟨#[]⟩,.string ⟨#[]⟩,.int .i64 0,.string ⟨#[]⟩] 56);have hL1:=Bk.new (w2.alloc (.cells #[.string h,.bool false] 224)) 56 #[.int .u8 0,.int .i64 0,.int .i64 0,.int .u64 0,.string ⟨#[]⟩,.int .u64 0,.string ⟨#[]⟩,.string ⟨#[]⟩,.int .i64 0,.string ⟨#[]⟩];rw[World.size_alloc]at hL1;have hqn:w.heap.size<w2.heap.size:=hQ0.lt;have hwb:w.heap.size<=w2.heap.size:=hB0.size;clear hQ0 hB0 hK hk0;go_wp2_with fail;generalize((w2.alloc (.cells #[.string h,.bool false] 224)).alloc (.cells #[.int .u8 0,.int .i64 0,.int .i64 0,.int .u64 0,.string ⟨#[]⟩,.int .u64 0,.string ⟨#[]⟩,.string ⟨#[]⟩,.int .i64 0,.string ⟨#[]⟩] 56))=v0 at *;generalize w2.heap.size=rb at *;have hM1:(rb:Nat)+1≠w.heap.size:=by omega
  have HZ1:h.size<=maxLen:=by unfold maxLen;omega
  refine(one_any rb h false HZ1 v0 hR1).mono ?_;rw[E1.out];rintro e u1⟨rfl,hr1,hg1⟩;simp only at hr1;have hl1:=hL1.grown hg1 (by simp);have hq1:=hQ1.grown hg1 (by intro e;injection e with e;omega);have hb1:=dw hB1 hg1 hwb hB1.size;clear hR1 hL1 hQ1 hB1 hg1;have cS:u1.cell? ⟨rb+1,0,none⟩=some (.int .u8 0):=hl1.cell 0;have fS:=hl1.frozen 0;have HR1:=hid hr1;have HL1:=hid hl1;have HQ1:=hid hq1;clear hr1 hl1 hq1;go_wp2_with fail;have hR2:Ev.Rb (u1.setCell ⟨rb+1,0,none⟩ (.int .u8 x1)) rb (s1,f1):=Bk.far HR1.out (by simp) _;have hL2:Bk (u1.setCell ⟨rb+1,0,none⟩ (.int .u8 x1)) (rb+1) 56 #[.int .u8 x1,.int .i64 0,.int .i64 0,.int .u64 0,.string ⟨#[]⟩,.int .u64 0,.string ⟨#[]⟩,.string ⟨#[]⟩,.int .i64 0,.string ⟨#[]⟩]:=HL1.out.au 0 _;have hQ2:=HQ1.out.far (p:=⟨rb+1,0,none⟩) (Ne.symm hM1) (.int .u8 x1);have hB2:=hb1.setCell (p:=⟨rb+1,0,none⟩) (by show w.heap.size<=rb+1;omega) (.int .u8 x1);generalize u1.setCell ⟨rb+1,0,none⟩ (.int .u8 x1)=v1 at *;clear cS fS HR1 HL1 HQ1 hb1;have HZ2:s1.size<=maxLen:=by unfold maxLen;omega
  refine(one_any rb s1 f1 HZ2 v1 hR2).mono ?_;rw[E2.out];rintro e u2⟨rfl,hr2,hg2⟩;simp only at hr2;have hl2:=hL2.grown hg2 (by simp);have hq2:=hQ2.grown hg2 (by intro e;injection e with e;omega);have hb2:=dw hB2 hg2 hwb hB2.size;clear hR2 hL2 hQ2 hB2 hg2;have cS:u2.cell? ⟨rb+1,1,none⟩=some (.int .i64 0):=hl2.cell 1;have fS:=hl2.frozen 1;have HR2:=hid hr2;have HL2:=hid hl2;have HQ2:=hid hq2;clear hr2 hl2 hq2;go_wp2_with fail;have hR3:Ev.Rb (u2.setCell ⟨rb+1,1,none⟩ (.int .i64 x2)) rb (s2,f2):=Bk.far HR2.out (by simp) _;have hL3:Bk (u2.setCell ⟨rb+1,1,none⟩ (.int .i64 x2)) (rb+1) 56 #[.int .u8 x1,.int .i64 x2,.int .i64 0,.int .u64 0,.string ⟨#[]⟩,.int .u64 0,.string ⟨#[]⟩,.string ⟨#[]⟩,.int .i64 0,.string ⟨#[]⟩]:=HL2.out.au 1 _;have hQ3:=HQ2.out.far (p:=⟨rb+1,1,none⟩) (Ne.symm hM1) (.int .i64 x2);have hB3:=hb2.setCell (p:=⟨rb+1,1,none⟩) (by show w.heap.size<=rb+1;omega) (.int .i64 x2);generalize u2.setCell ⟨rb+1,1,none⟩ (.int .i64 x2)=v2 at *;clear cS fS HR2 HL2 HQ2 hb2;have HZ3:s2.size<=maxLen:=by unfold maxLen;omega
  refine(one_any rb s2 f2 HZ3 v2 hR3).mono ?_;rw[E3.out];rintro e u3⟨rfl,hr3,hg3⟩;simp only at hr3;have hl3:=hL3.grown hg3 (by simp);have hq3:=hQ3.grown hg3 (by intro e;injection e with e;omega);have hb3:=dw hB3 hg3 hwb hB3.size;clear hR3 hL3 hQ3 hB3 hg3;have cS:u3.cell? ⟨rb+1,2,none⟩=some (.int .i64 0):=hl3.cell 2;have fS:=hl3.frozen 2;have HR3:=hid hr3;have HL3:=hid hl3;have HQ3:=hid hq3;clear hr3 hl3 hq3;go_wp2_with fail;have hR4:Ev.Rb (u3.setCell ⟨rb+1,2,none⟩ (.int .i64 x3)) rb (s3,f3):=Bk.far HR3.out (by simp) _;have hL4:Bk (u3.setCell ⟨rb+1,2,none⟩ (.int .i64 x3)) (rb+1) 56 #[.int .u8 x1,.int .i64 x2,.int .i64 x3,.int .u64 0,.string ⟨#[]⟩,.int .u64 0,.string ⟨#[]⟩,.string ⟨#[]⟩,.int .i64 0,.string ⟨#[]⟩]:=HL3.out.au 2 _;have hQ4:=HQ3.out.far (p:=⟨rb+1,2,none⟩) (Ne.symm hM1) (.int .i64 x3);have hB4:=hb3.setCell (p:=⟨rb+1,2,none⟩) (by show w.heap.size<=rb+1;omega) (.int .i64 x3);generalize u3.setCell ⟨rb+1,2,none⟩ (.int .i64 x3)=v3 at *;clear cS fS HR3 HL3 HQ3 hb3;have HZ4:s3.size<=maxLen:=by unfold maxLen;omega
  refine(D6 rb s3 f3 HZ4 v3 hR4).mono ?_;rw[E4.out];rintro e u4⟨rfl,hr4,hg4⟩;simp only at hr4;have hl4:=hL4.grown hg4 (by simp);have hq4:=hQ4.grown hg4 (by intro e;injection e with e;omega);have hb4:=dw hB4 hg4 hwb hB4.size;clear hR4 hL4 hQ4 hB4 hg4;have cS:u4.cell? ⟨rb+1,3,none⟩=some (.int .u64 0):=hl4.cell 3;have fS:=hl4.frozen 3;have HR4:=hid hr4;have HL4:=hid hl4;have HQ4:=hid hq4;clear hr4 hl4 hq4;go_wp2_with fail;have hR5:Ev.Rb (u4.setCell ⟨rb+1,3,none⟩ (.int .u64 x4)) rb (s4,f4):=Bk.far HR4.out (by simp) _;have hL5:Bk (u4.setCell ⟨rb+1,3,none⟩ (.int .u64 x4)) (rb+1) 56 #[.int .u8 x1,.int .i64 x2,.int .i64 x3,.int .u64 x4,.string ⟨#[]⟩,.int .u64 0,.string ⟨#[]⟩,.string ⟨#[]⟩,.int .i64 0,.string ⟨#[]⟩]:=HL4.out.au 3 _;have hQ5:=HQ4.out.far (p:=⟨rb+1,3,none⟩) (Ne.symm hM1) (.int .u64 x4);have hB5:=hb4.setCell (p:=⟨rb+1,3,none⟩) (by show w.heap.size<=rb+1;omega) (.int .u64 x4);generalize u4.setCell ⟨rb+1,3,none⟩ (.int .u64 x4)=v4 at *;clear cS fS HR4 HL4 HQ4 hb4;have HZ5:s4.size<=maxLen:=by unfold maxLen;omega
  refine(Eh rb s4 f4 HZ5 v4 hR5).mono ?_;rw[E5.out];rintro e u5⟨rfl,hr5,hg5⟩;simp only at hr5;have hl5:=hL5.grown hg5 (by simp);have hq5:=hQ5.grown hg5 (by intro e;injection e with e;omega);have hb5:=dw hB5 hg5 hwb hB5.size;clear hR5 hL5 hQ5 hB5 hg5;have cS:u5.cell? ⟨rb+1,4,none⟩=some (.string ⟨#[]⟩):=hl5.cell 4;have fS:=hl5.frozen 4;have HR5:=hid hr5;have HL5:=hid hl5;have HQ5:=hid hq5;clear hr5 hl5 hq5;go_wp2_with fail;have hR6:Ev.Rb (u5.setCell ⟨rb+1,4,none⟩ (.string x5)) rb (s5,f5):=Bk.far HR5.out (by simp) _;have hL6:Bk (u5.setCell ⟨rb+1,4,none⟩ (.string x5)) (rb+1) 56 #[.int .u8 x1,.int .i64 x2,.int .i64 x3,.int .u64 x4,.string x5,.int .u64 0,.string ⟨#[]⟩,.string ⟨#[]⟩,.int .i64 0,.string ⟨#[]⟩]:=HL5.out.au 4 _;have hQ6:=HQ5.out.far (p:=⟨rb+1,4,none⟩) (Ne.symm hM1) (.string x5);have hB6:=hb5.setCell (p:=⟨rb+1,4,none⟩) (by show w.heap.size<=rb+1;omega) (.string x5);generalize u5.setCell ⟨rb+1,4,none⟩ (.string x5)=v5 at *;clear cS fS HR5 HL5 HQ5 hb5;have HZ6:s5.size<=maxLen:=by unfold maxLen;omega
  refine(take_any rb 8 s5 f5 HZ6 (by omega) v5 hR6).mono ?_;rw[E6.out];rintro e u6⟨rfl,hr6,hg6⟩;simp only at hr6;have hl6:=hL6.grown hg6 (by simp);have hq6:=hQ6.grown hg6 (by intro e;injection e with e;omega);have hb6:=dw hB6 hg6 hwb hB6.size;clear hR6 hL6 hQ6 hB6 hg6;have c6:=hr6.c1;have HR6:=hid hr6;have HL6:=hid hl6;have HQ6:=hid hq6;clear hr6 hl6 hq6;obtain⟨pr,HPR⟩:∃ pr:Nat,Hid (pr=if f6=true then 0 else Ev.qQ 0 x6.data.toList):=⟨_,hid rfl⟩;rw[<-HPR.out]at HPP;have hpr:pr<18446744073709551616:=by rw[HPR.out];split<;>first|omega|exact Ev.FD _ _ (by decide)
  by_cases hf6:f6=true
  case' neg =>
   replace hf6:f6=false:=by simpa using hf6
   have HBV:Hid (pr=Ev.qQ 0 x6.data.toList):=hid (by rw[HPR.out,hf6];rfl);have cS:u6.cell? ⟨rb+1,5,none⟩=some (.int .u64 0):=HL6.out.cell 5;have fS:=HL6.out.frozen 5;go_wp2_with fail;refine(P9 x6 (Y6.out hf6) _).mono ?_;rintro e u⟨rfl,q,rfl⟩;rw[<-HBV.out];go_wp2_with fail;have hR7:Ev.Rb ((u6.drewN q).setCell ⟨rb+1,5,none⟩ (.int .u64 pr)) rb (s6,f6):=Bk.far (w:=u6.drewN q) HR6.out (by simp) _;have hL7:Bk ((u6.drewN q).setCell ⟨rb+1,5,none⟩ (.int .u64 pr)) (rb+1) 56 #[.int .u8 x1,.int .i64 x2,.int .i64 x3,.int .u64 x4,.string x5,.int .u64 pr,.string ⟨#[]⟩,.string ⟨#[]⟩,.int .i64 0,.string ⟨#[]⟩]:=Bk.au (w:=u6.drewN q) HL6.out 5 _;have hQ7:=Bk.far (w:=u6.drewN q) HQ6.out (p:=⟨rb+1,5,none⟩) (Ne.symm hM1) (.int .u64 pr);have hB7:=(below_drewN hb6 q).setCell (p:=⟨rb+1,5,none⟩) (by show w.heap.size<=rb+1;omega) (.int .u64 pr);generalize((u6.drewN q).setCell ⟨rb+1,5,none⟩ (.int .u64 (pr:Int)))=v6 at *;clear cS fS c6 HBV hf6
  case' pos =>
   have HBV:Hid (pr=0):=hid (by rw[HPR.out,if_pos hf6]);go_wp2_with fail;have hR7:=HR6.out;have hL7:Bk u6 (rb+1) 56 #[.int .u8 x1,.int .i64 x2,.int .i64 x3,.int .u64 x4,.string x5,.int .u64 pr,.string ⟨#[]⟩,.string ⟨#[]⟩,.int .i64 0,.string ⟨#[]⟩]:=by rw[HBV.out];exact HL6.out
   have hQ7:=HQ6.out;have hB7:=hb6;obtain⟨v6,rfl⟩:∃ v6:World,v6=u6:=⟨_,rfl⟩;clear c6 HBV hf6
  all_goals
   clear HR6 HL6 HQ6 hb6 HPR Y6;have HZ7:s6.size<=maxLen:=by unfold maxLen;omega
   refine(Eh rb s6 f6 HZ7 v6 hR7).mono ?_;rw[E7.out];rintro e u7⟨rfl,hr7,hg7⟩;simp only at hr7;have hl7:=hL7.grown hg7 (by simp);have hq7:=hQ7.grown hg7 (by intro e;injection e with e;omega);have hb7:=dw hB7 hg7 hwb hB7.size;clear hR7 hL7 hQ7 hB7 hg7;have cS:u7.cell? ⟨rb+1,6,none⟩=some (.string ⟨#[]⟩):=hl7.cell 6;have fS:=hl7.frozen 6;have HR7:=hid hr7;have HL7:=hid hl7;have HQ7:=hid hq7;clear hr7 hl7 hq7;go_wp2_with fail;have hR8:Ev.Rb (u7.setCell ⟨rb+1,6,none⟩ (.string x7)) rb (s7,f7):=Bk.far HR7.out (by simp) _;have hL8:Bk (u7.setCell ⟨rb+1,6,none⟩ (.string x7)) (rb+1) 56 #[.int .u8 x1,.int .i64 x2,.int .i64 x3,.int .u64 x4,.string x5,.int .u64 pr,.string x7,.string ⟨#[]⟩,.int .i64 0,.string ⟨#[]⟩]:=HL7.out.au 6 _;have hQ8:=HQ7.out.far (p:=⟨rb+1,6,none⟩) (Ne.symm hM1) (.string x7);have hB8:=hb7.setCell (p:=⟨rb+1,6,none⟩) (by show w.heap.size<=rb+1;omega) (.string x7);generalize u7.setCell ⟨rb+1,6,none⟩ (.string x7)=v7 at *;clear cS fS HR7 HL7 HQ7 hb7;have HZ8:s7.size<=maxLen:=by unfold maxLen;omega
   refine(Eh rb s7 f7 HZ8 v7 hR8).mono ?_;rw[E8.out];rintro e u8⟨rfl,hr8,hg8⟩;simp only at hr8;have hl8:=hL8.grown hg8 (by simp);have hq8:=hQ8.grown hg8 (by intro e;injection e with e;omega);have hb8:=dw hB8 hg8 hwb hB8.size;clear hR8 hL8 hQ8 hB8 hg8;have cS:u8.cell? ⟨rb+1,7,none⟩=some (.string ⟨#[]⟩):=hl8.cell 7;have fS:=hl8.frozen 7;have HR8:=hid hr8;have HL8:=hid hl8;have HQ8:=hid hq8;clear hr8 hl8 hq8;go_wp2_with fail;have hR9:Ev.Rb (u8.setCell ⟨rb+1,7,none⟩ (.string x8)) rb (s8,f8):=Bk.far HR8.out (by simp) _;have hL9:Bk (u8.setCell ⟨rb+1,7,none⟩ (.string x8)) (rb+1) 56 #[.int .u8 x1,.int .i64 x2,.int .i64 x3,.int .u64 x4,.string x5,.int .u64 pr,.string x7,.string x8,.int .i64 0,.string ⟨#[]⟩]:=HL8.out.au 7 _;have hQ9:=HQ8.out.far (p:=⟨rb+1,7,none⟩) (Ne.symm hM1) (.string x8);have hB9:=hb8.setCell (p:=⟨rb+1,7,none⟩) (by show w.heap.size<=rb+1;omega) (.string x8);generalize u8.setCell ⟨rb+1,7,none⟩ (.string x8)=v8 at *;clear cS fS HR8 HL8 HQ8 hb8;have HZ9:s8.size<=maxLen:=by unfold maxLen;omega
   refine(D6 rb s8 f8 HZ9 v8 hR9).mono ?_;rw[E9.out];rintro e u9⟨rfl,hr9,hg9⟩;simp only at hr9;have hl9:=hL9.grown hg9 (by simp);have hq9:=hQ9.grown hg9 (by intro e;injection e with e;omega);have hb9:=dw hB9 hg9 hwb hB9.size;clear hR9 hL9 hQ9 hB9 hg9;have cS:u9.cell? ⟨rb+1,8,none⟩=some (.int .i64 0):=hl9.cell 8;have fS:=hl9.frozen 8;have HR9:=hid hr9;have HL9:=hid hl9;have HQ9:=hid hq9;clear hr9 hl9 hq9;go_wp2_with fail;have YJ:Ev.Rb (u9.setCell ⟨rb+1,8,none⟩ (.int .i64 (min (x9:Int) 1000))) rb (s9,f9):=Bk.far HR9.out (by simp) _;have YN:Bk (u9.setCell ⟨rb+1,8,none⟩ (.int .i64 (min (x9:Int) 1000))) (rb+1) 56 #[.int .u8 x1,.int .i64 x2,.int .i64 x3,.int .u64 x4,.string x5,.int .u64 pr,.string x7,.string x8,.int .i64 (min (x9:Int) 1000),.string ⟨#[]⟩]:=HL9.out.au 8 _;have YL:=HQ9.out.far (p:=⟨rb+1,8,none⟩) (Ne.symm hM1) (.int .i64 (min (x9:Int) 1000));have Vf:=hb9.setCell (p:=⟨rb+1,8,none⟩) (by show w.heap.size<=rb+1;omega) (.int .i64 (min (x9:Int) 1000));generalize u9.setCell ⟨rb+1,8,none⟩ (.int .i64 (min (x9:Int) 1000))=v9 at *;clear cS fS HR9 HL9 HQ9 hb9;have aag:s9.size<=maxLen:=by unfold maxLen;omega
   refine(Eh rb s9 f9 aag v9 YJ).mono ?_;rw[E10.out];rintro e u10⟨rfl,UO,Pv⟩;simp only at UO;have rC:=YN.grown Pv (by simp);have hq10:=YL.grown Pv (by intro e;injection e with e;omega);have F6:=dw Vf Pv hwb Vf.size;clear YJ YN YL Vf Pv;have cS:u10.cell? ⟨rb+1,9,none⟩=some (.string ⟨#[]⟩):=rC.cell 9;have fS:=rC.frozen 9;have c0:u10.cell? ⟨rb+1,0,none⟩=some (.int .u8 x1):=rC.cell 0;have c1:u10.cell? ⟨rb+1,1,none⟩=some (.int .i64 x2):=rC.cell 1;have c2:u10.cell? ⟨rb+1,2,none⟩=some (.int .i64 x3):=rC.cell 2;have c3:u10.cell? ⟨rb+1,3,none⟩=some (.int .u64 x4):=rC.cell 3;have c4:u10.cell? ⟨rb+1,4,none⟩=some (.string x5):=rC.cell 4;have c5:u10.cell? ⟨rb+1,5,none⟩=some (.int .u64 pr):=rC.cell 5;have c6:u10.cell? ⟨rb+1,6,none⟩=some (.string x7):=rC.cell 6;have c7:u10.cell? ⟨rb+1,7,none⟩=some (.string x8):=rC.cell 7;have c8:u10.cell? ⟨rb+1,8,none⟩=some (.int .i64 (min (x9:Int) 1000)):=rC.cell 8;have YW:=hid UO;have Za:=hid rC;have YX:=hid hq10;clear UO rC hq10;go_wp2_with fail;have YI:Ev.Rb (u10.setCell ⟨rb+1,9,none⟩ (.string x10)) rb (s10,f10):=Bk.far YW.out (by simp) _;have YM:Bk (u10.setCell ⟨rb+1,9,none⟩ (.string x10)) (rb+1) 56 #[.int .u8 x1,.int .i64 x2,.int .i64 x3,.int .u64 x4,.string x5,.int .u64 pr,.string x7,.string x8,.int .i64 (min (x9:Int) 1000),.string x10]:=Za.out.au 9 _;have YK:=YX.out.far (p:=⟨rb+1,9,none⟩) (Ne.symm hM1) (.string x10);have P6:=F6.setCell (p:=⟨rb+1,9,none⟩) (by show w.heap.size<=rb+1;omega) (.string x10);generalize u10.setCell ⟨rb+1,9,none⟩ (.string x10)=v10 at *;clear cS fS YW Za YX F6;have VZ:x7.size<=10000/\x8.size<=10000:=by omega
   have hok:Ev.Letter.ok ⟨x1,x2,x3,x4,x5,pr,x7,x8,min (x9:Int) 1000,x10⟩:=⟨z1.2,z4.1,hpr⟩;have HPK:=Jk ⟨x1,x2,x3,x4,x5,pr,x7,x8,min (x9:Int) 1000,x10⟩ hok VZ v10 (hk.any P6 hk.1);have HRD:=λP hP=>Ev.Ui (P:=P) (l:=⟨x1,x2,x3,x4,x5,pr,x7,x8,min (x9:Int) 1000,x10⟩) (f:=f10) HC.out (by rw[HP0.out];exact HPP.out) hP
   have HVL:Hid ((⟨x1,x2,x3,x4,x5,pr,x7,x8,min (x9:Int) 1000,x10⟩:Ev.Letter).val=.agg #[.int .u8 x1,.int .i64 x2,.int .i64 x3,.int .u64 x4,.string x5,.int .u64 pr,.string x7,.string x8,.int .i64 (min (x9:Int) 1000),.string x10]):=hid rfl;rw[HVL.out]at HPK;generalize hEP:Ev.pack ⟨x1,x2,x3,x4,x5,pr,x7,x8,min (x9:Int) 1000,x10⟩=P at *;obtain⟨P1,P2⟩:=P;have HRR:=hid (HRD _ rfl);simp only at HPK;have aaq:=hid HPK;clear HPK hEP HRD VZ hok hk;clear c0 c1 c2 c3 c4 c5 c6 c7 c8;have VB:=hid YI;have VL:=hid YM;have VD:=hid YK;clear YI YM YK;have hvs:=VB.out.lt;have hvq:=VD.out.lt;have hvl:=VL.out.lt;refine aaq.out.mono ?_;rintro e u11⟨rfl,JL⟩;have hR:=Bk.below VB.out JL hvs;have hL:=Bk.below VL.out JL hvl;have hQ:=Bk.below VD.out JL hvq;have hB:=P6.trans (JL.mono P6.size);have cR:u11.cell? ⟨rb,1,none⟩=some (.bool f10):=hR.cell 1;have c0:u11.cell? ⟨rb+1,0,none⟩=some (.int .u8 x1):=hL.cell 0;have c1:u11.cell? ⟨rb+1,1,none⟩=some (.int .i64 x2):=hL.cell 1;have c2:u11.cell? ⟨rb+1,2,none⟩=some (.int .i64 x3):=hL.cell 2;have c3:u11.cell? ⟨rb+1,3,none⟩=some (.int .u64 x4):=hL.cell 3;have c4:u11.cell? ⟨rb+1,4,none⟩=some (.string x5):=hL.cell 4;have c5:u11.cell? ⟨rb+1,5,none⟩=some (.int .u64 pr):=hL.cell 5;have c6:u11.cell? ⟨rb+1,6,none⟩=some (.string x7):=hL.cell 6;have c7:u11.cell? ⟨rb+1,7,none⟩=some (.string x8):=hL.cell 7;have c8:u11.cell? ⟨rb+1,8,none⟩=some (.int .i64 (min (x9:Int) 1000)):=hL.cell 8;have c9:u11.cell? ⟨rb+1,9,none⟩=some (.string x10):=hL.cell 9;have q0:u11.cell? ⟨w.heap.size,0,none⟩=some (.int .u8 0):=hQ.cell 0;have q1:u11.cell? ⟨w.heap.size,1,none⟩=some (.int .i64 0):=hQ.cell 1;have q2:u11.cell? ⟨w.heap.size,2,none⟩=some (.int .i64 0):=hQ.cell 2;have q3:u11.cell? ⟨w.heap.size,3,none⟩=some (.int .u64 0):=hQ.cell 3;have q4:u11.cell? ⟨w.heap.size,4,none⟩=some (.string ⟨#[]⟩):=hQ.cell 4;have q5:u11.cell? ⟨w.heap.size,5,none⟩=some (.int .u64 0):=hQ.cell 5;have q6:u11.cell? ⟨w.heap.size,6,none⟩=some (.string ⟨#[]⟩):=hQ.cell 6;have q7:u11.cell? ⟨w.heap.size,7,none⟩=some (.string ⟨#[]⟩):=hQ.cell 7;have q8:u11.cell? ⟨w.heap.size,8,none⟩=some (.int .i64 0):=hQ.cell 8;have q9:u11.cell? ⟨w.heap.size,9,none⟩=some (.string ⟨#[]⟩):=hQ.cell 9;have p0:u11.frozen? ⟨w.heap.size,0,none⟩=false:=hQ.frozen 0;have p1:u11.frozen? ⟨w.heap.size,1,none⟩=false:=hQ.frozen 1;have p2:u11.frozen? ⟨w.heap.size,2,none⟩=false:=hQ.frozen 2;have p3:u11.frozen? ⟨w.heap.size,3,none⟩=false:=hQ.frozen 3;have p4:u11.frozen? ⟨w.heap.size,4,none⟩=false:=hQ.frozen 4;have p5:u11.frozen? ⟨w.heap.size,5,none⟩=false:=hQ.frozen 5;have p6:u11.frozen? ⟨w.heap.size,6,none⟩=false:=hQ.frozen 6;have p7:u11.frozen? ⟨w.heap.size,7,none⟩=false:=hQ.frozen 7;have p8:u11.frozen? ⟨w.heap.size,8,none⟩=false:=hQ.frozen 8;have p9:u11.frozen? ⟨w.heap.size,9,none⟩=false:=hQ.frozen 9;clear hR hL hQ P6 JL VB VL VD;by_cases g1:f10=true
   ·have HF:Hid (Ev.jV b=(Ev.Letter.zero,162)):=hid (by rw[HRR.out,if_neg (by rintro⟨h1,_⟩;rw[g1]at h1;cases h1)])
    go_wp2_with fail;refine bodyPost_ret (v:=.tuple #[Ev.Letter.zero.val,.int .i64 162]) ?_ rfl ⟨by rw[HF.out];rfl,?_⟩
    ·rw[results_cell_tmp rfl]
     go_simp;try rfl
    ·exact((((((((((hB.setCell (p:=⟨w.heap.size,_,none⟩) (xB _) _).setCell (p:=⟨w.heap.size,_,none⟩) (xB _) _).setCell (p:=⟨w.heap.size,_,none⟩) (xB _) _).setCell (p:=⟨w.heap.size,_,none⟩) (xB _) _).setCell (p:=⟨w.heap.size,_,none⟩) (xB _) _).setCell (p:=⟨w.heap.size,_,none⟩) (xB _) _).setCell (p:=⟨w.heap.size,_,none⟩) (xB _) _).setCell (p:=⟨w.heap.size,_,none⟩) (xB _) _).setCell (p:=⟨w.heap.size,_,none⟩) (xB _) _).setCell (p:=⟨w.heap.size,_,none⟩) (xB _) _)
   ·replace g1:f10=false:=by simpa using g1
    by_cases g2:P2=0
    ·by_cases g3:P1=b
     ·have HF:Hid (Ev.jV b=(⟨x1,x2,x3,x4,x5,pr,x7,x8,min (x9:Int) 1000,x10⟩,0)):=hid (by rw[HRR.out,if_pos ⟨g1,g2,g3⟩])
      have t2:((P2:Int) != 0)=false:=by rw[g2];rfl
      have t3:(!P1.toList==b.toList)=false:=by rw[g3];simp
      clear g2 g3;go_wp2_with fail;refine bodyPost_ret (v:=.tuple #[(⟨x1,x2,x3,x4,x5,pr,x7,x8,min (x9:Int) 1000,x10⟩:Ev.Letter).val,.int .i64 0]) ?_ rfl ⟨by rw[HF.out];rfl,?_⟩
      ·rw[results_cell_tmp rfl]
       go_simp;try rfl
      ·exact((((((((((hB.setCell (p:=⟨w.heap.size,_,none⟩) (xB _) _).setCell (p:=⟨w.heap.size,_,none⟩) (xB _) _).setCell (p:=⟨w.heap.size,_,none⟩) (xB _) _).setCell (p:=⟨w.heap.size,_,none⟩) (xB _) _).setCell (p:=⟨w.heap.size,_,none⟩) (xB _) _).setCell (p:=⟨w.heap.size,_,none⟩) (xB _) _).setCell (p:=⟨w.heap.size,_,none⟩) (xB _) _).setCell (p:=⟨w.heap.size,_,none⟩) (xB _) _).setCell (p:=⟨w.heap.size,_,none⟩) (xB _) _).setCell (p:=⟨w.heap.size,_,none⟩) (xB _) _)
     ·have HF:Hid (Ev.jV b=(Ev.Letter.zero,162)):=hid (by rw[HRR.out,if_neg (λhh=>g3 hh.2.2)])
      have t2:((P2:Int) != 0)=false:=by rw[g2];rfl
      have t3:(!P1.toList==b.toList)=true:=by simpa using λe=>g3 (Tk.text_eq e)
      clear g2 g3;go_wp2_with fail;refine bodyPost_ret (v:=.tuple #[Ev.Letter.zero.val,.int .i64 162]) ?_ rfl ⟨by rw[HF.out];rfl,?_⟩
      ·rw[results_cell_tmp rfl]
       go_simp;try rfl
      ·exact((((((((((hB.setCell (p:=⟨w.heap.size,_,none⟩) (xB _) _).setCell (p:=⟨w.heap.size,_,none⟩) (xB _) _).setCell (p:=⟨w.heap.size,_,none⟩) (xB _) _).setCell (p:=⟨w.heap.size,_,none⟩) (xB _) _).setCell (p:=⟨w.heap.size,_,none⟩) (xB _) _).setCell (p:=⟨w.heap.size,_,none⟩) (xB _) _).setCell (p:=⟨w.heap.size,_,none⟩) (xB _) _).setCell (p:=⟨w.heap.size,_,none⟩) (xB _) _).setCell (p:=⟨w.heap.size,_,none⟩) (xB _) _).setCell (p:=⟨w.heap.size,_,none⟩) (xB _) _)
    ·have HF:Hid (Ev.jV b=(Ev.Letter.zero,162)):=hid (by rw[HRR.out,if_neg (λhh=>g2 hh.2.1)])
     have t2:((P2:Int) != 0)=true:=by rw[bne_iff_ne];omega
     clear g2;go_wp2_with fail;refine bodyPost_ret (v:=.tuple #[Ev.Letter.zero.val,.int .i64 162]) ?_ rfl ⟨by rw[HF.out];rfl,?_⟩
     ·rw[results_cell_tmp rfl]
      go_simp;try rfl
     ·exact((((((((((hB.setCell (p:=⟨w.heap.size,_,none⟩) (xB _) _).setCell (p:=⟨w.heap.size,_,none⟩) (xB _) _).setCell (p:=⟨w.heap.size,_,none⟩) (xB _) _).setCell (p:=⟨w.heap.size,_,none⟩) (xB _) _).setCell (p:=⟨w.heap.size,_,none⟩) (xB _) _).setCell (p:=⟨w.heap.size,_,none⟩) (xB _) _).setCell (p:=⟨w.heap.size,_,none⟩) (xB _) _).setCell (p:=⟨w.heap.size,_,none⟩) (xB _) _).setCell (p:=⟨w.heap.size,_,none⟩) (xB _) _).setCell (p:=⟨w.heap.size,_,none⟩) (xB _) _)
 ·have ht:=Ev.Zz hsum
  have HR:Hid (Ev.jV b=(Ev.Letter.zero,8)):=hid (Ev.Gm (HCN.out hsum));clear hsum;have q0:w2.cell? ⟨w.heap.size,0,none⟩=some (.int .u8 0):=hQ0.cell 0;have q1:w2.cell? ⟨w.heap.size,1,none⟩=some (.int .i64 0):=hQ0.cell 1;have q2:w2.cell? ⟨w.heap.size,2,none⟩=some (.int .i64 0):=hQ0.cell 2;have q3:w2.cell? ⟨w.heap.size,3,none⟩=some (.int .u64 0):=hQ0.cell 3;have q4:w2.cell? ⟨w.heap.size,4,none⟩=some (.string ⟨#[]⟩):=hQ0.cell 4;have q5:w2.cell? ⟨w.heap.size,5,none⟩=some (.int .u64 0):=hQ0.cell 5;have q6:w2.cell? ⟨w.heap.size,6,none⟩=some (.string ⟨#[]⟩):=hQ0.cell 6;have q7:w2.cell? ⟨w.heap.size,7,none⟩=some (.string ⟨#[]⟩):=hQ0.cell 7;have q8:w2.cell? ⟨w.heap.size,8,none⟩=some (.int .i64 0):=hQ0.cell 8;have q9:w2.cell? ⟨w.heap.size,9,none⟩=some (.string ⟨#[]⟩):=hQ0.cell 9;have p0:w2.frozen? ⟨w.heap.size,0,none⟩=false:=hQ0.frozen 0;have p1:w2.frozen? ⟨w.heap.size,1,none⟩=false:=hQ0.frozen 1;have p2:w2.frozen? ⟨w.heap.size,2,none⟩=false:=hQ0.frozen 2;have p3:w2.frozen? ⟨w.heap.size,3,none⟩=false:=hQ0.frozen 3;have p4:w2.frozen? ⟨w.heap.size,4,none⟩=false:=hQ0.frozen 4;have p5:w2.frozen? ⟨w.heap.size,5,none⟩=false:=hQ0.frozen 5;have p6:w2.frozen? ⟨w.heap.size,6,none⟩=false:=hQ0.frozen 6;have p7:w2.frozen? ⟨w.heap.size,7,none⟩=false:=hQ0.frozen 7;have p8:w2.frozen? ⟨w.heap.size,8,none⟩=false:=hQ0.frozen 8;have p9:w2.frozen? ⟨w.heap.size,9,none⟩=false:=hQ0.frozen 9;go_wp2_with fail;refine bodyPost_ret (v:=.tuple #[Ev.Letter.zero.val,.int .i64 8]) ?_ rfl ⟨by rw[HR.out];rfl,?_⟩
  ·rw[results_cell_tmp rfl]
   go_simp;try rfl
  ·exact((((((((((hB0.setCell (p:=⟨w.heap.size,_,none⟩) (xB _) _).setCell (p:=⟨w.heap.size,_,none⟩) (xB _) _).setCell (p:=⟨w.heap.size,_,none⟩) (xB _) _).setCell (p:=⟨w.heap.size,_,none⟩) (xB _) _).setCell (p:=⟨w.heap.size,_,none⟩) (xB _) _).setCell (p:=⟨w.heap.size,_,none⟩) (xB _) _).setCell (p:=⟨w.heap.size,_,none⟩) (xB _) _).setCell (p:=⟨w.heap.size,_,none⟩) (xB _) _).setCell (p:=⟨w.heap.size,_,none⟩) (xB _) _).setCell (p:=⟨w.heap.size,_,none⟩) (xB _) _)
theorem Uh(b:ByteArray)(hs:b.size<=10000)(w:World)(hk:Tk.KW w) :
  Calls Tryz.prog 67 #[.string b] w λe w'=>e=.returned (.tuple #[(Ev.jV b).1.val,.int .i64 (Ev.jV b).2])/\Below w.heap.size w w':=by
 by_cases h4:b.size<4
 ·exact read_short b h4 w
 ·exact Rj b (by omega) hs w hk
end
section
open Go.BigFrame Go.ChangeShapes Go.RowKit
theorem UG{cs:List Value}{a b c d:Value}(hl:cs.length=4)(h0:cs[0]?=some a)(h1:cs[1]?=some b)(h2:cs[2]?=some c)(h3:cs[3]?=some d):cs=[a,b,c,d]:=by
 match cs,hl with
 |[x,y,z,u],_=>simp at h0 h1 h2 h3;rw[h0,h1,h2,h3]
theorem S9{n:Int}(h:(Lit.int .i64 n).wf=true):-9223372036854775808<=n/\n<=9223372036854775807:=by
 simp[Lit.wf,IntKind.min,IntKind.max,IntKind.bits,IntKind.signed]at h;omega
section
variable {H : Type} {enc : TypeId × Value -> H} {w : World} {base : Nat} {spare : Nat -> Bool} {held : Bool}
theorem Rz{fuel:Nat}{v:Value}{x:DataW H × List MemPlace}(h:DataW.trod enc Tryz.prog w base spare held fuel 23 [v]=some x):∃ l:List Vl.Node,Vl.fP w none v l/\∀ n∈l,Cd.OkN n:=by
 obtain⟨l,hl⟩:=RD (λw cs (n:Vl.Node)=>Vl.oC w cs n/\Cd.OkN n) Tryz.underlying23 Tryz.underlying92 (by kernel_rfl) (by kernel_rfl) (by decide) h λcs hl hf=>by
  obtain⟨u0,k0,y0,e0,t0⟩:=hf 0 _ rfl;obtain⟨u1,k1,y1,e1,t1⟩:=hf 1 _ rfl;obtain⟨u2,k2,y2,e2,t2⟩:=hf 2 _ rfl;obtain⟨u3,k3,y3,e3,t3⟩:=hf 3 _ rfl;obtain⟨n0,hn0,z0⟩:=DataW.trod_int Tryz.underlying5 t0;obtain⟨n1,hn1,z1⟩:=DataW.trod_int Tryz.underlying2 t1;obtain⟨n2,hn2,z2⟩:=DataW.trod_string Tryz.underlying9 t2;obtain⟨n3,hn3,z3⟩:=DataW.trod_int Tryz.underlying3 t3;simp only[List.cons.injEq,and_true]at hn0 hn1 hn2 hn3;subst hn0 hn1 hn2 hn3;obtain⟨k,rfl⟩:=RS rfl z0.2;obtain⟨a1,a2⟩:=S9 z1.2;have z3:=z2.2;unfold maxLen at z3;exact⟨⟨k,n1,n2,n3⟩,UG hl e0 e1 e2 e3,⟨a1,a2,z3⟩⟩
 refine⟨l,ah.mono hl (λ_ _ h=>h) (λ_ _ h=>h.1),λn hn=>?_⟩;obtain⟨css,k1,k2,k3,k4⟩:=hl;obtain⟨i,hi,rfl⟩:=List.getElem_of_mem hn;exact(k4 i (by omega) hi).2
end
end
section
open Go.BigFrame Go.ChangeShapes Go.Deep Go.Joins Go.RowKit Go.WideShapes
theorem Id.bf.below{w w':World}{B:Option Nat}{v:Value}{l:List Id.Srt}(h:Id.bf w B v l)(hb:Below w.heap.size w w'):Id.bf w' B v l:=ah.below h hb (λ_ _ h=>h)
theorem Vl.jy(a:List Vl.Node):Vl.bD a a=true:=Vl.AZ.2 rfl
end
