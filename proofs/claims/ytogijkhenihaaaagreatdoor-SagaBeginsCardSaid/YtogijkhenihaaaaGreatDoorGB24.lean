import Derived.Test.YtogijkhenihaaaaGreatDoorGB23
import Derived.Defers
import Derived.Recover
import Derived.Laws.Pointers
set_option linter.all false
set_option maxRecDepth 100000
set_option maxHeartbeats 0
namespace Go.Proofs.YtogijkhenihaaaaGreatDoor
open Lib (hid)
open Go.BigFrame Go.RowKit
namespace Cd
open Id Chk Vl Ev
theorem Sts.cells{B g g7 dJ n c:Nat}{w:World}{x:Srt}{t:List Srt}(h:Sts B g w (.slice (some ⟨g7,dJ,none⟩) n c) (x::t)):w.cell? ⟨g7,dJ,none⟩=some (.int .u8 x.kind)/\w.cell? ⟨g7,dJ+1,none⟩=some (.string x.name):=by
 obtain⟨g',off',cs,e0,-,e1,hc⟩:=ah.get h.now (i:=0) (by simp) (by omega);injection e0 with e0
 injection e0 with e2 e3
 subst e2 e3;unfold Id.gU Id.Srt.cells at e1;simp only[List.getElem_cons_zero]at e1;subst e1;have a0:=hc 0 _ rfl;have a1:=hc 1 _ rfl;simp only[Nat.zero_mul,xK]at a0 a1;exact⟨a0,a1⟩
theorem Sts.tail{B g g7 dJ n c:Nat}{w:World}{x:Srt}{t:List Srt}(h:Sts B g w (.slice (some ⟨g7,dJ,none⟩) n c) (x::t)):Sts B g w (.slice (some ⟨g7,dJ+2,none⟩) (n - 1) (c - 1)) t:=λw' h2=>ah.tail (h w' h2)
structure At(q0 q1 q2 q3:Value)(bb:ByteArray)(w0:World)(g rb g7 dJ n c:Nat)(y:Srt)(t:List Srt)(w w1:World)(x:S)(vv:Value):Prop where
 rdr:Rdr q0 q1 q2 q3 bb w0 w1 g x vv
 only:bn w0.heap.size g w w1
 rb_:Bk w1 rb 116 #[.pointer (some ⟨g,0,none⟩)]
 ne:rb≠g
 typ:Sts w0.heap.size g w1 (.slice (some ⟨g7,dJ,none⟩) n c) (y::t)
section
variable {q0 q1 q2 q3 vv vv2 : Value} {bb : ByteArray} {w0 w w1 w2 : World} {g rb g7 dJ n c : Nat} {y : Srt} {t : List Srt} {x x2 : S}
theorem At.go(h:At q0 q1 q2 q3 bb w0 g rb g7 dJ n c y t w w1 x vv)(k:bn w0.heap.size g w1 w2)(hr:Rdr q0 q1 q2 q3 bb w0 w2 g x2 vv2):At q0 q1 q2 q3 bb w0 g rb g7 dJ n c y t w w2 x2 vv2:=⟨hr,h.only.trans k,k.bk h.rb_ h.ne (by decide),h.ne,h.typ.next k⟩
theorem At.below(h:At q0 q1 q2 q3 bb w0 g rb g7 dJ n c y t w w1 x vv)(k:Below w1.heap.size w1 w2):At q0 q1 q2 q3 bb w0 g rb g7 dJ n c y t w w2 x vv:=h.go (bn.below k) (h.rdr.below k)
theorem At.Eb(h:At q0 q1 q2 q3 bb w0 g rb g7 dJ n c y t w w1 x vv)(z:Nat)(hz:z<=4096):At q0 q1 q2 q3 bb w0 g rb g7 dJ n c y t w (w1.setCell ⟨g,7,none⟩ (.int .i64 (z:Nat))) ⟨x.at_,x.v,z⟩ vv:=h.go (bn.gb (oP (nG _ _) (.inl rfl) _)) (h.rdr.Eb z hz)
theorem At.at_(h:At q0 q1 q2 q3 bb w0 g rb g7 dJ n c y t w w1 x vv)(p:Nat)(hp:p<=bb.size):At q0 q1 q2 q3 bb w0 g rb g7 dJ n c y t w (w1.setCell ⟨g,5,none⟩ (.int .i64 (p:Nat))) ⟨p,x.v,x.sz⟩ vv:=h.go (bn.gb (oP (nG _ _) (.inl rfl) _)) (h.rdr.at_ p hp)
theorem At.num(h:At q0 q1 q2 q3 bb w0 g rb g7 dJ n c y t w w1 x vv)(hg:w1.grownBy w2 (some g))(hr:Rdr q0 q1 q2 q3 bb w0 w2 g x2 vv2):At q0 q1 q2 q3 bb w0 g rb g7 dJ n c y t w w2 x2 vv2:=h.go (bn.gb hg) hr
theorem At.put(h:At q0 q1 q2 q3 bb w0 g rb g7 dJ n c y t w w1 x vv)(k:Po q0 q1 q2 q3 bb w0 w1 g x2 w2):∃ v2,At q0 q1 q2 q3 bb w0 g rb g7 dJ n c y t w w2 x2 v2:=by
 obtain⟨k1,v2,k2⟩:=k;exact⟨v2,h.go k1 k2⟩
theorem At.fin(h:At q0 q1 q2 q3 bb w0 g rb g7 dJ n c y t w w1 x vv):Py q0 q1 q2 q3 bb w0 w g (.ok x) (.returned (.tuple #[])) w1:=⟨rfl,h.only,_,h.rdr⟩
end
end Cd
theorem JU(s:Id.Sch)(hF:Chk.Fine s)(hR:Chk.Right s)(q0 q1 q2 q3:Value)(bb:ByteArray)(hbb:bb.size<=1000000)(w0:World)(g k:Nat)(hk:k+1<=12)(hs:Id.ay w0 none (.agg #[q0,q1,q2,q3]) s)(ih:Cd.vX s q0 q1 q2 q3 bb w0 g k):Cd.vX s q0 q1 q2 q3 bb w0 g (k+1):=by
 intro tv t x vv w ht h12 hr hst;obtain⟨R,HR⟩:∃ R,Hid (Cd.aY s bb.data.toList (k+1) t x=R):=⟨_,hid rfl⟩;rw[HR.out];obtain⟨⟨xk,xn⟩,t,rfl⟩:∃ x l,t=x::l:=List.exists_cons_of_ne_nil (Vl.lJ ht);obtain⟨ar,har⟩:∃ ar:Nat,ar+k+1=12:=⟨11 - k,by omega⟩;have e12:(12 - ((k+1:Nat):Int))=(ar:Int):=by omega
 have e13:(12 - (k:Int))=(ar:Int)+1:=by omega
 rw[e12];have HNM:=hid (JX s hF hR q0 q1 q2 q3 bb hbb w0 g k ar har hs ih);unfold Cd.vX at ih;rw[e13]at ih;have HIH:=hid ih;have HTT:=hid ht;have HKN:=hid (Vl.pF ht);obtain⟨A,n,c,rfl⟩:=ah.is hst.now;have hn:n=t.length+1:=by obtain⟨_,_,e,_⟩:=ah.slice hst.now;injection e
 have hcn:n<=c:=by obtain⟨_,_,e,h,_⟩:=ah.slice hst.now;injection e with _ e2 e3;rw[e3,e2];exact h
 have hcm:c<=9223372036854775807:=by obtain⟨_,_,e,_,h,_⟩:=ah.slice hst.now;injection e with _ _ e3;omega
 have hnm:n<=12:=by rw[hn];simpa using h12
 obtain⟨g7,dJ,cs,rfl,-⟩:=ah.get hst.now (i:=0) (by simp) (by omega);have HLT:Hid (n=t.length+1):=hid hn;have hn1:0<n:=by omega
 have hn0:(0:Int)<(n:Int):=by omega
 obtain⟨p,v,z⟩:=x;obtain⟨A9,n9,c9,rfl⟩:=ah.is hr.row;have HN9:Hid (n9=v.length):=hid (by obtain⟨_,_,e,_⟩:=ah.slice hr.row;injection e);have hv9:n9<=4096:=by rw[HN9.out];exact hr.hv
 have hz9:z<=4096:=hr.hz;have HRD:=hid hr;have HST:=hid hst;have hmf:∀(fn:Fn)(first cap:Array Value)(w:World),(Instr.makeFunc fn first cap).run Tryz.prog w=.ok (.func fn first cap) w:=λ_ _ _ _=>rfl
 clear hr hst ht h12 ih e12 e13 hn cs hF hR hs;go_enter Tryz.func60,Tryz.ntmps60;go_upto_region 1 with(fail)
 refine aj (λV hV=>?_);obtain⟨hb,hq,hVs⟩:=au hV;clear hV;have HA:Hid (Cd.At q0 q1 q2 q3 bb w0 g w.heap.size g7 dJ n c ⟨xk,xn⟩ t w V ⟨p,v,z⟩ (.slice A9 n9 c9)):=hid ⟨HRD.out.below hb,Cd.bn.below hb,hq,(by have:=HRD.out.box.lt;omega),HST.out.next (Cd.bn.below hb)⟩;clear hb hq hVs HRD HST;(obtain⟨r0,-⟩:=HA.out.rb_.k1;obtain⟨⟨c0,c1,c2,c3,c4,c5,c6,c7⟩,f0,f1,f2,f3,f4,f5,f6,f7⟩:=Bk.k8 HA.out.rdr.box;obtain⟨t0,t1⟩:=HA.out.typ.cells)
 simp only at c5 c7 t0 t1;have ha1:¬(ar:Int)=12:=by omega
 have ha2:¬ar=12:=by omega
 by_cases h1:n9=4096
 case pos =>
  have HE:Hid (R=.error (p,3)):=hid (by rw[<-HR.out,Cd.aY,if_pos (.inl (by simp only;rw[<-HN9.out];omega))]);subst h1;obtain rfl:=HE.out;go_wp2_with fail;refine(jy p 3 _).mono ?_;rintro e w2⟨rfl,rfl⟩;(unfold Cd.pan;go_wp2_with fail;exact⟨rfl,rfl,HA.out.rdr.bel⟩)
 by_cases h2:z=4096
 case pos =>
  have HE:Hid (R=.error (p,3)):=hid (by rw[<-HR.out,Cd.aY,if_pos (.inr (by simp only;omega))]);subst h2;obtain rfl:=HE.out;have h3:¬(n9:Int)=4096:=by omega
  go_wp2_with fail;refine(jy p 3 _).mono ?_;rintro e w2⟨rfl,rfl⟩;(unfold Cd.pan;go_wp2_with fail;exact⟨rfl,rfl,HA.out.rdr.bel⟩)
 have h3:¬(n9:Int)=4096:=by omega
 have h4:¬(z:Int)=4096:=by omega
 have HNF:Hid (¬Cd.full ⟨p,v,z⟩):=hid (by unfold Cd.full;simp only;rw[<-HN9.out];omega);have HVL:Hid (v.length<4096):=hid (by rw[<-HN9.out];omega);have hwz:IntKind.i64.wrap ((z:Int)+1)=(z:Int)+1:=by rw[IntKind.wrap_i64];omega
 go_upto_region 9 with(fail)
 refine aj (λV2 hV2=>?_);obtain⟨z1,hz1⟩:∃ z1,z1=z+1:=⟨_,rfl⟩;have HA2:Hid (Cd.At q0 q1 q2 q3 bb w0 g w.heap.size g7 dJ n c ⟨xk,xn⟩ t w V2 ⟨p,v,z1⟩ (.slice A9 n9 c9)):=hid (by
  have h:=HA.out.Eb z1 (by omega);have e:((z1:Nat):Int)=(z:Int)+1:=by omega
  rw[e]at h;rw[hV2];exact h)
 have HRR:Hid ((if Cd.iy xk then Cd.uH bb.data.toList xk ⟨p,v,z1⟩else Cd.goD (Cd.aY s bb.data.toList k) (Cd.o7 s bb.data.toList ⟨xk,xn⟩ t ⟨p,v,z1⟩))=R):=hid (by rw[<-HR.out,Cd.aY,if_neg HNF.out,hz1];rfl);have RG:z1<=4096:=by omega
 (clear r0 c0 c1 c2 c3 c4 c5 c6 c7 f0 f1 f2 f3 f4 f5 f6 f7 t0 t1)
 clear hV2 HR HNF HA h1 h2 h3 h4 hwz hz9 hz1;have hz9:=RG;clear RG;(obtain⟨r0,-⟩:=HA2.out.rb_.k1;obtain⟨⟨c0,c1,c2,c3,c4,c5,c6,c7⟩,f0,f1,f2,f3,f4,f5,f6,f7⟩:=Bk.k8 HA2.out.rdr.box;obtain⟨t0,t1⟩:=HA2.out.typ.cells)
 simp only at c5 c7 t0 t1;by_cases k1:xk=1
 case pos =>
  subst k1;have HE:Hid (R=.ok ⟨p,v++[⟨1,0,Cd.E0,0⟩],z1⟩):=hid (by rw[<-HRR.out];rfl);obtain rfl:=HE.out;go_wp2_with fail;refine(pU q0 q1 q2 q3 bb w0 V2 g w.heap.size ⟨p,v,z1⟩ _ ⟨1,0,Cd.E0,0⟩ HA2.out.rdr HA2.out.rb_ HVL.out).mono ?_;rintro e w1⟨rfl,hp⟩;have HP:=hid hp;clear hp;(clear r0 c0 c1 c2 c3 c4 c5 c6 c7 f0 f1 f2 f3 f4 f5 f6 f7 t0 t1)
  go_wp2_with fail;refine bodyPost_end (results_none rfl _ _ _) rfl ?_;obtain⟨v2,ha⟩:=HA2.out.put HP.out;exact ha.fin
 by_cases k2:xk=2
 case pos =>
  subst k2;have HRB:Hid ((match Cd.bit bb.data.toList p with
   | .error e=>.error e
   | .ok q=>.ok ⟨q.2,v++[⟨2,q.1,Cd.E0,0⟩],z1⟩:Cd.Rs Cd.S)=R):=hid (by rw[<-HRR.out];rfl)
  go_wp2_with fail;refine(FW q0 q1 q2 q3 bb w0 V2 g ⟨p,v,z1⟩ _ hbb HA2.out.rdr).mono ?_;obtain⟨O,HO⟩:∃ O,Hid (Cd.bit bb.data.toList p=O):=⟨_,hid rfl⟩;try simp only
  rw[HO.out];rw[HO.out]at HRB;cases O with
  |error pe =>
   obtain rfl:=HRB.out;rintro e w1⟨rfl,hb1⟩;(unfold Cd.pan;go_wp2_with fail;exact⟨rfl,rfl,hb1⟩)
  |ok q =>
   obtain⟨m,q'⟩:=q;obtain rfl:=HRB.out;rintro e w1⟨rfl,hg1,hr1⟩;simp only at hr1 ⊢;have HA3:=hid (HA2.out.num hg1 hr1);(clear r0 c0 c1 c2 c3 c4 c5 c6 c7 f0 f1 f2 f3 f4 f5 f6 f7 t0 t1)
   clear hg1 hr1 HA2;go_wp2_with fail;refine(pU q0 q1 q2 q3 bb w0 w1 g w.heap.size ⟨q',v,z1⟩ _ ⟨2,m,Cd.E0,0⟩ HA3.out.rdr HA3.out.rb_ HVL.out).mono ?_;rintro e w2⟨rfl,hp⟩;have HP:=hid hp;clear hp;go_wp2_with fail;refine bodyPost_end (results_none rfl _ _ _) rfl ?_;obtain⟨v2,ha⟩:=HA3.out.put HP.out;exact ha.fin
 by_cases k3:xk=3
 case pos =>
  subst k3;have HRB:Hid ((match Cd.num bb.data.toList p with
   | .error e=>.error e
   | .ok q=>.ok ⟨q.2,v++[⟨3,Cd.un q.1,Cd.E0,0⟩],z1⟩:Cd.Rs Cd.S)=R):=hid (by rw[<-HRR.out];rfl)
  go_wp2_with fail;refine(qw q0 q1 q2 q3 bb w0 V2 g ⟨p,v,z1⟩ _ hbb HA2.out.rdr).mono ?_;obtain⟨O,HO⟩:∃ O,Hid (Cd.num bb.data.toList p=O):=⟨_,hid rfl⟩;try simp only
  rw[HO.out];rw[HO.out]at HRB;cases O with
  |error pe =>
   obtain rfl:=HRB.out;rintro e w1⟨rfl,hb1⟩;(unfold Cd.pan;go_wp2_with fail;exact⟨rfl,rfl,hb1⟩)
  |ok q =>
   obtain⟨m,q'⟩:=q;obtain rfl:=HRB.out;have TM:=(Cd.uQ HO.out).1;rintro e w1⟨rfl,hg1,hr1⟩;simp only at hr1 ⊢;have HA3:=hid (HA2.out.num hg1 hr1);(clear r0 c0 c1 c2 c3 c4 c5 c6 c7 f0 f1 f2 f3 f4 f5 f6 f7 t0 t1)
   clear hg1 hr1 HA2;go_wp2_with fail;refine(Nw m TM _).mono ?_;rintro e w2⟨rfl,rfl⟩;go_wp2_with fail;refine(pU q0 q1 q2 q3 bb w0 w2 g w.heap.size ⟨q',v,z1⟩ _ ⟨3,Cd.un m,Cd.E0,0⟩ HA3.out.rdr HA3.out.rb_ HVL.out).mono ?_;rintro e w3⟨rfl,hp⟩;have HP:=hid hp;clear hp;go_wp2_with fail;refine bodyPost_end (results_none rfl _ _ _) rfl ?_;obtain⟨v2,ha⟩:=HA3.out.put HP.out;exact ha.fin
 by_cases k4:xk=4
 case pos =>
  subst k4;have HRB:Hid ((match Cd.num bb.data.toList p with
   | .error e=>.error e
   | .ok q=>Cd.BO bb.data.toList ⟨p,v,z1⟩ q:Cd.Rs Cd.S)=R):=hid (by rw[<-HRR.out];rfl)
  go_wp2_with fail;refine(qw q0 q1 q2 q3 bb w0 V2 g ⟨p,v,z1⟩ _ hbb HA2.out.rdr).mono ?_;obtain⟨O,HO⟩:∃ O,Hid (Cd.num bb.data.toList p=O):=⟨_,hid rfl⟩;try simp only
  rw[HO.out];rw[HO.out]at HRB;cases O with
  |error pe =>
   obtain rfl:=HRB.out;rintro e w1⟨rfl,hb1⟩;(unfold Cd.pan;go_wp2_with fail;exact⟨rfl,rfl,hb1⟩)
  |ok q =>
   obtain⟨m,q'⟩:=q;have HRD:Hid ((if 4096<z1+m then .error (p,3)else if bb.size<q'+m then .error (bb.size,160)else .ok ⟨q'+m,v++[⟨4,0,Cd.uI bb.data.toList q' m,0⟩],z1+m⟩:Cd.Rs Cd.S)=R):=hid (by
    rw[<-HRB.out];simp only;unfold Cd.BO;rw[show bb.data.toList.length=bb.size by simp];rfl)
   rintro e w1⟨rfl,hg1,hr1⟩;simp only at hr1 ⊢;have HA3:=hid (HA2.out.num hg1 hr1);have hq':q'<=bb.size:=hr1.ha;(clear r0 c0 c1 c2 c3 c4 c5 c6 c7 f0 f1 f2 f3 f4 f5 f6 f7 t0 t1)
   clear hg1 hr1 HA2 HRB HRR;(obtain⟨r0,-⟩:=HA3.out.rb_.k1;obtain⟨⟨c0,c1,c2,c3,c4,c5,c6,c7⟩,f0,f1,f2,f3,f4,f5,f6,f7⟩:=Bk.k8 HA3.out.rdr.box;obtain⟨t0,t1⟩:=HA3.out.typ.cells)
   simp only at c5 c7 t0 t1;have hs1:IntKind.i64.wrap (4096 - (z1:Int))=4096 - (z1:Int):=by rw[IntKind.wrap_i64];omega
   have hs2:IntKind.u64.wrap (4096 - (z1:Int))=4096 - (z1:Int):=by rw[IntKind.wrap_u64];omega
   by_cases h1:4096<z1+m
   case pos =>
    have HE:Hid (R=.error (p,3)):=hid (by rw[<-HRD.out,if_pos h1]);obtain rfl:=HE.out;have h2:4096 - (z1:Int)<(m:Int):=by omega
    go_wp2_with fail;refine(jy p 3 _).mono ?_;rintro e w2⟨rfl,rfl⟩;(unfold Cd.pan;go_wp2_with fail;exact⟨rfl,rfl,HA3.out.rdr.bel⟩)
   have h2:¬4096 - (z1:Int)<(m:Int):=by omega
   have hs3:IntKind.i64.wrap ((bb.size:Int) - (q':Int))=(bb.size:Int) - (q':Int):=by rw[IntKind.wrap_i64];omega
   have hs4:IntKind.u64.wrap ((bb.size:Int) - (q':Int))=(bb.size:Int) - (q':Int):=by rw[IntKind.wrap_u64];omega
   go_wp2_with fail;by_cases h3:bb.size<q'+m
   case pos =>
    have HE:Hid (R=.error (bb.size,160)):=hid (by rw[<-HRD.out,if_neg h1,if_pos h3]);obtain rfl:=HE.out;have h4:(bb.size:Int) - (q':Int)<(m:Int):=by omega
    go_quiet (fail);go_wp2_with fail;refine(jy bb.size 160 _).mono ?_;rintro e w2⟨rfl,rfl⟩;(unfold Cd.pan;go_wp2_with fail;exact⟨rfl,rfl,below_drewN HA3.out.rdr.bel _⟩)
   have HE:Hid (R=.ok ⟨q'+m,v++[⟨4,0,Cd.uI bb.data.toList q' m,0⟩],z1+m⟩):=hid (by rw[<-HRD.out,if_neg h1,if_neg h3]);obtain rfl:=HE.out;have h4:¬(bb.size:Int) - (q':Int)<(m:Int):=by omega
   go_quiet (fail);go_upto_region 23 with(fail)
   have HA4:=hid (HA3.out.below (below_drewN (Below.refl _ _) nq));(clear r0 c0 c1 c2 c3 c4 c5 c6 c7 f0 f1 f2 f3 f4 f5 f6 f7 t0 t1)
   generalize w1.drewN nq=W at *;clear HA3;have hs5:IntKind.i64.wrap (m:Int)=(m:Int):=by rw[IntKind.wrap_i64];omega
   have hs6:IntKind.i64.wrap ((q':Int)+(m:Int))=(q':Int)+(m:Int):=by rw[IntKind.wrap_i64];omega
   have hs7:IntKind.i64.wrap ((z1:Int)+(m:Int))=(z1:Int)+(m:Int):=by rw[IntKind.wrap_i64];omega
   have i0:(0:Int)<=(q':Int):=by omega
   have i1:(q':Int)<=(q':Int)+(m:Int):=by omega
   have i2:(q':Int)+(m:Int)<=(bb.size:Int):=by omega
   have i3:((q':Int)+(m:Int)).toNat=q'+m:=by omega
   have d0:∀ w',Bl W w'->w'.cell? ⟨w.heap.size,0,none⟩=some (.pointer (some ⟨g,0,none⟩)):=λw' hb=>(Bk.k1 (HA4.out.below hb).rb_).1
   have d4:∀ w',Bl W w'->w'.cell? ⟨g,4,none⟩=some (.string bb):=λw' hb=>(Bk.k8 (HA4.out.below hb).rdr.box).1.2.2.2.2.1
   have d5:∀ w',Bl W w'->w'.cell? ⟨g,5,none⟩=some (.int .i64 (q':Nat)):=λw' hb=>(Bk.k8 (HA4.out.below hb).rdr.box).1.2.2.2.2.2.1
   refine Lst.dh W (Bl.refl W) (by simp only[yA,xZ];rfl) (by kernel_rfl) (by kernel_rfl) (by kernel_rfl) rfl ?_;simp only[yC,yB];repeat(first|go_big_quiet_step(fail)|(refine wpQuiet_step (λK hK=>?_);rw[if_pos (by rfl)];refine Lst.aF _ _ rfl _ rfl _ (by assumption) _ Tryz.underlying116 rfl ?_;go_simp;refine hK _ ?_;clear hK K)|(refine wpQuiet_step (λK hK=>?_);rw[if_pos (by rfl)];refine Lst.aF _ _ rfl _ rfl _ (by assumption) _ Tryz.underlying9 rfl ?_;go_simp;refine hK _ ?_;clear hK K)|(refine wpQuiet_step (λK hK=>?_);rw[if_pos (by rfl)];refine Lst.aF _ _ rfl _ rfl _ (by assumption) _ Tryz.underlying3 rfl ?_;go_simp;refine hK _ ?_;clear hK K)|(refine wpQuiet_step (λK hK=>?_);go_simp;refine⟨_,λ_ _=>rfl,hK _ ?_⟩;clear hK K))
   refine wpQuiet_nil ?_;intro X1 hX1 K hK;have HA5:=hid (HA4.out.below hX1);clear d0 d4 d5 hX1 HA4;go_simp;have hcut:bb.extract q' (q'+m)=Cd.uI bb.data.toList q' m:=by
    unfold Cd.uI;apply ByteArray.ext;apply Array.ext';simp[List.take_drop]
   rw[hcut];refine(pU q0 q1 q2 q3 bb w0 X1 g w.heap.size ⟨q',v,z1⟩ _ ⟨4,0,Cd.uI bb.data.toList q' m,0⟩ HA5.out.rdr HA5.out.rb_ HVL.out).mono ?_;rintro e X2⟨rfl,hp⟩;refine hK _ _ ?_;obtain⟨v2,ha⟩:=HA5.out.put hp;have HA6:=hid ha;clear hp ha hK K HA5 hcut;(obtain⟨r0,-⟩:=HA6.out.rb_.k1;obtain⟨⟨c0,c1,c2,c3,c4,c5,c6,c7⟩,f0,f1,f2,f3,f4,f5,f6,f7⟩:=Bk.k8 HA6.out.rdr.box;obtain⟨t0,t1⟩:=HA6.out.typ.cells)
   simp only at c5 c7 t0 t1;go_wp2_with fail;have h5:q'+m<=bb.size:=by omega
   have h6:z1+m<=4096:=by omega
   have hfin:=(HA6.out.at_ (q'+m) h5).Eb (z1+m) h6;rw[Int.natCast_add,Int.natCast_add]at hfin;refine bodyPost_end (results_none rfl _ _ _) rfl ?_;exact hfin.fin
 have HNL:Hid (¬Cd.iy xk):=hid (by unfold Cd.iy;omega);by_cases k5:xk=5
 case pos =>
  subst k5;have hot:Chk.okT s t=true:=Vl.vG HTT.out (by simp);have hpos:=List.length_pos_iff.2 (Vl.lJ hot);have HOT:=hid hot;have HTL:Hid (t.length<=12):=hid (by have:=HLT.out;omega);have hn2:2<=n:=by have:=HLT.out;omega
  have i1:(1:Int)<=(n:Int):=by omega
  have i2:(1:Int)<=(c:Int):=by omega
  have i3:(n:Int)<=(c:Int):=by omega
  have i4:((n:Int) - 1).toNat=n - 1:=by omega
  have i5:((c:Int) - 1).toNat=c - 1:=by omega
  have i6:¬c=1:=by omega
  have i7:¬n=1:=by omega
  clear hot hpos;go_wp2_with fail;refine(qw q0 q1 q2 q3 bb w0 V2 g ⟨p,v,z1⟩ _ hbb HA2.out.rdr).mono ?_;obtain⟨O,HO⟩:∃ O,Hid (Cd.num bb.data.toList p=O):=⟨_,hid rfl⟩;try simp only
  rw[HO.out];cases O with
  |error pe =>
   have HE:Hid (R=.error pe):=hid (by rw[<-HRR.out,if_neg HNL.out];unfold Cd.o7;rw[if_pos rfl];simp only;rw[HO.out];rfl);obtain rfl:=HE.out;rintro e w1⟨rfl,hb1⟩;(unfold Cd.pan;go_wp2_with fail;exact⟨rfl,rfl,hb1⟩)
  |ok q =>
   obtain⟨m,q'⟩:=q;have HRD:Hid ((if 4096<m then .error (p,3)else Cd.eP (Cd.aY s bb.data.toList k) (List.replicate m t) ⟨q',v++[⟨5,0,Cd.E0,m⟩],z1⟩:Cd.Rs Cd.S)=R):=hid (by
    rw[<-HRR.out,if_neg HNL.out];unfold Cd.o7;rw[if_pos rfl];simp only;rw[HO.out];simp only;split<;>rfl)
   rintro e w1⟨rfl,hg1,hr1⟩;simp only at hr1 ⊢;have HA3:=hid (HA2.out.num hg1 hr1);(clear r0 c0 c1 c2 c3 c4 c5 c6 c7 f0 f1 f2 f3 f4 f5 f6 f7 t0 t1)
   clear hg1 hr1 HA2 HRR;by_cases h1:4096<m
   case pos =>
    have HE:Hid (R=.error (p,3)):=hid (by rw[<-HRD.out,if_pos h1]);obtain rfl:=HE.out;have h2:(4096:Int)<(m:Int):=by omega
    go_wp2_with fail;refine(jy p 3 _).mono ?_;rintro e w2⟨rfl,rfl⟩;(unfold Cd.pan;go_wp2_with fail;exact⟨rfl,rfl,HA3.out.rdr.bel⟩)
   have h2:¬(4096:Int)<(m:Int):=by omega
   have HRM:Hid (Cd.eP (Cd.aY s bb.data.toList k) (List.replicate m t) ⟨q',v++[⟨5,0,Cd.E0,m⟩],z1⟩=R):=hid (by rw[<-HRD.out,if_neg h1]);have hs5:IntKind.i64.wrap (m:Int)=(m:Int):=by rw[IntKind.wrap_i64];omega
   have hwa:IntKind.i64.wrap ((ar:Int)+1)=(ar:Int)+1:=by rw[IntKind.wrap_i64];omega
   go_wp2_with fail;refine(pU q0 q1 q2 q3 bb w0 w1 g w.heap.size ⟨q',v,z1⟩ _ ⟨5,0,Cd.E0,m⟩ HA3.out.rdr HA3.out.rb_ HVL.out).mono ?_;rintro e w2⟨rfl,hp⟩;obtain⟨v2,ha⟩:=HA3.out.put hp;have HA4:=hid ha;clear hp ha HA3 HRD HO;go_wp2_with fail;go_loopw [158] (λu wr=>∃(j:Nat)(y:Cd.S)(v3:Value),j<=m/\u=.int .u64 j/\Hid (Cd.eP (Cd.aY s bb.data.toList k) (List.replicate (m - j) t) y=R)/\Hid (Cd.At q0 q1 q2 q3 bb w0 g w.heap.size g7 dJ n c ⟨5,xn⟩ t w wr y v3)) (λu _=>m - (intOf u).toNat)
   case atStart=>exact⟨0,_,_,by omega,rfl,HRM,HA4⟩
   case round =>
    obtain⟨j,y,v3,hj,rfl,HRJ,HAJ⟩:=hrel;obtain⟨W,rfl⟩:∃ w',w'=wr:=⟨_,rfl⟩;clear HA4;by_cases hlt:j<m
    case neg =>
     have HE:Hid (R=.ok y):=hid (by rw[<-HRJ.out,show m - j=0 by omega];rfl);obtain rfl:=HE.out;have h3:¬(j:Int)<(m:Int):=by omega
     go_wp2_with fail;refine bodyPost_end (results_none rfl _ _ _) rfl ?_;exact HAJ.out.fin
    have h3:(j:Int)<(m:Int):=by omega
    have HRK:Hid (Cd.eP (Cd.aY s bb.data.toList k) (t::List.replicate (m - (j+1)) t) y=R):=hid (by rw[<-HRJ.out,show m - j=(m - (j+1))+1 by omega];rfl);have d0:∀ w',Bl W w'->w'.cell? ⟨w.heap.size,0,none⟩=some (.pointer (some ⟨g,0,none⟩)):=λw' hb=>(Bk.k1 (HAJ.out.below hb).rb_).1
    go_upto_region 33 with(fail)
    refine Lst.dh W (Bl.refl W) (by simp only[yA,xZ];rfl) (by kernel_rfl) (by kernel_rfl) (by kernel_rfl) rfl ?_;simp only[yC,yB];repeat(first|go_big_quiet_step(fail)|(refine wpQuiet_step (λK hK=>?_);rw[if_pos (by rfl)];refine Lst.aF _ _ rfl _ rfl _ (by assumption) _ Tryz.underlying116 rfl ?_;go_simp;refine hK _ ?_;clear hK K)|(refine wpQuiet_step (λK hK=>?_);go_simp;refine⟨_,λ_ _=>rfl,hK _ ?_⟩;clear hK K))
    refine wpQuiet_nil ?_;intro X1 hX1 K hK;have HA5:=hid (HAJ.out.below hX1);clear d0 hX1 HAJ;go_simp;refine(HIH.out _ t y v3 X1 HOT.out HTL.out HA5.out.rdr HA5.out.typ.tail).mono ?_;obtain⟨D,HD⟩:∃ D,Hid (Cd.aY s bb.data.toList k t y=D):=⟨_,hid rfl⟩;rw[HD.out];cases D with
    |error pe =>
     have HE:Hid (R=.error pe):=hid (by rw[<-HRK.out];exact Cd.kP HD.out);obtain rfl:=HE.out;rintro e w7⟨rfl,hb7⟩;clear hK;(unfold Cd.pan;go_wp2_with fail;exact⟨rfl,rfl,hb7⟩)
    |ok y2 =>
     have HE:Hid (Cd.eP (Cd.aY s bb.data.toList k) (List.replicate (m - (j+1)) t) y2=R):=hid (by rw[<-HRK.out,Cd.mJ HD.out]);rintro e w7⟨rfl,hp7⟩;obtain⟨v4,ha⟩:=HA5.out.put hp7;have HA6:=hid ha;clear hp7 ha HA5;refine hK _ _ ?_;clear hK K;go_wp2_with fail;go_roundw
     case rel=>exact⟨j+1,y2,v4,by omega,by go_num,HE,HA6⟩
     case measure=>simp[intOf];omega
 by_cases k6:xk=6
 case pos =>
  subst k6;have hot:Chk.okT s t=true:=Vl.vG HTT.out (by simp);have hpos:=List.length_pos_iff.2 (Vl.lJ hot);have HOT:=hid hot;have HTL:Hid (t.length<=12):=hid (by have:=HLT.out;omega);have hn2:2<=n:=by have:=HLT.out;omega
  have i1:(1:Int)<=(n:Int):=by omega
  have i2:(1:Int)<=(c:Int):=by omega
  have i3:(n:Int)<=(c:Int):=by omega
  have i4:((n:Int) - 1).toNat=n - 1:=by omega
  have i5:((c:Int) - 1).toNat=c - 1:=by omega
  have i6:¬c=1:=by omega
  have i7:¬n=1:=by omega
  clear hot hpos;go_wp2_with fail;refine(FW q0 q1 q2 q3 bb w0 V2 g ⟨p,v,z1⟩ _ hbb HA2.out.rdr).mono ?_;obtain⟨O,HO⟩:∃ O,Hid (Cd.bit bb.data.toList p=O):=⟨_,hid rfl⟩;try simp only
  rw[HO.out];cases O with
  |error pe =>
   have HE:Hid (R=.error pe):=hid (by rw[<-HRR.out,if_neg HNL.out];unfold Cd.o7;rw[if_neg (show ¬(6:Nat)=5 by decide),if_pos rfl];simp only;rw[HO.out];rfl);obtain rfl:=HE.out;rintro e w1⟨rfl,hb1⟩;(unfold Cd.pan;go_wp2_with fail;exact⟨rfl,rfl,hb1⟩)
  |ok q =>
   obtain⟨m,q'⟩:=q;have hm1:m<=1:=(Cd.RZ HO.out).1;have HRM:Hid (Cd.eP (Cd.aY s bb.data.toList k) (List.replicate m t) ⟨q',v++[⟨6,0,Cd.E0,m⟩],z1⟩=R):=hid (by
    rw[<-HRR.out,if_neg HNL.out];unfold Cd.o7;rw[if_neg (show ¬(6:Nat)=5 by decide),if_pos rfl];simp only;rw[HO.out];rfl)
   rintro e w1⟨rfl,hg1,hr1⟩;simp only at hr1 ⊢;have HA3:=hid (HA2.out.num hg1 hr1);(clear r0 c0 c1 c2 c3 c4 c5 c6 c7 f0 f1 f2 f3 f4 f5 f6 f7 t0 t1)
   clear hg1 hr1 HA2 HRR HO;have hwa:IntKind.i64.wrap ((ar:Int)+1)=(ar:Int)+1:=by rw[IntKind.wrap_i64];omega
   go_wp2_with fail;refine(pU q0 q1 q2 q3 bb w0 w1 g w.heap.size ⟨q',v,z1⟩ _ ⟨6,0,Cd.E0,m⟩ HA3.out.rdr HA3.out.rb_ HVL.out).mono ?_;rintro e W⟨rfl,hp⟩;obtain⟨v3,ha⟩:=HA3.out.put hp;have HAJ:=hid ha;clear hp ha HA3;by_cases hm:m=1
   case neg =>
    obtain rfl:m=0:=by omega
    have HE:Hid (R=.ok ⟨q',v++[⟨6,0,Cd.E0,(0:Nat)⟩],z1⟩):=hid (by rw[<-HRM.out];rfl);obtain rfl:=HE.out;go_wp2_with fail;refine bodyPost_end (results_none rfl _ _ _) rfl ?_;exact HAJ.out.fin
   subst hm;have HRK:Hid (Cd.eP (Cd.aY s bb.data.toList k) [t] ⟨q',v++[⟨6,0,Cd.E0,(1:Nat)⟩],z1⟩=R):=hid HRM.out;have d0:∀ w',Bl W w'->w'.cell? ⟨w.heap.size,0,none⟩=some (.pointer (some ⟨g,0,none⟩)):=λw' hb=>(Bk.k1 (HAJ.out.below hb).rb_).1
   go_upto_region 39 with(fail)
   refine Lst.dh W (Bl.refl W) (by simp only[yA,xZ];rfl) (by kernel_rfl) (by kernel_rfl) (by kernel_rfl) rfl ?_;simp only[yC,yB];repeat(first|go_big_quiet_step(fail)|(refine wpQuiet_step (λK hK=>?_);rw[if_pos (by rfl)];refine Lst.aF _ _ rfl _ rfl _ (by assumption) _ Tryz.underlying116 rfl ?_;go_simp;refine hK _ ?_;clear hK K)|(refine wpQuiet_step (λK hK=>?_);go_simp;refine⟨_,λ_ _=>rfl,hK _ ?_⟩;clear hK K))
   refine wpQuiet_nil ?_;intro X1 hX1 K hK;have HA5:=hid (HAJ.out.below hX1);clear d0 hX1 HAJ;go_simp;refine(HIH.out _ t _ v3 X1 HOT.out HTL.out HA5.out.rdr HA5.out.typ.tail).mono ?_;obtain⟨D,HD⟩:∃ D,Hid (Cd.aY s bb.data.toList k t ⟨q',v++[⟨6,0,Cd.E0,(1:Nat)⟩],z1⟩=D):=⟨_,hid rfl⟩;rw[HD.out];cases D with
   |error pe =>
    have HE:Hid (R=.error pe):=hid (by rw[<-HRK.out];exact Cd.kP HD.out);obtain rfl:=HE.out;rintro e w7⟨rfl,hb7⟩;clear hK;(unfold Cd.pan;go_wp2_with fail;exact⟨rfl,rfl,hb7⟩)
   |ok y2 =>
    have HE:Hid (R=.ok y2):=hid (by rw[<-HRK.out,Cd.mJ HD.out];rfl);obtain rfl:=HE.out;rintro e w7⟨rfl,hp7⟩;obtain⟨v4,ha⟩:=HA5.out.put hp7;have HA6:=hid ha;clear hp7 ha HA5;refine hK _ _ ?_;clear hK K;go_wp2_with fail;refine bodyPost_end (results_none rfl _ _ _) rfl ?_;exact HA6.out.fin
 have hk7:xk=7/\t=[]/\(Chk.find s xn).isSome=true:=by
  rcases HKN.out with h|h|h|h
  ·exact absurd (show Cd.iy xk from h) HNL.out
  ·exact absurd h k5
  ·exact absurd h k6
  ·exact h
 obtain⟨rfl,rfl,hfs⟩:=hk7;have HRN:Hid (Cd.goD (Cd.aY s bb.data.toList k) (Cd.BP ((Chk.find s xn).getD Chk.qL) bb.data.toList ⟨p,v,z1⟩)=R):=hid (by
  rw[<-HRR.out,if_neg HNL.out];unfold Cd.o7;rw[if_neg (show ¬(7:Nat)=5 by decide),if_neg (show ¬(7:Nat)=6 by decide)];rfl)
 have hnm:=HNM.out xn hfs ⟨p,v,z1⟩ (.slice A9 n9 c9);rw[HRN.out]at hnm;have HNN:=hid hnm;have d0:∀ w',Bl V2 w'->w'.cell? ⟨w.heap.size,0,none⟩=some (.pointer (some ⟨g,0,none⟩)):=λw' hb=>(Bk.k1 (HA2.out.below hb).rb_).1
 have d1:∀ w',Bl V2 w'->w'.cell? ⟨g7,dJ+1,none⟩=some (.string xn):=λw' hb=>(HA2.out.below hb).typ.cells.2
 clear HNM HRR HRN hnm hfs k1 k2 k3 k4 k5 k6 HKN HTT;go_upto_region 10 with(fail)
 (clear r0 c0 c1 c2 c3 c4 c5 c6 c7 f0 f1 f2 f3 f4 f5 f6 f7 t0 t1)
 refine Lst.dh V2 (Bl.refl V2) (by simp only[yA,xZ];rfl) (by kernel_rfl) (by kernel_rfl) (by kernel_rfl) rfl ?_;simp only[yC,yB];repeat(first|go_big_quiet_step(fail)|(refine wpQuiet_step (λK hK=>?_);rw[if_pos (by rfl)];refine Lst.aF _ _ rfl _ rfl _ (by assumption) _ Tryz.underlying116 rfl ?_;go_simp;refine hK _ ?_;clear hK K)|(refine wpQuiet_step (λK hK=>?_);rw[if_pos (by rfl)];refine Lst.aF _ _ rfl _ rfl _ (by assumption) _ Tryz.underlying9 rfl ?_;go_simp;refine hK _ ?_;clear hK K)|(refine wpQuiet_step (λK hK=>?_);go_simp;refine⟨_,λ_ _=>rfl,hK _ ?_⟩;clear hK K))
 refine wpQuiet_nil ?_;intro X1 hX1 K hK;have HA5:=hid (HA2.out.below hX1);clear d0 d1 hX1 HA2;go_simp;refine(HNN.out X1 HVL.out HA5.out.rdr).mono ?_;cases R with
 |error pe =>
  rintro e w7⟨rfl,hb7⟩;clear hK;(unfold Cd.pan;go_wp2_with fail;exact⟨rfl,rfl,hb7⟩)
 |ok y2 =>
  rintro e w7⟨rfl,hp7⟩;obtain⟨v4,ha⟩:=HA5.out.put hp7;have HA6:=hid ha;clear hp7 ha HA5;refine hK _ _ ?_;clear hK K;go_wp2_with fail;refine bodyPost_end (results_none rfl _ _ _) rfl ?_;exact HA6.out.fin
theorem JR(s:Id.Sch)(q0 q1 q2 q3:Value)(bb:ByteArray)(w0:World)(g:Nat):Cd.vX s q0 q1 q2 q3 bb w0 g 0:=by
 intro tv t x vv w ht h12 hr hst;obtain⟨p,v,z⟩:=x;have HRD:=hid hr;have e0:(12 - ((0:Nat):Int))=12:=by omega
 rw[e0];have HE:Cd.aY s bb.data.toList 0 t ⟨p,v,z⟩=.error (p,151):=rfl;rw[HE];obtain⟨A,n,c,rfl⟩:=ah.is hst.now;clear hr hst ht h12 HE e0;go_enter Tryz.func60,Tryz.ntmps60;go_upto_region 1 with(fail)
 refine aj (λV hV=>?_);obtain⟨hb,hq,hVs⟩:=au hV;clear hV;have HR2:=hid (HRD.out.below hb);obtain⟨r0,-⟩:=hq.k1;obtain⟨⟨c0,c1,c2,c3,c4,c5,c6,c7⟩,-⟩:=Bk.k8 HR2.out.box;simp only at c5 c7;clear hb hq hVs HRD;go_wp2_with fail;refine(jy p 151 _).mono ?_;rintro e w2⟨rfl,rfl⟩;(unfold Cd.pan;go_wp2_with fail;exact⟨rfl,rfl,HR2.out.bel⟩)
theorem Ba(s:Id.Sch)(hF:Chk.Fine s)(hR:Chk.Right s)(q0 q1 q2 q3:Value)(bb:ByteArray)(hbb:bb.size<=1000000)(w0:World)(g:Nat)(hs:Id.ay w0 none (.agg #[q0,q1,q2,q3]) s):∀ k,k<=12->Cd.vX s q0 q1 q2 q3 bb w0 g k
 |0,_=>JR s q0 q1 q2 q3 bb w0 g
 |k+1,h=>JU s hF hR q0 q1 q2 q3 bb hbb w0 g k h hs (Ba s hF hR q0 q1 q2 q3 bb hbb w0 g hs k (by omega))
namespace Cd
open Id Chk Vl Ev
noncomputable def decP(s:Sch)(t:List Srt)(b:List UInt8):List Vl.Node × Nat × Nat:=if oK s t≠0 then([],0,oK s t)else match aY s b 12 t ⟨0,[],0⟩with
 | .error p=>([],p.1,p.2)
 | .ok y=>if y.at_<b.length then([],y.at_,162)else(y.v,0,0)
end Cd
theorem yg{fn:Func}{p q r:Tmp}{tp tq tr:TypeId}(h:fn.results=#[.cell p tp,.cell q tq,.cell r tr])(tmps:Array Value)(P:Program)(w:World) :
  (results fn tmps).run P w=((asAddr (tmps.getD p undef)).run P w).andThen λa w₁=>((loadVar tp a).run P w₁).andThen λx w₂=>((asAddr (tmps.getD q undef)).run P w₂).andThen λa2 w₃=>((loadVar tq a2).run P w₃).andThen λy w₄=>((asAddr (tmps.getD r undef)).run P w₄).andThen λa3 w₅=>((loadVar tr a3).run P w₅).andThen λz w₆=>.ok (.tuple #[x,y,z]) w₆:=by
 simp only[results,h];simp[Sem.run_bind,Result.andThen]
theorem QE(v:Value)(W:World):(Instr.typeAssert (.iface 114 v) 20 114 true).run Tryz.prog W=.ok (.tuple #[v,.bool true]) W:=by kernel_rfl
structure Cd.Res(w:World)(b:Nat)(v a e:Value):Prop where
 v:Bk w b 23 #[v]
 a:Bk w (b+1) 3 #[a]
 e:Bk w (b+2) 29 #[e]
theorem Cd.Res.below{w w':World}{b:Nat}{v a e:Value}(h:Cd.Res w b v a e)(hb:Below w.heap.size w w'):Cd.Res w' b v a e:=⟨h.v.below hb h.v.lt,h.a.below hb h.a.lt,h.e.below hb h.e.lt⟩
theorem Cd.Res.aA{w:World}{b:Nat}{v a e v' a' e':Value}(h:Cd.Res w b v a e):Cd.Res (((w.setCell ⟨b,0,none⟩ v').setCell ⟨b+1,0,none⟩ a').setCell ⟨b+2,0,none⟩ e') b v' a' e' :=
 ⟨((h.v.aA 0 v').far (p:=⟨b+1,0,none⟩) (by simp) a').far (p:=⟨b+2,0,none⟩) (by simp) e',((h.a.far (p:=⟨b,0,none⟩) (by simp) v').aA 0 a').far (p:=⟨b+2,0,none⟩) (by simp) e',((h.e.far (p:=⟨b,0,none⟩) (by simp) v').far (p:=⟨b+1,0,none⟩) (by simp) a').aA 0 e'⟩
theorem zh(p q r:Addr)(w:World) :
  CallsD Tryz.prog 59 #[.pointer (some p),.pointer (some q),.pointer (some r)] .returning w λe u' w'=>e=.returned (.tuple #[])/\u'=.returning/\w'=w:=by
 refine callsD_of_wpS Tryz.func59 rfl λc₀ cs hu=>?_
 apply wpS_seq;apply wpS_region;simp[wpOpsS,go_sem,recoverD,hu,Tryz.ntmps59,Exit.thenS];apply wpS_seq;apply wpS_region;simp[wpOpsS,go_sem,Exit.thenS];refine wpS_cond (t:=false) (by simp[Act.eval,Array.replicate]) ?_;simp only[Bool.false_eq_true,if_false];refine wpS_of_wp (wp_skip ?_);cases c₀
 simp_all[bodyPostS,results,Tryz.results59]
theorem zL(b at_ e:Nat)(v0 a0 e0:Value)(older:List PanicEntry)(w:World)(h:Cd.Res w b v0 a0 e0) :
  CallsD Tryz.prog 59 #[.pointer (some ⟨b,0,none⟩),.pointer (some ⟨b+1,0,none⟩),.pointer (some ⟨b+2,0,none⟩)] (.panicking ({ v:=.iface 114 (.agg #[.int .i64 (at_:Nat),.int .i64 (e:Nat)]),recovered:=false }::older)) w λen u' w' =>
   en=.returned (.tuple #[])/\u'=.panicking ({ v:=.iface 114 (.agg #[.int .i64 (at_:Nat),.int .i64 (e:Nat)]),recovered:=true }::older)/\Below b w w'/\Cd.Res w' b (.slice none 0 0) (.int .i64 (at_:Nat)) (.int .i64 (e:Nat)):=by
 have HR:=hid h;have hlt:=h.e.lt;clear h;refine callsD_of_wpS Tryz.func59 rfl λc₀ cs hu=>?_
 apply wpS_seq;apply wpS_region;simp[wpOpsS,go_sem,recoverD,hu,Tryz.ntmps59,Exit.thenS];apply wpS_seq;apply wpS_region;simp[wpOpsS,go_sem,Exit.thenS];refine wpS_cond (t:=true) (by simp[Act.eval,Array.replicate]) ?_;simp only[if_true];refine wpS_of_wp ?_;change Code.wp _ _ _ { tmps:=#[.pointer (some ⟨b,0,none⟩),.pointer (some ⟨b+1,0,none⟩),.pointer (some ⟨b+2,0,none⟩),.iface 114 (.agg #[.int .i64 (at_:Nat),.int .i64 (e:Nat)]),undef,undef,.iface 114 (.agg #[.int .i64 (at_:Nat),.int .i64 (e:Nat)]),.iface 114 (.agg #[.int .i64 (at_:Nat),.int .i64 (e:Nat)]),.bool true,undef,undef,undef,undef,undef,undef,undef,undef,undef,undef,undef,undef],defers:=[] } w
 have hta:=λW=>QE (.agg #[.int .i64 (at_:Nat),.int .i64 (e:Nat)]) W
 go_upto_region 5 with(fail)
 refine aj (λV hV=>?_);obtain⟨hb,hq,hVs⟩:=au hV;clear hV;have HR2:=hid (HR.out.below hb);have HB:=hid hb;obtain⟨⟨d0,d1⟩,-⟩:=hq.k2;have hne0:¬w.heap.size=b:=by omega
 have hne1:¬w.heap.size=b+1:=by omega
 have hne2:¬w.heap.size=b+2:=by omega
 have hqq:=hid hq;clear hb hq hta;obtain⟨u0,y0⟩:=HR2.out.v.k1;obtain⟨u1,y1⟩:=HR2.out.a.k1;obtain⟨u2,y2⟩:=HR2.out.e.k1;go_region;refine⟨rfl,_,rfl,.tuple #[],?_,rfl,rfl,?_,?_⟩
 ·simp[results,Tryz.results59]
 ·have hlo:b<=w.heap.size:=by omega
  exact((((HB.out.mono hlo).setCell (p:=⟨b,0,none⟩) (xB _) _).setCell (p:=⟨b+1,0,none⟩) (by simp) _).setCell (p:=⟨b+2,0,none⟩) (by simp) _).drew
 ·exact HR2.out.aA.below ((Below.refl _ _).drew)
