import Derived.Test.YtogijkhenihaaaaGreatDoorGB24
set_option linter.all false
set_option maxRecDepth 100000
set_option maxHeartbeats 0
namespace Go.Proofs.YtogijkhenihaaaaGreatDoor
open Lib (hid)
open Go.BigFrame Go.RowKit
theorem Cd.Res.keep{w:World}{b B:Nat}{v a e v' a' e' vv:Value}{l:List Vl.Node}(h:Cd.Res w b v a e)(hr:Vl.bT w (some B) vv l):Vl.bT (((w.setCell ⟨b,0,none⟩ v').setCell ⟨b+1,0,none⟩ a').setCell ⟨b+2,0,none⟩ e') (some B) vv l:=by
 have k1:Kp B [92] w (w.setCell ⟨b,0,none⟩ v'):=(Only.set h.v 0 v').kp B (by decide);have k2:Kp B [92] (w.setCell ⟨b,0,none⟩ v') ((w.setCell ⟨b,0,none⟩ v').setCell ⟨b+1,0,none⟩ a'):=(Only.set (h.a.far (p:=⟨b,0,none⟩) (by simp) v') 0 a').kp B (by decide);have k3:Kp B [92] ((w.setCell ⟨b,0,none⟩ v').setCell ⟨b+1,0,none⟩ a') (((w.setCell ⟨b,0,none⟩ v').setCell ⟨b+1,0,none⟩ a').setCell ⟨b+2,0,none⟩ e'):=(Only.set ((h.e.far (p:=⟨b,0,none⟩) (by simp) v').far (p:=⟨b+1,0,none⟩) (by simp) a') 0 e').kp B (by decide);exact ah.kp (show ah w (some B) 92 4 Vl.x9 vv l from hr) (k1.trans (k2.trans k3)) (xB _) (by decide) (λ_ _ h=>h)
theorem GY(sv:Value)(x:Id.Sch)(hF:Chk.Fine x)(tv:Value)(t:List Id.Srt)(bb:ByteArray)(hbb:bb.size<=1000000)(w:World)(hk:Tk.KW w)(hv:Id.ay w none sv x)(ht:Id.bG w none tv t) :
  Calls Tryz.prog 16 #[sv,tv,.string bb] w λe w'=>∃ vv,e=.returned (.tuple #[vv,.int .i64 (Cd.decP x t bb.data.toList).2.1,.int .i64 (Cd.decP x t bb.data.toList).2.2])/\Below w.heap.size w w'/\Vl.bT w' (some w.heap.size) vv (Cd.decP x t bb.data.toList).1:=by
 obtain⟨R,HR⟩:∃ R,Hid (Cd.decP x t bb.data.toList=R):=⟨_,hid rfl⟩;rw[HR.out];unfold Cd.decP at HR;have HF:=hid hF;have HKW:=hid hk;have HV:=hid hv;have HS:=hid ht;obtain⟨A1,n1,c1,A2,n2,c2,A3,n3,c3,rfl,-,-,-⟩:=hv;have hmf:∀(fn:Fn)(first cap:Array Value)(w:World),(Instr.makeFunc fn first cap).run Tryz.prog w=.ok (.func fn first cap) w:=λ_ _ _ _=>rfl
 clear hF hk ht;go_enter_defers Tryz.func16,Tryz.ntmps16;go_upto_region 1 with(fail)
 refine aj (λV hV=>?_);have HL:Hid (Chk.Lx w V #[.string x.name,.slice A1 n1 c1,.slice A2 n2 c2,.slice A3 n3 c3]):=hid (by
  rw[hV];exact⟨((((Below.refl _ _).alloc (xB _) _).alloc (by simp) _).alloc (by simp;omega) _).alloc (by simp;omega) _,(((Bk.new w _ _).alloc _).alloc _).alloc _⟩)
 have HRS:Hid (Cd.Res V (w.heap.size+1) (.slice none 0 0) (.int .i64 0) (.int .i64 0)):=hid (by
  rw[hV];have h1:=Bk.new (w.alloc (.cells #[.string x.name,.slice A1 n1 c1,.slice A2 n2 c2,.slice A3 n3 c3] 28)) 23 #[.slice none 0 0];have h2:=Bk.new ((w.alloc (.cells #[.string x.name,.slice A1 n1 c1,.slice A2 n2 c2,.slice A3 n3 c3] 28)).alloc (.cells #[.slice none 0 0] 23)) 3 #[.int .i64 0];have h3:=Bk.new (((w.alloc (.cells #[.string x.name,.slice A1 n1 c1,.slice A2 n2 c2,.slice A3 n3 c3] 28)).alloc (.cells #[.slice none 0 0] 23)).alloc (.cells #[.int .i64 0] 3)) 29 #[.int .i64 0];simp only[World.size_alloc]at h1 h2 h3;exact⟨(h1.alloc _).alloc _,h2.alloc _,h3⟩)
 clear hV;obtain⟨⟨q0,q1,q2,q3⟩,-⟩:=HL.out.box.k4;go_wp2_with fail;refine(GX _ x HF.out _ t _ (HKW.out.below HL.out.bel) (Id.ay.below HL.out.bel HV.out) (ah.below HS.out HL.out.bel (λ_ _ h=>h))).mono ?_;obtain⟨T,HT⟩:∃ T,Hid (Vl.oK x t=T):=⟨_,hid rfl⟩;rw[HT.out];rw[HT.out]at HR;rintro e W1⟨rfl,hb⟩;have HL1:=hid (HL.out.below hb);have pX:=hid (HRS.out.below hb);have hW1:w.heap.size+1+2<W1.heap.size:=pX.out.e.lt;clear hb q0 q1 q2 q3 HL HRS;by_cases hT:T=0
 case neg =>
  have HE:Hid (R=([],0,T)):=hid (by rw[<-HR.out,if_pos hT]);obtain rfl:=HE.out;have t1:((T:Int) != 0)=true:=by rw[bne_iff_ne];omega
  have t2:¬(T:Int)=0:=by omega
  obtain⟨u0,y0⟩:=pX.out.v.k1;obtain⟨u1,y1⟩:=pX.out.a.k1;obtain⟨u2,y2⟩:=pX.out.e.k1;go_wp2_with fail;have hres:=pX.out.aA (v':=.slice none 0 0) (a':=.int .i64 0) (e':=.int .i64 (T:Nat));have hbel:Below w.heap.size w (((W1.setCell ⟨w.heap.size+1,0,none⟩ (.slice none 0 0)).setCell ⟨w.heap.size+1+1,0,none⟩ (.int .i64 0)).setCell ⟨w.heap.size+1+2,0,none⟩ (.int .i64 (T:Nat))):=((HL1.out.bel.setCell (p:=⟨w.heap.size+1,0,none⟩) (by simp) _).setCell (p:=⟨w.heap.size+1+1,0,none⟩) (by simp;omega) _).setCell (p:=⟨w.heap.size+1+2,0,none⟩) (by simp;omega) _;obtain⟨e0,-⟩:=hres.v.k1;obtain⟨e1,-⟩:=hres.a.k1;obtain⟨e2,-⟩:=hres.e.k1;refine⟨.tuple #[.slice none 0 0,.int .i64 0,.int .i64 (T:Nat)],?_,.slice none 0 0,rfl,hbel,ah.nil _ _ _ _ _⟩;rw[yg rfl];go_simp
 subst hT;have HTY:Hid (Chk.Right x/\Chk.right x t=true):=hid (Vl.Lc HT.out);have HRP:Hid ((match Cd.aY x bb.data.toList 12 t ⟨0,[],0⟩with
  | .error p=>([],p.1,p.2)
  | .ok y=>if y.at_<bb.size then([],y.at_,162)else(y.v,0,0):List Vl.Node × Nat × Nat)=R):=hid (by
   rw[<-HR.out,if_neg (by simp),show bb.data.toList.length=bb.size by simp];all_goals(cases Cd.aY x bb.data.toList 12 t ⟨0,[],0⟩<;>rfl))
 clear HR HT;simp only[xY];have HV1:=hid (Id.ay.below HL1.out.bel HV.out);have HS1:Hid (Id.bG W1 none tv t):=hid (ah.below HS.out HL1.out.bel (λ_ _ h=>h));obtain⟨⟨q0,q1,q2,q3⟩,-⟩:=HL1.out.box.k4;go_upto_region 6 with(fail)
 refine aj (λV2 hV2=>?_);obtain⟨hb2,hq2,-⟩:=au hV2;clear hV2 q0 q1 q2 q3;have hrd:Cd.Rdr (.string x.name) (.slice A1 n1 c1) (.slice A2 n2 c2) (.slice A3 n3 c3) bb W1 V2 W1.heap.size ⟨0,[],0⟩ (.slice none 0 0):=⟨hb2,xB _,hq2,ah.nil _ _ _ _ _,Nat.zero_le _,Nat.zero_le _,Nat.zero_le _⟩;have hst:Cd.Sts W1.heap.size W1.heap.size V2 tv t:=Cd.Sts.old HS1.out hb2 (xB _);obtain⟨ho1,ho2⟩:=Vl.lZ HTY.out.2;have hp:=Ba x HF.out HTY.out.1 (.string x.name) (.slice A1 n1 c1) (.slice A2 n2 c2) (.slice A3 n3 c3) bb hbb W1 W1.heap.size HV1.out 12 (xB _) tv t ⟨0,[],0⟩ (.slice none 0 0) V2 ho1 ho2 hrd hst;rw[show(12 - ((12:Nat):Int))=0 by omega]at hp;have HP:=hid hp;clear hp hst hrd hb2 hq2 ho1 ho2 HTY HV1 HS1;go_wp2_with fail;refine HP.out.mono ?_;clear HP;obtain⟨D,HD⟩:∃ D,Hid (Cd.aY x bb.data.toList 12 t ⟨0,[],0⟩=D):=⟨_,hid rfl⟩;rw[HD.out];rw[HD.out]at HRP;cases D with
 |error pe =>
  have HE:Hid (R=([],pe.1,pe.2)):=hid HRP.out.symm;obtain rfl:=HE.out;rintro e w5⟨rfl,hb5⟩;have HB5:=hid hb5;have sK:=hid (show Cd.Res w5 (w.heap.size+1) _ _ _ from⟨pX.out.v.below hb5 (by omega),pX.out.a.below hb5 (by omega),pX.out.e.below hb5 (by omega)⟩);clear hb5 pX;unfold Cd.pan;go_wp2_with fail;refine leaves_cons (f:=59) (args:=#[.pointer (some ⟨w.heap.size+1,0,none⟩),.pointer (some ⟨w.heap.size+1+1,0,none⟩),.pointer (some ⟨w.heap.size+1+2,0,none⟩)]) (by simp) (by simp[go_sem]) ?_;refine(zL (w.heap.size+1) pe.1 pe.2 _ _ _ [] w5 sK.out).mono ?_;rintro e u' w6⟨rfl,rfl,hb6,hr6⟩;obtain⟨e0,-⟩:=hr6.v.k1;obtain⟨e1,-⟩:=hr6.a.k1;obtain⟨e2,-⟩:=hr6.e.k1;have hbel:Below w.heap.size w w6:=(HL1.out.bel.trans (HB5.out.mono HL1.out.bel.size)).trans (hb6.mono (by omega));refine⟨.tuple #[.slice none 0 0,.int .i64 (pe.1:Nat),.int .i64 (pe.2:Nat)],?_,.slice none 0 0,rfl,hbel,ah.nil _ _ _ _ _⟩;rw[yg rfl];go_simp
 |ok y =>
  have HRY:Hid ((if y.at_<bb.size then([],y.at_,162)else(y.v,0,0))=R):=hid HRP.out;rintro e w5⟨rfl,hp5⟩;obtain⟨ho5,vv5,hr5⟩:=hp5;have HR5:=hid hr5;have hb5:=hr5.bel;have sK:=hid (show Cd.Res w5 (w.heap.size+1) _ _ _ from⟨pX.out.v.below hb5 (by omega),pX.out.a.below hb5 (by omega),pX.out.e.below hb5 (by omega)⟩);have HB5:=hid (HL1.out.bel.trans (hb5.mono HL1.out.bel.size));obtain⟨p,v,z⟩:=y;obtain⟨A9,n9,c9,rfl⟩:=ah.is hr5.row;obtain⟨⟨c0,c1,c2,c3,c4,c5,c6,c7⟩,-⟩:=Bk.k8 hr5.box;simp only at c5 c7 HRY;have hlo:¬W1.heap.size=w.heap.size+1:=by omega
  have hlo1:¬W1.heap.size=w.heap.size+1+1:=by omega
  have hlo2:¬W1.heap.size=w.heap.size+1+1+1:=by omega
  clear hr5 hb5 pX ho5 HRP HD;by_cases hlt:p<bb.size
  case pos =>
   have HE:Hid (R=([],p,162)):=hid (by rw[<-HRY.out,if_pos hlt]);obtain rfl:=HE.out;have h1:(p:Int)<(bb.size:Int):=by omega
   obtain⟨u0,y0⟩:=sK.out.v.k1;obtain⟨u1,y1⟩:=sK.out.a.k1;obtain⟨u2,y2⟩:=sK.out.e.k1;go_wp2_with fail;go_region;go_wp2_with fail;refine leaves_cons (f:=59) (args:=#[.pointer (some ⟨w.heap.size+1,0,none⟩),.pointer (some ⟨w.heap.size+1+1,0,none⟩),.pointer (some ⟨w.heap.size+1+2,0,none⟩)]) (by simp) (by simp[go_sem]) ?_;refine(zh ⟨w.heap.size+1,0,none⟩ ⟨w.heap.size+1+1,0,none⟩ ⟨w.heap.size+1+2,0,none⟩ _).mono ?_;rintro e u' w6⟨rfl,rfl,rfl⟩;have hres:=sK.out.aA (v':=(.slice none 0 0)) (a':=(.int .i64 (p:Nat))) (e':=(.int .i64 162));have hbel:=((HB5.out.setCell (p:=⟨w.heap.size+1,0,none⟩) (by simp) (.slice none 0 0)).setCell (p:=⟨w.heap.size+1+1,0,none⟩) (by simp;omega) (.int .i64 (p:Nat))).setCell (p:=⟨w.heap.size+1+2,0,none⟩) (by simp;omega) (.int .i64 162);obtain⟨e0,-⟩:=hres.v.k1;obtain⟨e1,-⟩:=hres.a.k1;obtain⟨e2,-⟩:=hres.e.k1;refine⟨.tuple #[(.slice none 0 0),(.int .i64 (p:Nat)),(.int .i64 162)],?_,(.slice none 0 0),rfl,hbel.drew,ah.nil _ _ _ _ _⟩;rw[yg rfl];go_simp
  have HE:Hid (R=(v,0,0)):=hid (by rw[<-HRY.out,if_neg hlt]);obtain rfl:=HE.out;have h1:¬(p:Int)<(bb.size:Int):=by omega
  obtain⟨u0,y0⟩:=sK.out.v.k1;obtain⟨u1,y1⟩:=sK.out.a.k1;obtain⟨u2,y2⟩:=sK.out.e.k1;go_wp2_with fail;refine leaves_cons (f:=59) (args:=#[.pointer (some ⟨w.heap.size+1,0,none⟩),.pointer (some ⟨w.heap.size+1+1,0,none⟩),.pointer (some ⟨w.heap.size+1+2,0,none⟩)]) (by simp) (by simp[go_sem]) ?_;refine(zh ⟨w.heap.size+1,0,none⟩ ⟨w.heap.size+1+1,0,none⟩ ⟨w.heap.size+1+2,0,none⟩ _).mono ?_;rintro e u' w6⟨rfl,rfl,rfl⟩;have hres:=sK.out.aA (v':=(.slice A9 n9 c9)) (a':=(.int .i64 0)) (e':=(.int .i64 0));have hbel:=((HB5.out.setCell (p:=⟨w.heap.size+1,0,none⟩) (by simp) (.slice A9 n9 c9)).setCell (p:=⟨w.heap.size+1+1,0,none⟩) (by simp;omega) (.int .i64 0)).setCell (p:=⟨w.heap.size+1+2,0,none⟩) (by simp;omega) (.int .i64 0);obtain⟨e0,-⟩:=hres.v.k1;obtain⟨e1,-⟩:=hres.a.k1;obtain⟨e2,-⟩:=hres.e.k1;refine⟨.tuple #[(.slice A9 n9 c9),(.int .i64 0),(.int .i64 0)],?_,(.slice A9 n9 c9),rfl,hbel,(ah.mono (sK.out.keep HR5.out.row) (λ_ _ hr=>hr.weak (Id.I5 (by omega))) (λ_ _ h=>h))⟩;rw[yg rfl];go_simp
theorem Sg.bk{w:World}{g:Nat}{t:TypeId}{cs:Array Value}(h:Bk w g t cs):w.heap[g]?=some (.cells cs t (0,0)):=h
theorem Sg.PY{fn:Func}{p q u:Tmp}{ty ty2:TypeId}(h:fn.results=#[.cell p ty,.cell q ty2,.tmp u])(tmps:Array Value)(P:Program)(w:World) :
  (results fn tmps).run P w=((asAddr (tmps.getD p undef)).run P w).andThen λa w₁=>((loadVar ty a).run P w₁).andThen λx w₂=>((asAddr (tmps.getD q undef)).run P w₂).andThen λb w₃=>((loadVar ty2 b).run P w₃).andThen λy w₄=>.ok (.tuple #[x,y,tmps.getD u undef]) w₄:=by
 simp only[results,h];simp[Sem.run_bind,Result.andThen]
theorem Sg.Og{fn:Func}{p q u v:Tmp}{ty ty2:TypeId}(h:fn.results=#[.cell p ty,.cell q ty2,.tmp u,.tmp v])(tmps:Array Value)(P:Program)(w:World) :
  (results fn tmps).run P w=((asAddr (tmps.getD p undef)).run P w).andThen λa w₁=>((loadVar ty a).run P w₁).andThen λx w₂=>((asAddr (tmps.getD q undef)).run P w₂).andThen λb w₃=>((loadVar ty2 b).run P w₃).andThen λy w₄=>.ok (.tuple #[x,y,tmps.getD u undef,tmps.getD v undef]) w₄:=by
 simp only[results,h];simp[Sem.run_bind,Result.andThen]
theorem Sg.rF{P:Program}{fn:Func}{R:Ending->World->Prop}{a:Act}{w:World}{p q u:Tmp}{ty ty2:TypeId}(h:fn.results=#[.cell p ty,.cell q ty2,.tmp u])(g g2:Nat)(hp:a.tmps.getD p undef=.pointer (some ⟨g,0,none⟩))(hq:a.tmps.getD q undef=.pointer (some ⟨g2,0,none⟩))
  (t t2:TypeId) (cs cs2:Array Value) (d d2:TypeDesc) (hg:Bk w g t cs) (hg2:Bk w g2 t2 cs2) (hu:P.underlying ty=some d) (hd:(match d with| .struct _| .array _ _=>true|_=>false)=true) (hi:(P.info? ty).map (·.size)=some cs.size)
  (hu2:P.underlying ty2=some d2) (hd2:(match d2 with| .struct _| .array _ _=>true|_=>false)=true) (hi2:(P.info? ty2).map (·.size)=some cs2.size)
  (hdf:a.defers=[]) (hR:R (.returned (.tuple #[.agg cs,.agg cs2,a.tmps.getD u undef])) w):bodyPost P fn R .ret a w:=by
 refine bodyPost_ret (v:=.tuple #[.agg cs,.agg cs2,a.tmps.getD u undef]) ?_ hdf hR;rw[Sg.PY h,hp,hq];simp only[asAddr,Sem.run_pure,Result.andThen_ok,run_loadVar_row (P:=P) w g t ty cs (0,0) d hg hu hd hi,run_loadVar_row (P:=P) w g2 t2 ty2 cs2 (0,0) d2 hg2 hu2 hd2 hi2]
theorem Sg.iO{P:Program}{fn:Func}{R:Ending->World->Prop}{a:Act}{w:World}{p q u v:Tmp}{ty ty2:TypeId}(h:fn.results=#[.cell p ty,.cell q ty2,.tmp u,.tmp v])(g g2:Nat)(hp:a.tmps.getD p undef=.pointer (some ⟨g,0,none⟩))(hq:a.tmps.getD q undef=.pointer (some ⟨g2,0,none⟩))
  (t t2:TypeId) (cs cs2:Array Value) (d d2:TypeDesc) (hg:Bk w g t cs) (hg2:Bk w g2 t2 cs2) (hu:P.underlying ty=some d) (hd:(match d with| .struct _| .array _ _=>true|_=>false)=true) (hi:(P.info? ty).map (·.size)=some cs.size)
  (hu2:P.underlying ty2=some d2) (hd2:(match d2 with| .struct _| .array _ _=>true|_=>false)=true) (hi2:(P.info? ty2).map (·.size)=some cs2.size)
  (hdf:a.defers=[]) (hR:R (.returned (.tuple #[.agg cs,.agg cs2,a.tmps.getD u undef,a.tmps.getD v undef])) w):bodyPost P fn R .ret a w:=by
 refine bodyPost_ret (v:=.tuple #[.agg cs,.agg cs2,a.tmps.getD u undef,a.tmps.getD v undef]) ?_ hdf hR;rw[Sg.Og h,hp,hq];simp only[asAddr,Sem.run_pure,Result.andThen_ok,run_loadVar_row (P:=P) w g t ty cs (0,0) d hg hu hd hi,run_loadVar_row (P:=P) w g2 t2 ty2 cs2 (0,0) d2 hg2 hu2 hd2 hi2]
theorem Sg.EF{P:Program}(w:World)(g off:Nat)(t ty:TypeId)(cs part:Array Value)(d:TypeDesc)(hg:Bk w g t cs)(hp:∀(j:Nat)(v:Value),part.toList[j]?=some v->cs[off+j]?=some v)
  (hu:P.underlying ty=some d) (hd:(match d with| .struct _| .array _ _=>true|_=>false)=true) (hi:(P.info? ty).map (·.size)=some part.size) :
  (loadVar ty ⟨g,off,none⟩).run P w=.ok (.agg part) w:=by
 have hl:(loadCells ⟨g,off,none⟩ part.toList.length).run P w=.ok part.toList.toArray w :=
  run_loadCells_list (P:=P) w ⟨g,off,none⟩ part.toList (λj v hv=>by
   have hadd:(⟨g,off,none⟩:Addr).add j=⟨g,off+j,none⟩:=by unfold Addr.add;split<;>simp_all
   rw[hadd,hg.cell];exact hp j v hv)
 cases hq:P.info? ty with
 |none=>simp[hq]at hi
 |some i =>
  have hs:i.size=part.size:=by simpa[hq]using hi
  have hagg:(isAgg ty).run P w=.ok true w:=by
   unfold isAgg;rw[Sem.run_bind,run_underlying hu w];cases d<;>simp_all
  simp only[Array.length_toList,Array.toArray_toList]at hl;simp[loadVar,Sem.run_bind,hagg,sizeOf,typeInfo,hq,hs,hl]
theorem Sg.uS{P:Program}{ops:Array Oper}{rest:List Oper}{o:Oper}{a:Act}{w:World}{Q:Exit->Act->World->Prop}(hgd:o.guard=none)(ty:TypeId)(x:Operand)(ho:o.op=.load ty x)
  (g off:Nat) (hx:a.eval x=.pointer (some ⟨g,off,none⟩)) (t:TypeId) (cs part:Array Value) (d:TypeDesc) (hg:Bk w g t cs) (hp:∀(j:Nat)(v:Value),part.toList[j]?=some v->cs[off+j]?=some v)
  (hu:P.underlying ty=some d) (hd:(match d with| .struct _| .array _ _=>true|_=>false)=true) (hi:(P.info? ty).map (·.size)=some part.size)
  (h:wpList P ops Q rest (a.put o.dst (.agg part)) w):wpList P ops Q (o::rest) a w :=
 wpList_plain hgd λ_ hK=>by
  unfold Oper.wp execOp;simp only[ho,hx,Instr.loadAt,Instr.sureAddr,Sem.run_bind,Sem.run_pure,Result.andThen_ok,Sg.EF w g off t ty cs part d hg hp hu hd hi];exact hK _ _ h
namespace Sg
open Id Chk Ev Sd
theorem kY{P:Program}{w:World}{o:Oper}{ev:Operand->Value}(ty:TypeId)(x:Operand)(ho:o.op=.load ty x)(g:Nat)(hx:ev x=.pointer (some ⟨g,0,none⟩))(t:TypeId)(cs:Array Value)(d:TypeDesc)(hg:Bk w g t cs)
  (hu:P.underlying ty=some d) (hd:(match d with| .struct _| .array _ _=>true|_=>false)=true) (hi:(P.info? ty).map (·.size)=some cs.size):(execOp ev o).run P w=.ok (.value (.agg cs)) w:=by
 unfold execOp;simp only[ho,hx,Instr.loadAt,Instr.sureAddr,Sem.run_bind,Sem.run_pure,Result.andThen_ok,run_loadVar_row (P:=P) w g t ty cs (0,0) d hg hu hd hi]
theorem xq{P:Program}{w:World}{o:Oper}{ev:Operand->Value}(ty:TypeId)(x:Operand)(ho:o.op=.load ty x)(g off:Nat)(hx:ev x=.pointer (some ⟨g,off,none⟩))(t:TypeId)(cs part:Array Value)(d:TypeDesc)(hg:Bk w g t cs)
  (hp:∀(j:Nat)(v:Value),part.toList[j]?=some v->cs[off+j]?=some v)
  (hu:P.underlying ty=some d) (hd:(match d with| .struct _| .array _ _=>true|_=>false)=true) (hi:(P.info? ty).map (·.size)=some part.size):(execOp ev o).run P w=.ok (.value (.agg part)) w:=by
 unfold execOp;simp only[ho,hx,Instr.loadAt,Instr.sureAddr,Sem.run_bind,Sem.run_pure,Result.andThen_ok,Sg.EF (P:=P) w g off t ty cs part d hg hp hu hd hi]
def Run.cells(r:Run):Array Value:=#[.string r.id,.string r.saga,.string r.arg,.int .i64 r.at_,.int .u8 (r.phase:Nat),.int .i64 r.tries,.bool r.stop,.int .i64 r.why,.string r.value]
def Run.val(r:Run):Value:=.agg r.cells
noncomputable def gW(x:Sch)(g b:ByteArray):Nat:=(Cd.decP x (Vl.nmd (sag x g).arg) b.data.toList).2.2
theorem Ih(W:World)(rn:ByteArray):bG (W.alloc (.cells #[.int .u8 7,.string rn] 44)) none (.slice (some ⟨W.heap.size,0,none⟩) 1 1) (Vl.nmd rn):=by
 refine⟨[[.int .u8 7,.string rn]],rfl,by simp,⟨rfl,_,_,rfl,xB _,by decide,(λe=>by cases e),λ_=>⟨_,_,rfl,λj u hu=>?_⟩⟩,λi h h'=>?_⟩
 ·rw[Nat.zero_add,World.cell?_alloc_mark]
  simpa using hu
 ·obtain rfl:i=0:=by simpa using h
  rfl
end Sg
theorem Cm(sv:Value)(x:Id.Sch)(hF:Chk.Fine x)(g b:ByteArray)(hbb:b.size<=1000000)(w:World)(hk:Tk.KW w)(hv:Id.ay w none sv x) :
  Calls Tryz.prog 72 #[sv,.string g,.string b] w λe w'=>e=.returned (.int .i64 (Sg.gW x g b:Nat))/\Below w.heap.size w w':=by
 obtain⟨R,HR⟩:∃ R,Hid (Sg.gW x g b=R):=⟨_,hid rfl⟩;rw[HR.out];have HF:=hid hF;have HKW:=hid hk;have HV:=hid hv;obtain⟨A1,n1,c1,A2,n2,c2,A3,n3,c3,rfl,-,-,-⟩:=hv;clear hk hF;go_enter Tryz.func72,Tryz.ntmps72;go_upto_region 1 with(fail)
 refine aj (λV hV=>?_);have HL:=hid (Chk.Lx.start hV);clear hV;obtain⟨⟨q0,q1,q2,q3⟩,-⟩:=HL.out.box.k4;go_wp2_with fail;refine(D7 _ x g (λr hr=>xM (HF.out.sa r hr).2.1 (by decide)) _ (Id.ay.below HL.out.bel HV.out)).mono ?_;rintro e W1⟨u,rfl,hb,hu⟩;obtain⟨us,rfl,hus⟩:=hu;obtain⟨A6,n6,c6,rfl⟩:=ah.is hus;have HL1:=hid (HL.out.below hb);clear hb hus q0 q1 q2 q3 HL;go_upto_region 2 with(fail)
 refine aj (λV2 hV=>?_);obtain⟨hbV,hqV,-⟩:=au hV;have HL2:=hid (HL1.out.below hbV);clear hV hbV;obtain⟨G,HG⟩:∃ G,Hid ((Sd.sag x g).arg=G):=⟨_,hid rfl⟩;have HGG:Hid (((Chk.gq x g).getD Chk.oq).arg=G):=hid HG.out;rw[HGG.out]at hqV;have HRR:Hid ((Cd.decP x (Vl.nmd G) b.data.toList).2.2=R):=hid (by rw[<-HG.out];exact HR.out);clear HR HG HGG;obtain⟨⟨q0,q1,q2,q3⟩,-⟩:=HL2.out.box.k4;obtain⟨⟨r0,r1,r2⟩,-⟩:=hqV.k3;go_wp2_with fail;have hb3:Below w.heap.size w (V2.alloc (.cells #[.int .u8 7,.string G] 44)):=HL2.out.bel.trans (((Below.refl _ _).alloc (xB _) _).mono HL2.out.bel.size);have h3:=GY _ x HF.out _ (Vl.nmd G) b hbb _ (HKW.out.below hb3) (Id.ay.below hb3 HV.out) (Sg.Ih V2 G);refine h3.mono ?_;rw[HRR.out];rintro e W3⟨vv,rfl,hb,hr⟩;have hb4:=hb3.trans (hb.mono hb3.size);clear hb h3 hb3 hr;go_wp2_with fail;go_ret;exact⟨rfl,hb4⟩
theorem IL(r:Sg.Run)(w:World):Calls Tryz.prog 27 #[r.val] w λe w'=>e=.returned (.bool (Sg.over r))/\Below w.heap.size w w':=by
 obtain⟨r0,r1,r2,r3,p,r5,r6,r7,r8⟩:=r;obtain⟨R,HR⟩:∃ R,Hid (Sg.over ⟨r0,r1,r2,r3,p,r5,r6,r7,r8⟩=R):=⟨_,hid rfl⟩;rw[HR.out];unfold Sg.over at HR;unfold Sg.Run.val Sg.Run.cells;go_enter Tryz.func27,Tryz.ntmps27;go_upto_region 1 with(fail)
 refine aj (λV hV=>?_);obtain⟨hb,hq,-⟩:=au hV;have HB:=hid hb;clear hV hb;have c4:=hq.cell 4;simp only[List.getElem?_toArray,List.getElem?_cons_zero,List.getElem?_cons_succ]at c4;by_cases h3:3<=p
 ·by_cases h5:p<=5
  ·have HE:Hid (R=true):=hid (by rw[<-HR.out];simp only[h3,h5,decide_true,Bool.and_self])
   obtain rfl:=HE.out;have t1:(3:Int)<=(p:Int):=by omega
   have t2:(p:Int)<=5:=by omega
   go_wp2_with fail;go_ret;exact⟨rfl,HB.out⟩
  ·have HE:Hid (R=false):=hid (by rw[<-HR.out];simp only[h3,h5,decide_true,decide_false,Bool.true_and])
   obtain rfl:=HE.out;have t1:(3:Int)<=(p:Int):=by omega
   have t2:¬(p:Int)<=5:=by omega
   go_wp2_with fail;go_ret;exact⟨rfl,HB.out⟩
 ·have HE:Hid (R=false):=hid (by rw[<-HR.out];simp only[h3,decide_false,Bool.false_and])
  obtain rfl:=HE.out;have t1:¬(3:Int)<=(p:Int):=by omega
  go_wp2_with fail;go_ret;exact⟨rfl,HB.out⟩
theorem Sg.dW{P:Program}{fn:Func}{R:Ending->World->Prop}{a:Act}{w:World}{p:Tmp}{ty:TypeId}(h:fn.results=#[.cell p ty])(g:Nat)(hp:a.tmps.getD p undef=.pointer (some ⟨g,0,none⟩))
  (t:TypeId) (cs:Array Value) (d:TypeDesc) (hg:Bk w g t cs) (hu:P.underlying ty=some d) (hd:(match d with| .struct _| .array _ _=>true|_=>false)=true) (hi:(P.info? ty).map (·.size)=some cs.size)
  (hdf:a.defers=[]) (hR:R (.returned (.agg cs)) w):bodyPost P fn R .ret a w :=
 bodyPost_ret (results_cell_row (P:=P) h a.tmps w g t cs (0,0) d hp hg hu hd hi) hdf hR
namespace Sg
open Id Chk Ev Sd
abbrev gI:Array Value:=#[.string ⟨#[]⟩,.string ⟨#[]⟩,.string ⟨#[]⟩,.int .i64 0,.int .u8 0,.int .i64 0,.bool false,.int .i64 0,.string ⟨#[]⟩]
def mD(q:Run × Letter × Bool × Bool):Value:=.tuple #[q.1.val,q.2.1.val,.bool q.2.2.1,.bool q.2.2.2]
def Ec(q:Run × Letter × Nat):Value:=.tuple #[q.1.val,q.2.1.val,.int .i64 (q.2.2:Nat)]
structure Two(V:World)(g g':Nat)(r l:Array Value):Prop where
 r:Bk V g 54 r
 l:Bk V g' 56 l
 ne:g≠g'
section
variable {V : World} {g g' : Nat} {r l : Array Value}
theorem Two.iM(h:Two V g g' r l)(c:Array Value):Two (V.setRow g c) g g' c l:=⟨h.r.row c,h.l.jK (Ne.symm h.ne) c,h.ne⟩
theorem Two.TA(h:Two V g g' r l)(c:Array Value):Two (V.setRow g' c) g g' r c:=⟨h.r.jK h.ne c,h.l.row c,h.ne⟩
theorem Two.both(h:Two V g g' r l)(c c':Array Value):Two ((V.setRow g c).setRow g' c') g g' c c':=(h.iM c).TA c'
theorem Two.below{B:Nat}{W:World}(h:Two V g g' r l)(hb:Below B V W)(h1:g<B)(h2:g'<B):Two W g g' r l:=⟨h.r.below hb h1,h.l.below hb h2,h.ne⟩
end
theorem bK{B g g':Nat}{w V:World}(h:Below B w V)(h1:B<=g)(h2:B<=g')(c c':Array Value):Below B w ((V.setRow g c).setRow g' c'):=aK (aK h h1 c) h2 c'
end Sg
theorem yQ(sv:Value)(x:Id.Sch)(hF:Chk.Fine x)(g id:ByteArray)(hIx:id.size<=100000)(fr:Int)(b:ByteArray)(hbb:b.size<=1000000)(w:World)(hk:Tk.KW w)(hv:Id.ay w none sv x) :
  Calls Tryz.prog 22 #[sv,.string g,.string id,.int .i64 fr,.string b] w λe w'=>e=.returned (Sg.Ec (Sg.begin_ Sg.gW x g id fr b))/\Below w.heap.size w w':=by
 obtain⟨R,HR⟩:∃ R,Hid (Sg.begin_ Sg.gW x g id fr b=R):=⟨_,hid rfl⟩;rw[HR.out];unfold Sg.begin_ at HR;have hco:=λW k v=>tH sv x hF g id hIx 0 false fr b W k v
 obtain⟨⟨⟨k0,k1,k2,k3,k4,k5,k6,k7,k8,k9⟩,E⟩,HG⟩:∃ G,Hid (Sd.call x g id 0 false fr b=G):=⟨_,hid rfl⟩;rw[HG.out]at HR;simp only[HG.out,Ev.Letter.val]at hco;have HCO:=hid hco;have hao:=λW k v=>Cm sv x hF g b hbb W k v
 obtain⟨A,HA⟩:∃ A,Hid (Sg.gW x g b=A):=⟨_,hid rfl⟩;rw[HA.out]at HR;simp only[HA.out]at hao;have HAO:=hid hao;clear hco hao;have HKW:=hid hk;have HV:=hid hv;obtain⟨A1,n1,c1,A2,n2,c2,A3,n3,c3,rfl,-,-,-⟩:=hv;clear hk hF;go_enter Tryz.func22,Tryz.ntmps22;go_upto_region 1 with(fail)
 refine aj (λV hV=>?_);have HL:Hid (Chk.Lx w V #[.string x.name,.slice A1 n1 c1,.slice A2 n2 c2,.slice A3 n3 c3]):=hid (by subst hV;exact⟨(((Below.refl _ _).alloc (xB _) _).alloc (by simp) _).alloc (by simp;omega) _,((Bk.new w _ _).alloc _).alloc _⟩);have HQ:Hid (Sg.Two V (w.heap.size+1) (w.heap.size+2) Sg.gI #[.int .u8 0,.int .i64 0,.int .i64 0,.int .u64 0,.string ⟨#[]⟩,.int .u64 0,.string ⟨#[]⟩,.string ⟨#[]⟩,.int .i64 0,.string ⟨#[]⟩]):=hid (by
  subst hV;have h1:=Bk.new (w.alloc (.cells #[.string x.name,.slice A1 n1 c1,.slice A2 n2 c2,.slice A3 n3 c3] 28)) 54 Sg.gI;have h2:=Bk.new ((w.alloc (.cells #[.string x.name,.slice A1 n1 c1,.slice A2 n2 c2,.slice A3 n3 c3] 28)).alloc (.cells Sg.gI 54)) 56 #[.int .u8 0,.int .i64 0,.int .i64 0,.int .u64 0,.string ⟨#[]⟩,.int .u64 0,.string ⟨#[]⟩,.string ⟨#[]⟩,.int .i64 0,.string ⟨#[]⟩];simp only[World.size_alloc]at h1 h2;exact⟨h1.alloc _,h2,by omega⟩)
 clear hV;obtain⟨⟨q0,q1,q2,q3⟩,-⟩:=HL.out.box.k4;go_wp2_with fail;refine(HCO.out _ (HKW.out.below HL.out.bel) (Id.ay.below HL.out.bel HV.out)).mono ?_;rintro e W1⟨rfl,hb⟩;have HL1:=hid (HL.out.below hb);have HQ1:=hid (HQ.out.below hb HQ.out.r.lt HQ.out.l.lt);clear hb q0 q1 q2 q3 HL HQ HCO;go_upto_region 2 with(fail)
 refine aj (λV2 hV=>?_);obtain⟨hbV,hL,-⟩:=au hV;have HL2:=hid (HL1.out.below hbV);have hQ:=HQ1.out.below hbV HQ1.out.r.lt HQ1.out.l.lt;have OJ:=HQ1.out.l.lt;clear hV hbV HQ1 HL1;obtain⟨gL,HgL⟩:∃ n,Hid (W1.heap.size=n):=⟨_,hid rfl⟩;rw[HgL.out]at hL OJ ⊢;by_cases hE:E=0
 case neg =>
  have HE:Hid (R=(Sg.Run.zero,Ev.Letter.zero,E)):=hid (by rw[<-HR.out,if_pos hE]);have t1:((E:Int)==0)=false:=by rw[xG];omega
  have t2:¬(E:Int)=0:=by omega
  have t3:((E:Int) != 0)=true:=by rw[bne_iff_ne];omega
  have hB:=HL2.out.bel;(have hq1:=hQ.r;have hq2:=(hQ.iM Sg.gI).l;unfold Bk at hq1 hq2)
  go_wp2_with(refine wpList_store_row rfl _ _ _ rfl _ _ rfl rfl _ _ (by with_reducible assumption) (by kernel_rfl) (by rfl) (by simp[Value.oneCell']) ?_);(refine Sg.rF rfl _ _ rfl rfl _ _ _ _ _ _ (hQ.both _ _).r (hQ.both _ _).l Tryz.underlying54 rfl (by kernel_rfl) Tryz.underlying56 rfl (by kernel_rfl) rfl ⟨?_,Sg.bK hB (by omega) (by omega) _ _⟩)
  rw[HE.out];rfl
 subst hE;rw[if_neg (by simp)]at HR;obtain⟨⟨q0,q1,q2,q3⟩,-⟩:=HL2.out.box.k4;go_wp2_with fail;refine(HAO.out _ (HKW.out.below HL2.out.bel) (Id.ay.below HL2.out.bel HV.out)).mono ?_;rintro e W3⟨rfl,hb⟩;have hB:=(HL2.out.below hb).bel;have hL3:=hL.below hb hL.lt;have hQ3:=hQ.below hb hQ.r.lt hQ.l.lt;clear hb q0 q1 q2 q3 hL hQ HL2;have hL:=hL3;have hQ:=hQ3;clear hL3 hQ3;by_cases hA:A=0
 case neg =>
  have HE:Hid (R=(Sg.Run.zero,Ev.Letter.zero,A)):=hid (by rw[<-HR.out,if_pos hA]);have t1:((A:Int)==0)=false:=by rw[xG];omega
  have t2:¬(A:Int)=0:=by omega
  have t3:((A:Int) != 0)=true:=by rw[bne_iff_ne];omega
  (have hq1:=hQ.r;have hq2:=(hQ.iM Sg.gI).l;unfold Bk at hq1 hq2)
  go_wp2_with(refine wpList_store_row rfl _ _ _ rfl _ _ rfl rfl _ _ (by with_reducible assumption) (by kernel_rfl) (by rfl) (by simp[Value.oneCell']) ?_);(refine Sg.rF rfl _ _ rfl rfl _ _ _ _ _ _ (hQ.both _ _).r (hQ.both _ _).l Tryz.underlying54 rfl (by kernel_rfl) Tryz.underlying56 rfl (by kernel_rfl) rfl ⟨?_,Sg.bK hB (by omega) (by omega) _ _⟩)
  rw[HE.out];rfl
 subst hA;have HE:Hid (R=(⟨id,g,b,0,1,0,false,0,⟨#[]⟩⟩,⟨k0,k1,k2,k3,k4,k5,k6,k7,k8,k9⟩,0)):=hid (by rw[<-HR.out,if_neg (by simp)]);go_upto_region 6 with(fail)
 have hd:Below W3.heap.size W3 W3.drew:=(Below.refl _ _).drew;have hLd:=hL.below hd hL.lt;have hQd:=hQ.below hd hQ.r.lt hQ.l.lt;have hBd:=hB.trans (hd.mono hB.size);clear hd hL hQ hB;have hQ:=hQd;have hB:=hBd;have hlt:=hLd.lt;clear hQd hBd;refine aO (λw'=>Bk w' gL 56 #[.int .u8 k0,.int .i64 k1,.int .i64 k2,.int .u64 k3,.string k4,.int .u64 k5,.string k6,.string k7,.int .i64 k8,.string k9]) [6] (by kernel_rfl) hLd (λhHeld=>?_);(refine aG 0 (v:=?_) rfl (by kernel_rfl) (λ_ _ _ h=>h) (λ_=>by assumption) (by rfl) ?_ ?_;rotate_left;· (intro w;go_simp;try with_reducible rfl);try simp only[Act.put,xA,xE,xC])
 (refine aG 1 (v:=?_) rfl (by kernel_rfl) (λ_ _ _ h=>h) (λ_=>by assumption) (by rfl) ?_ ?_;rotate_left;· (intro w;go_simp;try with_reducible rfl);try simp only[Act.put,xA,xE,xC])
 (refine aG 2 (v:=?_) rfl (by kernel_rfl) (λ_ _ _ h=>h) (λ_=>by assumption) (by rfl) ?_ ?_;rotate_left;· (intro w;go_simp;try with_reducible rfl);try simp only[Act.put,xA,xE,xC])
 (refine aG 3 (v:=?_) rfl (by kernel_rfl) (λ_ _ _ h=>h) (λ_=>by assumption) (by rfl) ?_ ?_;rotate_left;· (intro w;go_simp;try with_reducible rfl);try simp only[Act.put,xA,xE,xC])
 (refine Lst.takeN 6 4 (v:=.agg #[.int .u8 k0,.int .i64 k1,.int .i64 k2,.int .u64 k3,.string k4,.int .u64 k5,.string k6,.string k7,.int .i64 k8,.string k9]) rfl (by kernel_rfl) (λ_ _ _ h=>h) (by assumption) (by kernel_rfl) (λw' hSw=>Sg.kY _ _ rfl gL rfl _ _ _ hSw Tryz.underlying56 rfl (by kernel_rfl)) ?_;try simp only[Act.put,xA,xE,xC])
 (refine aB 5 (by kernel_rfl) rfl (λK hK=>?_))
 rw[if_pos (by rfl)];(with_reducible refine wp_store_row 54 _ _ rfl (w.heap.size+1) #[.string id,.string g,.string b,.int .i64 0,.int .u8 1,.int .i64 0,.bool false,.int .i64 0,.string ⟨#[]⟩] (by kernel_rfl) (by kernel_rfl) 54 _ (Sg.bk hQ.r) (by kernel_rfl) (by kernel_rfl) (by simp[Value.oneCell']) ?_)
 (refine hK.out _ _ (λhnn=>hLd.jK (by omega) _) ?_;clear hK K;try simp only[Act.put,xA,xE,xC])
 (refine aB 6 (by kernel_rfl) rfl (λK hK=>?_))
 rw[if_pos (by rfl)];(with_reducible refine wp_store_row 56 _ _ rfl (w.heap.size+2) #[.int .u8 k0,.int .i64 k1,.int .i64 k2,.int .u64 k3,.string k4,.int .u64 k5,.string k6,.string k7,.int .i64 k8,.string k9] (by kernel_rfl) (by kernel_rfl) 56 _ (Sg.bk (hQ.iM _).l) (by kernel_rfl) (by kernel_rfl) (by simp[Value.oneCell']) ?_)
 (refine hK.out _ _ (λhnn=>absurd hnn (by decide)) ?_;clear hK K;try simp only[Act.put,xA,xE,xC])
 (refine aB 7 (by kernel_rfl) rfl (λK hK=>?_))
 go_simp;(refine hK.out _ _ (λhnn=>absurd hnn (by decide)) ?_;clear hK K;try simp only[Act.put,xA,xE,xC])
 refine aV (by kernel_rfl) ?_ _;refine NoPanic.normal ?_;go_wp2_with fail;(refine Sg.rF rfl _ _ rfl rfl _ _ _ _ _ _ (hQ.both _ _).r (hQ.both _ _).l Tryz.underlying54 rfl (by kernel_rfl) Tryz.underlying56 rfl (by kernel_rfl) rfl ⟨?_,Sg.bK hB (by omega) (by omega) _ _⟩)
 rw[HE.out];rfl
