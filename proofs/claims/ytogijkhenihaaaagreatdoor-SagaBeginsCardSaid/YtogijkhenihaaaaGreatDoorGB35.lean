import Derived.Test.YtogijkhenihaaaaGreatDoorGB34
set_option linter.all false
set_option maxRecDepth 100000
set_option maxHeartbeats 0
namespace Go.Proofs.YtogijkhenihaaaaGreatDoor
open Lib (hid)
open Go.BigFrame Go.RowKit
namespace Cd
open Id Chk Vl Ev
structure On(B:Nat)(w w':World):Prop where
 bel:Below B w w'
 only:Only 92 w w'
theorem On.below{B:Nat}{w w':World}(h:Below w.heap.size w w')(hB:B<=w.heap.size):On B w w':=⟨h.mono hB,Only.below h⟩
theorem On.trans{B:Nat}{a b c:World}(h:On B a b)(k:On B b c):On B a c:=⟨h.bel.trans k.bel,h.only.trans k.only⟩
theorem Ot{e:TypeId}{w W:World}(h:Only e w W){p:Addr}(hp:w.heap.size<=p.block)(u:Value):Only e w (W.setCell p u) :=
 ⟨h.os,h.tape,h.output,by have:=h.size;simpa using this,λg o hg hn=>(Below.heap_setCell W p u g (by have:=(Array.getElem?_eq_some_iff.1 hg).1;omega)).trans (h.block g o hg hn)⟩
theorem Ou{e:TypeId}{w W:World}(h:Only e w W){g':Nat}(hp:w.heap.size<=g')(cs:Array Value):Only e w (W.setRow g' cs) :=
 ⟨h.os,h.tape,h.output,by have:=h.size;simpa[World.setRow]using this,λg o hg hn=>by
  have hlt:=(Array.getElem?_eq_some_iff.1 hg).1;rw[<-h.block g o hg hn];simp only[World.setRow,Array.getElem?_modify];rw[if_neg (by omega)]⟩
theorem On.set{B:Nat}{w W:World}(h:On B w W)(hB:B<=w.heap.size){p:Addr}(hp:w.heap.size<=p.block)(u:Value):On B w (W.setCell p u):=⟨h.bel.setCell (xM hB hp) u,Ot h.only hp u⟩
theorem On.row{B:Nat}{w W:World}(h:On B w W)(hB:B<=w.heap.size){g:Nat}(hp:w.heap.size<=g)(cs:Array Value):On B w (W.setRow g cs):=⟨aK h.bel (xM hB hp) cs,Ou h.only hp cs⟩
theorem Gy{w:World}{g:Nat}{T:TypeId}{c0:Array Value}(hg:Bk w g T c0)(cs:Array Value):Only T w (w.setRow g cs) :=
 ⟨rfl,rfl,rfl,by simp[World.setRow],λg' o ho hn=>by
  rw[<-ho];simp only[World.setRow,Array.getElem?_modify];rw[if_neg (by
   rintro rfl;have h2:w.heap[g]?=some (.cells c0 T (0,0)):=hg;rw[h2]at ho;injection ho with ho
   exact hn _ _ ho.symm)]⟩
theorem pq{W:World}{B g:Nat}{v:Value}{l:List Vl.Node}{T:TypeId}{cs:Array Value}(h:bT W (some B) v l)(hb:Bk W g T cs)(hT:T≠92)(i:Nat)(u:Value):bT (W.setCell ⟨g,i,none⟩ u) (some B) v l :=
 ah.kp h (Only.kp (Only.set hb i u) B (T:=[92]) (by simpa using hT)) (xB _) (by simp) (λ_ _ h=>h)
theorem gY{W:World}{B g:Nat}{v:Value}{l:List Vl.Node}{T:TypeId}{cs:Array Value}(h:bT W (some B) v l)(hb:Bk W g T cs)(hT:T≠92)(c:Array Value):bT (W.setRow g c) (some B) v l :=
 ah.kp h (Only.kp (Gy hb c) B (T:=[92]) (by simpa using hT)) (xB _) (by simp) (λ_ _ h=>h)
def StE(q:Q4)(bb:ByteArray)(z p e B:Nat)(w:World)(l:List Vl.Node)(en:Ending)(w':World):Prop:=∃ vv:Q1,en=.returned (.agg (stC q bb vv z p e))/\bT w' (some B) (.slice vv.a vv.n vv.c) l/\On B w w'
abbrev ndC(n:Vl.Node):Array Value:=#[.int .u8 (n.kind:Nat),.int .i64 n.int,.string n.text,.int .i64 n.kids]
structure DW(w:World)(cs ns:Array Value)(W:World):Prop where
 bel:Below w.heap.size w W
 box:Bk W w.heap.size 258 cs
 nod:Bk W (w.heap.size+1) 92 ns
 res:Bk W (w.heap.size+2) 258 st0
theorem DW.start{w V:World}{cs ns:Array Value}(h:V=((w.alloc (.cells cs 258)).alloc (.cells ns 92)).alloc (.cells st0 258)):DW w cs ns V:=by
 subst h;have h1:=Bk.new (w.alloc (.cells cs 258)) 92 ns;have h2:=Bk.new ((w.alloc (.cells cs 258)).alloc (.cells ns 92)) 258 st0;simp only[World.size_alloc]at h1 h2;exact⟨(((Below.refl _ _).alloc (xB _) _).alloc (by simp) _).alloc (by simp;omega) _,((Bk.new w _ cs).alloc _).alloc _,h1.alloc _,h2⟩
end Cd
theorem jY(q:Cd.Q4)(bb:ByteArray)(vv:Cd.Q1)(z p e B:Nat)(v:List Vl.Node)(nd:Vl.Node)(w:World)(hrow:Vl.bT w (some B) (.slice vv.a vv.n vv.c) v)(hl:v.length<=100000)(hB:B<=w.heap.size) :
  Calls Tryz.prog 220 #[.agg (Cd.stC q bb vv z p e),.agg (Cd.ndC nd)] w (Cd.StE q bb z p e B w (v++[nd])):=by
 have HR:=hid hrow;have HLEN:=hid hl;obtain⟨k0,k1,k2,k3⟩:=nd;clear hrow hl;go_enter Tryz.func220,Tryz.ntmps220;go_upto_region 1 with(fail)
 refine aj (λV hV=>?_);have HI:=hid (Cd.DW.start hV);clear hV;have HR1:=hid (Vl.bT.below HR.out HI.out.bel);have hVs:=HI.out.bel.size;have hlt2:=HI.out.res.lt;have c5:=HI.out.box.cell 5;simp only[List.getElem?_toArray,List.getElem?_cons_zero,List.getElem?_cons_succ]at c5;have hL:=Sg.bk HI.out.nod;go_upto_region 2 with(first|(refine wpList_load_row rfl _ _ rfl _ rfl _ _ _ _ hL Tryz.underlying92 rfl (by kernel_rfl) ?_)|(at_builtin;go_must(refine aI rfl _ _ _ rfl B 92 _ 4 40 Tryz.underlying23 Cd.yj rfl (by decide) Vl.x9 (.slice vv.a vv.n vv.c) v rfl HR1.out [.int .u8 (k0:Nat),.int .i64 k1,.string k2,.int .i64 k3] rfl _ rfl rfl (by simp[Value.oneCell']) (by unfold maxLen;have:=HLEN.out;omega) (by have:=HLEN.out;omega) (by omega) ?_);intro v2 w2 hrow2 hb2 ho2;have hr2:=hrow2 (⟨k0,k1,k2,k3⟩:Vl.Node) (λ_ _ h=>h) rfl;obtain⟨A6,n6,c6,rfl⟩:=ah.is hr2;have hbx:=ho2.bk HI.out.box (by decide);have d5:=hbx.cell 5;have g5:=hbx.frozen 5;simp only[List.getElem?_toArray,List.getElem?_cons_zero,List.getElem?_cons_succ]at d5))
 refine aj (λV3 hV=>?_);have hbs:=hb2.size;have hbox:Bk V3 w.heap.size 258 (Cd.stC q bb ⟨A6,n6,c6⟩ z p e):=by rw[hV];exact hbx.aA 5 (.slice A6 n6 c6)
 have hres:Bk V3 (w.heap.size+2) 258 Cd.st0:=by rw[hV];exact(ho2.bk HI.out.res (by decide)).far (by show ¬w.heap.size+2=w.heap.size;omega) _
 have hon:Cd.On B w V3:=by
  rw[hV];exact Cd.On.set ⟨(HI.out.bel.mono hB).trans hb2,(Only.below HI.out.bel).trans ho2⟩ hB (xB _) _
 have hrw:Vl.bT V3 (some B) (.slice A6 n6 c6) (v++[⟨k0,k1,k2,k3⟩]):=by
  rw[hV];exact Cd.pq hr2 hbx (by decide) 5 _
 clear hV hbx d5 g5 hr2 hb2 ho2 hL c5;have hL:=Sg.bk hbox;have hQ:=Sg.bk hres;go_wp2_with(first|(refine wpList_load_row rfl _ _ rfl _ rfl _ _ _ _ hL Tryz.underlying258 rfl (by kernel_rfl) ?_)|(refine wpList_store_row rfl _ _ _ rfl _ _ rfl rfl _ _ hQ (by kernel_rfl) (by rfl) (by simp[Value.oneCell']) ?_));refine Sg.dW rfl _ rfl _ _ _ (hres.row _) Tryz.underlying258 rfl (by kernel_rfl) rfl ⟨⟨A6,n6,c6⟩,rfl,Cd.gY hrw hres (by decide) _,hon.row hB (by omega) _⟩
namespace Cd
open Id Chk Vl Ev
theorem vw{b:List UInt8}{p:Nat}{r:Nat × Nat}(h:num b p=.error r):r.2≠0:=by
 unfold num at h;split at h
 ·cases h
 ·injection h with h;subst h;show 162≠0;decide
 ·injection h with h;subst h;show 160≠0;decide
theorem ER{b:List UInt8}{p:Nat}{r:Nat × Nat}(h:bit b p=.error r):r.2≠0:=by
 unfold bit at h;split at h
 ·split at h
  ·injection h with h;subst h;show 162≠0;decide
  ·cases h
 ·injection h with h;subst h;show 160≠0;decide
theorem Ic{b:List UInt8}{p u j:Nat}(h:bit b p=.ok (u,j)):u<=1/\j=p+1/\p<b.length:=by
 unfold bit at h;split at h
 ·split at h
  ·cases h
  ·injection h with h;injection h with h1 h2;subst h1 h2;exact⟨by omega,rfl,by assumption⟩
 ·cases h
structure Fit(bb:ByteArray)(x:S):Prop where
 ha:x.at_<=bb.size
 hv:x.v.length<=4096
 hz:x.sz<=4096
def PtE(q:Q4)(bb:ByteArray)(B:Nat)(w:World)(R:Rs S)(en:Ending)(w':World):Prop:=match R with
 | .ok y=>StE q bb y.sz y.at_ 0 B w y.v en w'/\Fit bb y
 | .error r=>∃(vv:Q1)(z:Nat),en=.returned (.agg (stC q bb vv z r.1 r.2))/\r.2≠0/\On B w w'
structure DT(w:World)(g:Nat)(cs:Array Value)(W:World):Prop where
 bel:Below w.heap.size w W
 res:Bk W (w.heap.size+1) 258 st0
 y:Bk W g 258 cs
 lo:w.heap.size+1<g
theorem DT.below{w W W':World}{g:Nat}{cs:Array Value}(h:DT w g cs W)(hb:Below W.heap.size W W'):DT w g cs W':=⟨h.bel.trans (hb.mono h.bel.size),h.res.below hb h.res.lt,h.y.below hb h.y.lt,h.lo⟩
theorem DT.set{w W:World}{g:Nat}{cs:Array Value}(h:DT w g cs W)(i:Nat)(v:Value):DT w g (cs.setIfInBounds i v) (W.setCell ⟨g,i,none⟩ v) :=
 ⟨h.bel.setCell (p:=⟨g,i,none⟩) (by have:=h.lo;show w.heap.size<=g;omega) v,h.res.far (by have:=h.lo;show ¬w.heap.size+1=g;omega) v,h.y.aA i v,h.lo⟩
theorem DT.of{w W V:World}{cs ds:Array Value}(h:DI w cs W)(e:V=W.alloc (.cells ds 258)):DT w W.heap.size ds V:=by
 subst e;have hb:=(Below.refl W.heap.size W).alloc (xB _) (.cells ds 258);exact⟨h.bel.trans (hb.mono h.bel.size),h.res.below hb h.res.lt,Bk.new W _ ds,h.res.lt⟩
end Cd
theorem Gi(q:Cd.Q4)(bb:ByteArray)(hb:bb.size<=1000000)(vv:Cd.Q1)(z p B:Nat)(v:List Vl.Node)(w:World)(hrow:Vl.bT w (some B) (.slice vv.a vv.n vv.c) v)(hl:v.length<4096)(hz:z<=4096)(hB:B<=w.heap.size)(hp:p<=bb.size) :
  Calls Tryz.prog 223 #[.agg (Cd.stC q bb vv z p 0),.int .i64 (p:Nat)] w (Cd.PtE q bb B w (Cd.uH bb.data.toList 4 ⟨p,v,z⟩)):=by
 have hdl:Cd.uH bb.data.toList 4 ⟨p,v,z⟩=match Cd.num bb.data.toList p with
  | .error e=>.error e
  | .ok r=>Cd.BO bb.data.toList ⟨p,v,z⟩ r:=rfl
 obtain⟨D,HD⟩:∃ D,Hid (Cd.uH bb.data.toList 4 ⟨p,v,z⟩=D):=⟨_,hid rfl⟩;rw[HD.out];rw[HD.out]at hdl;have KD:=hid (λW=>tX q bb hb vv z p 0 hp W);have HBL:Hid (bb.data.toList.length=bb.size):=hid (by simp);have HR:=hid hrow;have hnm:=λ(u j:Nat) (h:Cd.num bb.data.toList p=.ok (u,j))=>Cd.uQ h
 obtain⟨N,HN⟩:∃ N,Hid (Cd.num bb.data.toList p=N):=⟨_,hid rfl⟩;rw[HN.out]at KD hdl;have HNM:=hid (λ(u j:Nat) (h:N=.ok (u,j))=>hnm u j (HN.out.trans h));have HER:=hid (λ(r:Nat × Nat) (h:N=.error r)=>Cd.vw (HN.out.trans h));have HDL:=hid hdl;clear hrow hnm hdl HD HN;go_enter Tryz.func223,Tryz.ntmps223;go_upto_region 1 with(fail)
 refine aj (λV hV=>?_);have HI:=hid (Cd.DI.start hV);clear hV;have hL:=Sg.bk HI.out.box;go_wp2_with(refine wpList_load_row rfl _ _ rfl _ rfl _ _ _ _ hL Tryz.underlying258 rfl (by kernel_rfl) ?_);refine(KD.out _).mono ?_;rintro en W2⟨hen,hb2⟩;have HI2:=hid (HI.out.below hb2);clear hb2 hL HI KD;match N,hen,HNM,HER,HDL with
 | .error r,hen,HNM,HER,HDL =>
  obtain⟨pp,ee⟩:=r;obtain rfl:=hen;have HE:Hid (D=.error (pp,ee)):=hid HDL.out;have hee:ee≠0:=HER.out (pp,ee) rfl;have HEE:=hid hee;have t1:((ee:Int) != 0)=true:=by rw[bne_iff_ne];omega
  simp only;go_upto_region 2 with(fail)
  refine aj (λV3 hV=>?_);have HT:=hid (Cd.DT.of HI2.out hV);clear hV HNM HER HDL hee;have c8:=HT.out.y.cell 8;simp only[List.getElem?_toArray,List.getElem?_cons_zero,List.getElem?_cons_succ]at c8;have hL:=Sg.bk HT.out.y;have hQ:=Sg.bk HT.out.res;go_wp2_with(first|(refine wpList_load_row rfl _ _ rfl _ rfl _ _ _ _ hL Tryz.underlying258 rfl (by kernel_rfl) ?_)|(refine wpList_store_row rfl _ _ _ rfl _ _ rfl rfl _ _ hQ (by kernel_rfl) (by rfl) (by simp[Value.oneCell']) ?_));obtain rfl:=HE.out;exact Sg.dW rfl _ rfl _ _ _ (HT.out.res.row _) Tryz.underlying258 rfl (by kernel_rfl) rfl ⟨vv,z,rfl,HEE.out,Cd.On.below (aK HT.out.bel (by omega) _) hB⟩
 | .ok r,hen,HNM,HER,HDL =>
  obtain⟨u,pp⟩:=r;obtain rfl:=hen;obtain⟨hu,-,hlt,hpp⟩:=HNM.out u pp rfl;rw[HBL.out]at hpp;have hdt:D=Cd.BO bb.data.toList ⟨p,v,z⟩ (u,pp):=HDL.out;unfold Cd.BO at hdt;simp only[HBL.out]at hdt;have HDT:=hid hdt;simp only;go_upto_region 2 with(fail)
  refine aj (λV3 hV=>?_);have HT:=hid (Cd.DT.of HI2.out hV);have HRV:=hid (Vl.bT.below HR.out HT.out.bel);clear hV HNM HER HDL hdt;obtain⟨g,Hg⟩:∃ g,Hid (W2.heap.size=g):=⟨_,hid rfl⟩;rw[Hg.out]at HT ⊢;clear Hg;have c3:=HT.out.y.cell 6;have c4:=HT.out.y.cell 4;have c7:=HT.out.y.cell 7;have c8:=HT.out.y.cell 8;have f3:=HT.out.y.frozen 6;have f7:=HT.out.y.frozen 7;simp only[List.getElem?_toArray,List.getElem?_cons_zero,List.getElem?_cons_succ]at c3 c4 c7 c8;try simp only[xY]at c8
  by_cases hlong:4096<z+u
  ·have HE:Hid (D=.error (p,3)):=hid (by rw[HDT.out,if_pos hlong])
   obtain rfl:=HE.out;by_cases h1:4096<u
   ·have t1:(4096:Int)<(u:Int):=by omega
    have hL:=Sg.bk HT.out.y;go_wp2_with(refine wpList_load_row rfl _ _ rfl _ rfl _ _ _ _ hL Tryz.underlying258 rfl (by kernel_rfl) ?_);refine(gy q bb vv z pp 0 p 3 _).mono ?_;rintro en W3⟨rfl,hb3⟩;have HT2:=hid (HT.out.below hb3);clear hb3 hL c3 c4 c7 c8 f3 f7;have hQ:=Sg.bk HT2.out.res;go_wp2_with(refine wpList_store_row rfl _ _ _ rfl _ _ rfl rfl _ _ hQ (by kernel_rfl) (by rfl) (by simp[Value.oneCell']) ?_);exact Sg.dW rfl _ rfl _ _ _ (HT2.out.res.row _) Tryz.underlying258 rfl (by kernel_rfl) rfl ⟨vv,z,rfl,(show(3:Nat)≠0 by decide),Cd.On.below (aK HT2.out.bel (by omega) _) hB⟩
   ·have t1:¬(4096:Int)<(u:Int):=by omega
    have w1:IntKind.i64.wrap (u:Int)=(u:Int):=by rw[IntKind.wrap_i64];omega
    have w2:IntKind.i64.wrap ((z:Int)+(u:Int))=(z:Int)+(u:Int):=by rw[IntKind.wrap_i64];omega
    have t2:(4096:Int)<(z:Int)+(u:Int):=by omega
    have hL:=Sg.bk HT.out.y;go_wp2_with(refine wpList_load_row rfl _ _ rfl _ rfl _ _ _ _ hL Tryz.underlying258 rfl (by kernel_rfl) ?_);refine(gy q bb vv z pp 0 p 3 _).mono ?_;rintro en W3⟨rfl,hb3⟩;have HT2:=hid (HT.out.below hb3);clear hb3 hL c3 c4 c7 c8 f3 f7;have hQ:=Sg.bk HT2.out.res;go_wp2_with(refine wpList_store_row rfl _ _ _ rfl _ _ rfl rfl _ _ hQ (by kernel_rfl) (by rfl) (by simp[Value.oneCell']) ?_);exact Sg.dW rfl _ rfl _ _ _ (HT2.out.res.row _) Tryz.underlying258 rfl (by kernel_rfl) rfl ⟨vv,z,rfl,(show(3:Nat)≠0 by decide),Cd.On.below (aK HT2.out.bel (by omega) _) hB⟩
  have t1:¬(4096:Int)<(u:Int):=by omega
  have w1:IntKind.i64.wrap (u:Int)=(u:Int):=by rw[IntKind.wrap_i64];omega
  have w2:IntKind.i64.wrap ((z:Int)+(u:Int))=((z+u:Nat):Int):=by rw[IntKind.wrap_i64];omega
  have t2:¬(4096:Int)<((z+u:Nat):Int):=by omega
  have w3:IntKind.i64.wrap ((bb.size:Int) - (pp:Int))=(bb.size:Int) - (pp:Int):=by rw[IntKind.wrap_i64];omega
  by_cases hshort:bb.size<pp+u
  ·have HE:Hid (D=.error (bb.size,160)):=hid (by rw[HDT.out,if_neg hlong,if_pos hshort])
   obtain rfl:=HE.out;have t3:(bb.size:Int) - (pp:Int)<(u:Int):=by omega
   have hL:=Sg.bk HT.out.y;go_wp2_with(refine wpList_load_row rfl _ _ rfl _ rfl _ _ _ _ hL Tryz.underlying258 rfl (by kernel_rfl) ?_);refine(gy q bb vv z pp 0 bb.size 160 _).mono ?_;rintro en W3⟨rfl,hb3⟩;have HT2:=hid (HT.out.below hb3);clear hb3 hL c3 c4 c7 c8 f3 f7;have hQ:=Sg.bk HT2.out.res;go_wp2_with(refine wpList_store_row rfl _ _ _ rfl _ _ rfl rfl _ _ hQ (by kernel_rfl) (by rfl) (by simp[Value.oneCell']) ?_);exact Sg.dW rfl _ rfl _ _ _ (HT2.out.res.row _) Tryz.underlying258 rfl (by kernel_rfl) rfl ⟨vv,z,rfl,(show(160:Nat)≠0 by decide),Cd.On.below (aK HT2.out.bel (by omega) _) hB⟩
  have t3:¬(bb.size:Int) - (pp:Int)<(u:Int):=by omega
  obtain⟨pe,hpe⟩:∃ pe,pp+u=pe:=⟨_,rfl⟩;obtain⟨ze,hze⟩:∃ ze,z+u=ze:=⟨_,rfl⟩;have w4:IntKind.i64.wrap ((pp:Int)+(u:Int))=(pe:Int):=by rw[IntKind.wrap_i64];omega
  have w5:IntKind.i64.wrap ((z:Int)+(u:Int))=(ze:Int):=by rw[IntKind.wrap_i64];omega
  have t4:¬(4096:Int)<(ze:Int):=by omega
  have p0:(0:Int)<=(pp:Int):=by omega
  have p1:(pp:Int)<=(pe:Int):=by omega
  have p2:(pe:Int)<=(bb.size:Int):=by omega
  have hpb:pe<=bb.size:=by omega
  have hzb:ze<=4096:=by omega
  have HX:Hid (bb.extract pp pe=Cd.uI bb.data.toList pp u):=hid (by
   subst hpe;unfold Cd.uI;apply ByteArray.ext;apply Array.ext';simp)
  have HE:Hid (D=.ok ⟨pe,v++[⟨4,0,Cd.uI bb.data.toList pp u,0⟩],ze⟩):=hid (by rw[HDT.out,if_neg hlong,if_neg hshort,<-hpe,<-hze];rfl);obtain rfl:=HE.out;clear w2 t2 hpe hze hlong hshort HE HDT;go_upto_region 9 with(fail)
  rw[HX.out];generalize Cd.uI bb.data.toList pp u=X at *;go_upto_region 11 with(fail)
  refine aj (λV4 hV=>?_);have HT4:Hid (Cd.DT w g (Cd.stC q bb vv ze pe 0) V4):=hid (by rw[hV];exact(HT.out.set 7 (.int .i64 (pe:Int))).set 6 (.int .i64 (ze:Int)));have HR4:Hid (Vl.bT V4 (some B) (.slice vv.a vv.n vv.c) v):=hid (by rw[hV];exact Cd.pq (Cd.pq HRV.out HT.out.y (by decide) 7 _) (HT.out.set 7 (.int .i64 (pe:Int))).y (by decide) 6 _);have hg4:=HT4.out.bel.size;clear hV c3 c4 c7 c8 f3 f7 HT HRV HX;have hL:=Sg.bk HT4.out.y;go_wp2_with(refine wpList_load_row rfl _ _ rfl _ rfl _ _ _ _ hL Tryz.underlying258 rfl (by kernel_rfl) ?_);refine(jY q bb vv ze pe 0 B v ⟨4,0,X,0⟩ _ HR4.out (by omega) (by omega)).mono ?_;rintro en W5⟨v5,rfl,hr5,ho5⟩;have hres:Bk W5 (w.heap.size+1) 258 Cd.st0:=ho5.only.bk HT4.out.res (by decide);have hon:Cd.On B w W5:=(Cd.On.below HT4.out.bel hB).trans ho5;have sN:=hid hres;have HON:=hid hon;have HR5:=hid hr5;clear hL hres hon hr5 ho5 HT4 HR4;have hQ:=Sg.bk sN.out;go_wp2_with(refine wpList_store_row rfl _ _ _ rfl _ _ rfl rfl _ _ hQ (by kernel_rfl) (by rfl) (by simp[Value.oneCell']) ?_);exact Sg.dW rfl _ rfl _ _ _ (sN.out.row _) Tryz.underlying258 rfl (by kernel_rfl) rfl ⟨⟨v5,rfl,Cd.gY HR5.out sN.out (by decide) _,HON.out.row hB (by omega) _⟩,⟨hpb,by show(v++[_]).length<=4096;rw[xI];simp only[xJ,xO];omega,hzb⟩⟩
namespace Cd
open Id Chk Vl Ev
theorem sW{B:Option Nat}{g7 dJ n c:Nat}{w:World}{x:Srt}{t:List Srt}(h:bG w B (.slice (some ⟨g7,dJ,none⟩) n c) (x::t)):w.cell? ⟨g7,dJ,none⟩=some (.int .u8 x.kind)/\w.cell? ⟨g7,dJ+1,none⟩=some (.string x.name):=by
 obtain⟨g',off',cs,e0,-,e1,hc⟩:=ah.get h (i:=0) (by simp) (by omega);injection e0 with e0
 injection e0 with e2 e3
 subst e2 e3;unfold Id.gU Id.Srt.cells at e1;simp only[List.getElem_cons_zero]at e1;subst e1;have a0:=hc 0 _ rfl;have a1:=hc 1 _ rfl;simp only[Nat.zero_mul,xK]at a0 a1;exact⟨a0,a1⟩
theorem Fit.put{bb:ByteArray}{p z:Nat}{v:List Vl.Node}{nd:Vl.Node}(h1:p<=bb.size)(h2:v.length<4096)(h3:z<=4096):Fit bb ⟨p,v++[nd],z⟩:=⟨h1,by show(v++[nd]).length<=4096;rw[xI];simp only[xJ,xO];omega,h3⟩
structure PS(B:Nat)(w:World)(g:Nat)(cs:Array Value)(W:World):Prop where
 base:B<=w.heap.size
 on:On B w W
 res:Bk W (w.heap.size+1) 258 st0
 y:Bk W g 258 cs
 lo:w.heap.size<=g
 ne:w.heap.size+1≠g
section
variable {B g : Nat} {w W W' : World} {cs ds : Array Value}
theorem PS.big(h:PS B w g cs W):B<=W.heap.size:=xM h.base h.on.bel.size
theorem PS.go(h:PS B w g cs W)(k:On B W W'):PS B w g cs W':=⟨h.base,h.on.trans k,k.only.bk h.res (by decide),k.only.bk h.y (by decide),h.lo,h.ne⟩
theorem PS.below(h:PS B w g cs W)(k:Below W.heap.size W W'):PS B w g cs W':=h.go (On.below k h.big)
theorem PS.set(h:PS B w g cs W)(i:Nat)(v:Value):PS B w g (cs.setIfInBounds i v) (W.setCell ⟨g,i,none⟩ v) :=
 ⟨h.base,h.on.set h.base h.lo v,h.res.far h.ne v,h.y.aA i v,h.lo,h.ne⟩
theorem PS.row(h:PS B w g cs W)(ds:Array Value):PS B w g ds (W.setRow g ds) :=
 ⟨h.base,h.on.row h.base h.lo ds,h.res.jK h.ne ds,h.y.row ds,h.lo,h.ne⟩
theorem PS.new(h:PS B w g cs W)(e:W'=W.alloc (.cells ds 258)):PS B w W.heap.size ds W':=by
 subst e;have hb:=(Below.refl W.heap.size W).alloc (xB _) (.cells ds 258);have h2:=h.below hb;exact⟨h.base,h2.on,h2.res,Bk.new W _ ds,h.on.bel.size,by have:=h.res.lt;omega⟩
theorem PS.start(hB:B<=w.heap.size)(e:W=(w.alloc (.cells cs 258)).alloc (.cells st0 258)):PS B w w.heap.size cs W:=by
 have h:=DI.start e;exact⟨hB,On.below h.bel hB,h.res,h.box,xB _,by omega⟩
theorem PS.out(h:PS B w g cs W)(ds:Array Value):On B w (W.setRow (w.heap.size+1) ds):=h.on.row h.base (by omega) ds
end
theorem EX(q:Q4)(bb:ByteArray)(vv:Q1)(z p e:Nat)(j:Nat)(v:Value)(h:(#[.string q.nm,.slice q.a1 q.n1 q.c1,.slice q.a2 q.n2 q.c2,.slice q.a3 q.n3 q.c3]:Array Value).toList[j]?=some v):(stC q bb vv z p e)[0+j]?=some v:=by
 rcases j with _|_|_|_|j
 ·exact h
 ·exact h
 ·exact h
 ·exact h
 ·simp at h
structure PV(B:Nat)(w:World)(g:Nat)(q:Q4)(bb:ByteArray)(vv:Q1)(z p e:Nat)(v:List Vl.Node)(W:World):Prop where
 ps:PS B w g (stC q bb vv z p e) W
 val:bT W (some B) (.slice vv.a vv.n vv.c) v
theorem PV.below{B g z p e:Nat}{w W W':World}{q:Q4}{bb:ByteArray}{vv:Q1}{v:List Vl.Node}(h:PV B w g q bb vv z p e v W)(k:Below W.heap.size W W'):PV B w g q bb vv z p e v W':=⟨h.ps.below k,Vl.bT.below h.val k⟩
theorem PV.other{B g z p e h:Nat}{w W:World}{q:Q4}{bb:ByteArray}{vv:Q1}{v:List Vl.Node}{cs:Array Value}{T:TypeId}(k:PV B w g q bb vv z p e v W)(hh:w.heap.size<=h)(hb:Bk W h T cs)(h1:w.heap.size+1≠h)(h2:g≠h)(hT:T≠92)(ds:Array Value):PV B w g q bb vv z p e v (W.setRow h ds) :=
 ⟨⟨k.ps.base,k.ps.on.row k.ps.base hh ds,k.ps.res.jK h1 ds,k.ps.y.jK h2 ds,k.ps.lo,k.ps.ne⟩,gY k.val hb hT ds⟩
def Acc(q:Q4)(bb:ByteArray)(B:Nat)(w:World)(g:Nat)(R:Rs S)(F:S->Rs S)(W:World):Prop :=
 (∃(x:S)(vv:Q1),F x=R/\Fit bb x/\bT W (some B) (.slice vv.a vv.n vv.c) x.v/\PS B w g (stC q bb vv x.sz x.at_ 0) W)∨
 (∃(r:Nat × Nat)(vv:Q1)(z:Nat),R=.error r/\r.2≠0/\PS B w g (stC q bb vv z r.1 r.2) W)
abbrev qK(q:Q4):Value:=.agg #[.string q.nm,.slice q.a1 q.n1 q.c1,.slice q.a2 q.n2 q.c2,.slice q.a3 q.n3 q.c3]
def og(s:Sch)(q:Q4)(bb:ByteArray)(w0:World)(k:Nat):Prop:=∀(tv:Value)(t:List Srt)(x:S)(vv:Q1)(w:World),okT s t=true->t.length<=12->Fit bb x->Below w0.heap.size w0 w->bT w (some w0.heap.size) (.slice vv.a vv.n vv.c) x.v->bG w0 none tv t ->
 Calls Tryz.prog 192 #[.agg (stC q bb vv x.sz x.at_ 0),tv,.int .i64 (12 - (k:Int))] w (PtE q bb w0.heap.size w (aY s bb.data.toList k t x))
end Cd
theorem Je(s:Id.Sch)(q:Cd.Q4)(bb:ByteArray)(w0:World):Cd.og s q bb w0 0:=by
 intro tv t x vv w ht h12 hx hb0 hrow hst;obtain⟨p,v,z⟩:=x;have e0:(12 - ((0:Nat):Int))=12:=by omega
 rw[e0];have HE:Cd.aY s bb.data.toList 0 t ⟨p,v,z⟩=.error (p,151):=rfl;rw[HE];obtain⟨A,n,c,rfl⟩:=ah.is hst;have hB:=hb0.size;clear hx hb0 hrow hst ht h12 HE e0;go_enter Tryz.func192,Tryz.ntmps192;go_upto_region 1 with(fail)
 refine aj (λV hV=>?_);have HP:=hid (Cd.PS.start hB hV);clear hV;(have c4:=HP.out.y.cell 4;have c5:=HP.out.y.cell 5;have c6:=HP.out.y.cell 6;have c7:=HP.out.y.cell 7;have c8:=HP.out.y.cell 8;have f6:=HP.out.y.frozen 6;simp only[List.getElem?_toArray,List.getElem?_cons_zero,List.getElem?_cons_succ]at c4 c5 c6 c7 c8)
 (have hL:=Sg.bk HP.out.y;go_wp2_with(refine wpList_load_row rfl _ _ rfl _ rfl _ _ _ _ hL Tryz.underlying258 rfl (by kernel_rfl) ?_);refine(gy q bb vv z p 0 p 151 _).mono ?_;rintro en W3⟨rfl,hb3⟩;have HF:=hid (HP.out.below hb3);clear hb3 hL;have hQ:=Sg.bk HF.out.res;go_wp2_with(refine wpList_store_row rfl _ _ _ rfl _ _ rfl rfl _ _ hQ (by kernel_rfl) (by rfl) (by simp[Value.oneCell']) ?_);exact Sg.dW rfl _ rfl _ _ _ (HF.out.res.row _) Tryz.underlying258 rfl (by kernel_rfl) rfl ⟨vv,z,rfl,(show(151:Nat)≠0 by decide),HF.out.out _⟩)
