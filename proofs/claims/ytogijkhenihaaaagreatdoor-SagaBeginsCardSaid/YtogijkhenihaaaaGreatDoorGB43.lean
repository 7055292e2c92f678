import Derived.Test.YtogijkhenihaaaaGreatDoorGB42
set_option linter.all false
set_option maxRecDepth 100000
set_option maxHeartbeats 0
namespace Go.Proofs.YtogijkhenihaaaaGreatDoor
open Lib (hid)
open Go.BigFrame Go.RowKit
namespace Sg
open Id Chk Ev Sd
open Classical in
noncomputable def qB(x:Sch)(r:Run):Bool:=decide (Rt gW x r)
open Classical in
theorem LP{x:Sch}{r:Run}(h:¬Rt gW x r):qB x r=false:=by unfold qB;exact decide_eq_false h
open Classical in
theorem Ai{x:Sch}{r:Run}(h:Rt gW x r):qB x r=true:=by unfold qB;exact decide_eq_true h
theorem jM{P:Program}{ops:Array Oper}{rest:List Oper}{o:Oper}{a:Act}{w:World}{Q:Exit->Act->World->Prop}(hgd:Region.wanted o (yielded ops a.tmps)=true)(ty:TypeId)(x:Operand)(ho:o.op=.load ty x)
  (g:Nat) (hx:a.eval x=.pointer (some ⟨g,0,none⟩)) (t:TypeId) (cs:Array Value) (d:TypeDesc) (hg:Bk w g t cs)
  (hu:P.underlying ty=some d) (hd:(match d with| .struct _| .array _ _=>true|_=>false)=true) (hi:(P.info? ty).map (·.size)=some cs.size)
  (h:wpList P ops Q rest (a.put o.dst (.agg cs)) w):wpList P ops Q (o::rest) a w :=
 wpList_step λK hK=>by
  rw[if_pos hgd];exact wp_load_row ty x ho g hx t cs (0,0) d hg hu hd hi (hK _ _ h)
theorem yM{x:Sch}(hF:Fine x)(g:ByteArray):(steps x g).1<=1000:=by
 unfold steps;split
 ·exact Nat.zero_le _
 ·unfold sag
  cases h:gq x g with
  |none=>exact Nat.zero_le _
  |some s=>exact xM (hF.sa s (List.mem_of_find?_eq_some h)).2.1 (by decide)
structure Bx(w V:World)(S R:Array Value):Prop where
 bel:Below w.heap.size w V
 s:Bk V w.heap.size 28 S
 r:Bk V (w.heap.size+1) 54 R
theorem Bx.below{w V V':World}{S R:Array Value}(h:Bx w V S R)(hb:Below V.heap.size V V'):Bx w V' S R:=⟨h.bel.trans (hb.mono h.bel.size),h.s.below hb h.s.lt,h.r.below hb h.r.lt⟩
theorem Bx.start(w:World)(S R:Array Value):Bx w ((w.alloc (.cells S 28)).alloc (.cells R 54)) S R :=
 ⟨((Below.refl _ _).alloc (xB _) _).alloc (by simp) _,(Bk.new w _ _).alloc _,by have h:=Bk.new (w.alloc (.cells S 28)) 54 R;rw[World.size_alloc]at h;exact h⟩
end Sg
theorem yP(sv:Value)(x:Id.Sch)(hF:Chk.Fine x)(r:Sg.Run)(hIx:r.id.size<=100000)(hag:r.arg.size<=1000000)(w:World)(hk:Tk.KW w)(hv:Id.ay w none sv x) :
  Calls Tryz.prog 31 #[sv,r.val] w λe w'=>e=.returned (.bool (Sg.qB x r))/\Below w.heap.size w w':=by
 obtain⟨R,HR⟩:∃ R,Hid (Sg.qB x r=R):=⟨_,hid rfl⟩;rw[HR.out];have HF:=hid hF;have HKW:=hid hk;have HV:=hid hv;obtain⟨A1,n1,c1,A2,n2,c2,A3,n3,c3,rfl,-,-,-⟩:=hv;clear hk hF;obtain⟨i,sg,ag,a,p,t,st,y,va⟩:=r;obtain⟨N,HN⟩:∃ N,Hid ((Sd.steps x sg).1=N):=⟨_,hid rfl⟩;obtain⟨E,HE0⟩:∃ N,Hid ((Sd.steps x sg).2=N):=⟨_,hid rfl⟩;obtain⟨B,HI⟩:∃ N,Hid (Sd.idL i.data.toList=N):=⟨_,hid rfl⟩;obtain⟨AE,HAE⟩:∃ N,Hid (Sg.gW x sg ag=N):=⟨_,hid rfl⟩;have HBA:=hid (show ∀ h:Sg.Rt Sg.gW x ⟨i,sg,ag,a,p,t,st,y,va⟩,E=0/\B=true/\AE=0/\0<=a/\a<(N:Int)/\0<=t/\t<=29/\0<=y/\y<=999/\va.size<=4096 from λh=>⟨HE0.out ▸ h.st,HI.out ▸ h.vI,HAE.out ▸ h.arg,h.a0,HN.out ▸ h.an,h.t0,h.t29,h.w0,h.Bo,h.val⟩);have HNO:=hid (show ¬Sg.Rt Sg.gW x ⟨i,sg,ag,a,p,t,st,y,va⟩->R=false from λh=>HR.out.symm.trans (Sg.LP h));have fJ:=hid (show Sg.Rt Sg.gW x ⟨i,sg,ag,a,p,t,st,y,va⟩->R=true from λh=>HR.out.symm.trans (Sg.Ai h));have HNL:Hid (N<=1000):=hid (by rw[<-HN.out];exact Sg.yM HF.out sg);unfold Sg.Run.val Sg.Run.cells;simp only at hIx hag;go_enter Tryz.func31,Tryz.ntmps31;go_upto_region 1 with(fail)
 refine aj (λV hV=>?_);have hX:Sg.Bx w V #[.string x.name,.slice A1 n1 c1,.slice A2 n2 c2,.slice A3 n3 c3] #[.string i,.string sg,.string ag,.int .i64 a,.int .u8 (p:Nat),.int .i64 t,.bool st,.int .i64 y,.string va]:=by rw[hV];exact Sg.Bx.start w _ _
 clear hV;obtain⟨⟨q0,q1,q2,q3⟩,-⟩:=hX.s.k4;have x1:=hX.r.cell 1;simp only[List.getElem?_toArray,List.getElem?_cons_zero,List.getElem?_cons_succ]at x1;go_wp2_with fail;refine(zX _ x HF.out sg _ (HKW.out.below hX.bel) (Id.ay.below hX.bel HV.out)).mono ?_;rw[HN.out,HE0.out];rintro e W1⟨rfl,hb⟩;have hX2:=hX.below hb;clear hX hb;clear q0 q1 q2 q3 x1;have hX:=hX2;clear hX2;go_upto_region 2 with(fail)
 by_cases hE:E=0
 case neg =>
  have t1:((E:Int) != 0)=true:=by rw[bne_iff_ne];omega
  have t2:¬(E:Int)=0:=by omega
  obtain rfl:=HNO.out (λh=>hE (HBA.out h).1);go_wp2_with fail;go_ret;exact⟨rfl,hX.bel⟩
 subst hE;obtain⟨⟨q0,q1,q2,q3⟩,-⟩:=hX.s.k4;have x0:=hX.r.cell 0;have x1:=hX.r.cell 1;have x2:=hX.r.cell 2;simp only[List.getElem?_toArray,List.getElem?_cons_zero,List.getElem?_cons_succ]at x0 x1 x2;go_wp2_with fail;refine(BA i hIx _).mono ?_;rw[HI.out];rintro e W2⟨rfl,hb⟩;have hX2:=hX.below hb;clear hX hb;clear q0 q1 q2 q3 x0 x1 x2;have hX:=hX2;clear hX2;cases B with
 |false =>
  obtain rfl:=HNO.out (λh=>(by have:=(HBA.out h).2.1;cases this));go_wp2_with fail;go_ret;exact⟨rfl,hX.bel⟩
 |true =>
 obtain⟨⟨q0,q1,q2,q3⟩,-⟩:=hX.s.k4;have x0:=hX.r.cell 0;have x1:=hX.r.cell 1;have x2:=hX.r.cell 2;simp only[List.getElem?_toArray,List.getElem?_cons_zero,List.getElem?_cons_succ]at x0 x1 x2;go_wp2_with fail;refine(Cm _ x HF.out sg ag hag _ (HKW.out.below hX.bel) (Id.ay.below hX.bel HV.out)).mono ?_;rw[HAE.out];rintro e W3⟨rfl,hb⟩;have hX2:=hX.below hb;clear hX hb;clear q0 q1 q2 q3 x0 x1 x2;have hX:=hX2;clear hX2;by_cases hE:AE=0
 case neg =>
  have t1:((AE:Int) != 0)=true:=by rw[bne_iff_ne];omega
  have t2:¬(AE:Int)=0:=by omega
  obtain rfl:=HNO.out (λh=>hE (HBA.out h).2.2.1);go_wp2_with fail;go_ret;exact⟨rfl,hX.bel⟩
 subst hE;obtain⟨⟨q0,q1,q2,q3⟩,-⟩:=hX.s.k4;have x3:=hX.r.cell 3;have x5:=hX.r.cell 5;have x7:=hX.r.cell 7;have x8:=hX.r.cell 8;simp only[List.getElem?_toArray,List.getElem?_cons_zero,List.getElem?_cons_succ]at x3 x5 x7 x8;go_upto_region 4 with(fail)
 by_cases hc0:a<0
 case pos =>
  obtain rfl:=HNO.out (λh=>(by have h2:=(HBA.out h).2.2.2;omega));go_wp2_with fail;go_ret;exact⟨rfl,hX.bel⟩
 by_cases hc1:(N:Int)<=a
 case pos =>
  obtain rfl:=HNO.out (λh=>(by have h2:=(HBA.out h).2.2.2;omega));go_wp2_with fail;go_ret;exact⟨rfl,hX.bel⟩
 by_cases hc2:t<0
 case pos =>
  obtain rfl:=HNO.out (λh=>(by have h2:=(HBA.out h).2.2.2;omega));go_wp2_with fail;go_ret;exact⟨rfl,hX.bel⟩
 by_cases hc3:29<t
 case pos =>
  obtain rfl:=HNO.out (λh=>(by have h2:=(HBA.out h).2.2.2;omega));go_wp2_with fail;go_ret;exact⟨rfl,hX.bel⟩
 by_cases hc4:y<0
 case pos =>
  obtain rfl:=HNO.out (λh=>(by have h2:=(HBA.out h).2.2.2;omega));go_wp2_with fail;go_ret;exact⟨rfl,hX.bel⟩
 by_cases hc5:999<y
 case pos =>
  obtain rfl:=HNO.out (λh=>(by have h2:=(HBA.out h).2.2.2;omega));go_wp2_with fail;go_ret;exact⟨rfl,hX.bel⟩
 by_cases hc6:4096<va.size
 case pos =>
  have hi6:(4096:Int)<(va.size:Int):=by omega
  obtain rfl:=HNO.out (λh=>(by have h2:=(HBA.out h).2.2.2;omega));go_wp2_with fail;go_ret;exact⟨rfl,hX.bel⟩
 have TR:¬(4096:Int)<(va.size:Int):=by omega
 go_upto_region 6 with(fail)
 clear q0 q1 q2 q3 x3 x5 x7 x8;clear TR;by_cases hp1:p=1
 case pos =>
  subst hp1;obtain⟨⟨q0,q1,q2,q3⟩,-⟩:=hX.s.k4;have x3:=hX.r.cell 3;have x4:=hX.r.cell 4;have x5:=hX.r.cell 5;have x6:=hX.r.cell 6;have x7:=hX.r.cell 7;have x8:=hX.r.cell 8;simp only[List.getElem?_toArray,List.getElem?_cons_zero,List.getElem?_cons_succ]at x3 x4 x5 x6 x7 x8;have x4:_=some (Value.int .u8 1):=x4;by_cases hy:y=0
  case neg =>
   have t1:((y:Int) != 0)=true:=by rw[bne_iff_ne];omega
   obtain rfl:=HNO.out (λh=>hy (h.ph.1 rfl));go_wp2_with fail;go_ret;exact⟨rfl,hX.bel⟩
  have t1:((y:Int) != 0)=false:=by rw[bne_eq_false_iff_eq];exact hy
  by_cases ht:t=0
  case neg =>
   have t4:((t:Int)==0)=false:=by rw[xG];exact ht
   obtain rfl:=HNO.out (λh=>(by rcases h.tb with e|e|e;cases e;cases e;exact ht e));go_wp2_with fail;go_ret;exact⟨rfl,hX.bel⟩
  have t4:((t:Int)==0)=true:=by rw[beq_iff_eq];exact ht
  by_cases hva:va.toList.isEmpty=true
  case neg =>
   have OH:va.toList.isEmpty=false:=by simpa using hva
   cases st
   all_goals
    obtain rfl:=HNO.out (λh=>(by rcases h.vb with e|e;cases e;exact hva e));go_wp2_with fail;go_ret;exact⟨rfl,hX.bel⟩
  cases st
  all_goals
   obtain rfl:=fJ.out (⟨HE0.out,HI.out,HAE.out,by show 0<=a;omega,by show a<((Sd.steps x sg).1:Int);rw[HN.out];omega,by show 0<=t;omega,by show t<=29;omega,by show 0<=y;omega,by show y<=999;omega,by show va.size<=4096;omega,⟨λe=>hy,λe=>(by cases e),λe=>(by cases e),λe=>(by rcases e with e|e<;>cases e),(by show 1<=1;decide),(by show 1<=5;decide)⟩,.inr (.inr ht),.inl rfl,.inr hva⟩);go_wp2_with fail;go_ret;exact⟨rfl,hX.bel⟩
 by_cases hp3:p=3
 case pos =>
  subst hp3;obtain⟨⟨q0,q1,q2,q3⟩,-⟩:=hX.s.k4;have x3:=hX.r.cell 3;have x4:=hX.r.cell 4;have x5:=hX.r.cell 5;have x6:=hX.r.cell 6;have x7:=hX.r.cell 7;have x8:=hX.r.cell 8;simp only[List.getElem?_toArray,List.getElem?_cons_zero,List.getElem?_cons_succ]at x3 x4 x5 x6 x7 x8;have x4:_=some (Value.int .u8 3):=x4;by_cases hy:y=0
  case neg =>
   have t1:((y:Int) != 0)=true:=by rw[bne_iff_ne];omega
   obtain rfl:=HNO.out (λh=>hy (h.ph.2.1 rfl).1);go_wp2_with fail;go_ret;exact⟨rfl,hX.bel⟩
  have t1:((y:Int) != 0)=false:=by rw[bne_eq_false_iff_eq];exact hy
  have hw1:IntKind.i64.wrap ((N:Int) - 1)=(N:Int) - 1:=by have:=HNL.out;rw[IntKind.wrap_i64];omega
  by_cases ha:a=(N:Int) - 1
  case neg =>
   have t2:((a:Int) != (N:Int) - 1)=true:=by rw[bne_iff_ne];exact ha
   obtain rfl:=HNO.out (λh=>ha (by have h2:a=((Sd.steps x sg).1:Int) - 1:=(h.ph.2.1 rfl).2;rw[HN.out]at h2;exact h2));go_wp2_with fail;go_ret;exact⟨rfl,hX.bel⟩
  have t2:((a:Int) != (N:Int) - 1)=false:=by rw[bne_eq_false_iff_eq];exact ha
  by_cases ht:t=0
  case neg =>
   have t4:((t:Int)==0)=false:=by rw[xG];exact ht
   obtain rfl:=HNO.out (λh=>(by rcases h.tb with e|e|e;cases e;cases e;exact ht e));go_wp2_with fail;go_ret;exact⟨rfl,hX.bel⟩
  have t4:((t:Int)==0)=true:=by rw[beq_iff_eq];exact ht
  cases st with
  |true =>
   obtain rfl:=HNO.out (λh=>(by rcases h.sb with e|e<;>cases e));go_wp2_with fail;go_ret;exact⟨rfl,hX.bel⟩
  |false =>
  obtain rfl:=fJ.out (⟨HE0.out,HI.out,HAE.out,by show 0<=a;omega,by show a<((Sd.steps x sg).1:Int);rw[HN.out];omega,by show 0<=t;omega,by show t<=29;omega,by show 0<=y;omega,by show y<=999;omega,by show va.size<=4096;omega,⟨λe=>(by cases e),λe=>⟨hy,by show a=((Sd.steps x sg).1:Int) - 1;rw[HN.out];exact ha⟩,λe=>(by cases e),λe=>(by rcases e with e|e<;>cases e),(by show 1<=3;decide),(by show 3<=5;decide)⟩,.inr (.inr ht),.inr rfl,.inl rfl⟩);go_wp2_with fail;go_ret;exact⟨rfl,hX.bel⟩
 by_cases hp4:p=4
 case pos =>
  subst hp4;obtain⟨⟨q0,q1,q2,q3⟩,-⟩:=hX.s.k4;have x3:=hX.r.cell 3;have x4:=hX.r.cell 4;have x5:=hX.r.cell 5;have x6:=hX.r.cell 6;have x7:=hX.r.cell 7;have x8:=hX.r.cell 8;simp only[List.getElem?_toArray,List.getElem?_cons_zero,List.getElem?_cons_succ]at x3 x4 x5 x6 x7 x8;have x4:_=some (Value.int .u8 4):=x4;by_cases hy:y=0
  case pos =>
   have t1:((y:Int)==0)=true:=by rw[beq_iff_eq];exact hy
   obtain rfl:=HNO.out (λh=>(h.ph.2.2.1 rfl).1 hy);go_wp2_with fail;go_ret;exact⟨rfl,hX.bel⟩
  have t1:((y:Int)==0)=false:=by rw[xG];exact hy
  by_cases ha:a=0
  case neg =>
   have t2:((a:Int) != 0)=true:=by rw[bne_iff_ne];exact ha
   obtain rfl:=HNO.out (λh=>ha (h.ph.2.2.1 rfl).2);go_wp2_with fail;go_ret;exact⟨rfl,hX.bel⟩
  have t2:((a:Int) != 0)=false:=by rw[bne_eq_false_iff_eq];exact ha
  by_cases ht:t=0
  case neg =>
   have t4:((t:Int)==0)=false:=by rw[xG];exact ht
   obtain rfl:=HNO.out (λh=>(by rcases h.tb with e|e|e;cases e;cases e;exact ht e));go_wp2_with fail;go_ret;exact⟨rfl,hX.bel⟩
  have t4:((t:Int)==0)=true:=by rw[beq_iff_eq];exact ht
  cases st with
  |true =>
   obtain rfl:=HNO.out (λh=>(by rcases h.sb with e|e<;>cases e));go_wp2_with fail;go_ret;exact⟨rfl,hX.bel⟩
  |false =>
  by_cases hva:va.toList.isEmpty=true
  case neg =>
   have OH:va.toList.isEmpty=false:=by simpa using hva
   obtain rfl:=HNO.out (λh=>(by rcases h.vb with e|e;cases e;exact hva e));go_wp2_with fail;go_ret;exact⟨rfl,hX.bel⟩
  obtain rfl:=fJ.out (⟨HE0.out,HI.out,HAE.out,by show 0<=a;omega,by show a<((Sd.steps x sg).1:Int);rw[HN.out];omega,by show 0<=t;omega,by show t<=29;omega,by show 0<=y;omega,by show y<=999;omega,by show va.size<=4096;omega,⟨λe=>(by cases e),λe=>(by cases e),λe=>⟨hy,ha⟩,λe=>(by rcases e with e|e<;>cases e),(by show 1<=4;decide),(by show 4<=5;decide)⟩,.inr (.inr ht),.inr rfl,.inr hva⟩);go_wp2_with fail;go_ret;exact⟨rfl,hX.bel⟩
 by_cases hp2:p=2
 case pos =>
  subst hp2;obtain⟨⟨q0,q1,q2,q3⟩,-⟩:=hX.s.k4;have x3:=hX.r.cell 3;have x4:=hX.r.cell 4;have x5:=hX.r.cell 5;have x6:=hX.r.cell 6;have x7:=hX.r.cell 7;have x8:=hX.r.cell 8;simp only[List.getElem?_toArray,List.getElem?_cons_zero,List.getElem?_cons_succ]at x3 x4 x5 x6 x7 x8;have x4:_=some (Value.int .u8 2):=x4;have OO:=x4;clear x3 x4 x5 x6 x7 x8 OO;have x0:=hX.r.cell 0;have x1:=hX.r.cell 1;have x3:=hX.r.cell 3;have x4:=hX.r.cell 4;have x5:=hX.r.cell 5;have x6:=hX.r.cell 6;have x7:=hX.r.cell 7;have x8:=hX.r.cell 8;simp only[List.getElem?_toArray,List.getElem?_cons_zero,List.getElem?_cons_succ]at x0 x1 x3 x4 x5 x6 x7 x8;have x4:_=some (Value.int .u8 2):=x4;obtain⟨⟨⟨k0,k1,k2,k3,k4,k5,k6,k7,k8,k9⟩,CE⟩,HCE⟩:∃ G,Hid (Sd.call x sg i a true 0 ⟨#[]⟩=G):=⟨_,hid rfl⟩;have hco:=λW k v=>tH (.agg #[.string x.name,.slice A1 n1 c1,.slice A2 n2 c2,.slice A3 n3 c3]) x HF.out sg i hIx a true 0 ⟨#[]⟩ W k v
  simp only[HCE.out,Ev.Letter.val]at hco;have HCO:=hid hco;clear hco;have HUN:Hid (Sg.Es x ⟨i,sg,ag,a,2,t,st,y,va⟩=CE):=hid (by unfold Sg.Es;simp only;rw[HCE.out]);go_wp2_with fail;refine(HCO.out _ (HKW.out.below hX.bel) (Id.ay.below hX.bel HV.out)).mono ?_;rintro e W4⟨rfl,hb⟩;clear HCO;have hX2:=hX.below hb;clear hX hb;clear q0 q1 q2 q3 x0 x1 x3 x4 x5 x6 x7 x8;have hX:=hX2;clear hX2;go_upto_region 21 with(fail)
  refine aj (λV5 hV=>?_);obtain⟨hb,-,-⟩:=au hV;have hX2:=hX.below hb;clear hV hb hX;have hX:=hX2;clear hX2;obtain⟨⟨q0,q1,q2,q3⟩,-⟩:=hX.s.k4;have x3:=hX.r.cell 3;have x4:=hX.r.cell 4;have x5:=hX.r.cell 5;have x6:=hX.r.cell 6;have x7:=hX.r.cell 7;have x8:=hX.r.cell 8;simp only[List.getElem?_toArray,List.getElem?_cons_zero,List.getElem?_cons_succ]at x3 x4 x5 x6 x7 x8;have x4:_=some (Value.int .u8 2):=x4;by_cases hce:CE=0
  case neg =>
   have t1:((CE:Int) != 0)=true:=by rw[bne_iff_ne];omega
   have t2:¬(CE:Int)=0:=by omega
   obtain rfl:=HNO.out (λh=>hce (by have h2:=(h.ph.2.2.2.1 (.inl rfl)).1;rw[HUN.out]at h2;exact h2));go_wp2_with fail;go_ret;exact⟨rfl,hX.bel⟩
  subst hce;by_cases hy:y=0
  case pos =>
   have t1:((y:Int)==0)=true:=by rw[beq_iff_eq];exact hy
   obtain rfl:=HNO.out (λh=>(h.ph.2.2.2.1 (.inl rfl)).2 hy);go_wp2_with fail;go_ret;exact⟨rfl,hX.bel⟩
  have t1:((y:Int)==0)=false:=by rw[xG];exact hy
  cases st with
  |true =>
   obtain rfl:=HNO.out (λh=>(by rcases h.sb with e|e<;>cases e));go_wp2_with fail;go_ret;exact⟨rfl,hX.bel⟩
  |false =>
  by_cases hva:va.toList.isEmpty=true
  case neg =>
   have OH:va.toList.isEmpty=false:=by simpa using hva
   obtain rfl:=HNO.out (λh=>(by rcases h.vb with e|e;cases e;exact hva e));go_wp2_with fail;go_ret;exact⟨rfl,hX.bel⟩
  obtain rfl:=fJ.out (⟨HE0.out,HI.out,HAE.out,by show 0<=a;omega,by show a<((Sd.steps x sg).1:Int);rw[HN.out];omega,by show 0<=t;omega,by show t<=29;omega,by show 0<=y;omega,by show y<=999;omega,by show va.size<=4096;omega,⟨λe=>(by cases e),λe=>(by cases e),λe=>(by cases e),λe=>⟨HUN.out,hy⟩,(by show 1<=2;decide),(by show 2<=5;decide)⟩,.inl rfl,.inr rfl,.inr hva⟩);go_wp2_with fail;go_ret;exact⟨rfl,hX.bel⟩
 by_cases hp5:p=5
 case pos =>
  subst hp5;obtain⟨⟨q0,q1,q2,q3⟩,-⟩:=hX.s.k4;have x3:=hX.r.cell 3;have x4:=hX.r.cell 4;have x5:=hX.r.cell 5;have x6:=hX.r.cell 6;have x7:=hX.r.cell 7;have x8:=hX.r.cell 8;simp only[List.getElem?_toArray,List.getElem?_cons_zero,List.getElem?_cons_succ]at x3 x4 x5 x6 x7 x8;have x4:_=some (Value.int .u8 5):=x4;have OO:=x4;clear x3 x4 x5 x6 x7 x8 OO;have x0:=hX.r.cell 0;have x1:=hX.r.cell 1;have x3:=hX.r.cell 3;have x4:=hX.r.cell 4;have x5:=hX.r.cell 5;have x6:=hX.r.cell 6;have x7:=hX.r.cell 7;have x8:=hX.r.cell 8;simp only[List.getElem?_toArray,List.getElem?_cons_zero,List.getElem?_cons_succ]at x0 x1 x3 x4 x5 x6 x7 x8;have x4:_=some (Value.int .u8 5):=x4;obtain⟨⟨⟨k0,k1,k2,k3,k4,k5,k6,k7,k8,k9⟩,CE⟩,HCE⟩:∃ G,Hid (Sd.call x sg i a true 0 ⟨#[]⟩=G):=⟨_,hid rfl⟩;have hco:=λW k v=>tH (.agg #[.string x.name,.slice A1 n1 c1,.slice A2 n2 c2,.slice A3 n3 c3]) x HF.out sg i hIx a true 0 ⟨#[]⟩ W k v
  simp only[HCE.out,Ev.Letter.val]at hco;have HCO:=hid hco;clear hco;have HUN:Hid (Sg.Es x ⟨i,sg,ag,a,5,t,st,y,va⟩=CE):=hid (by unfold Sg.Es;simp only;rw[HCE.out]);go_wp2_with fail;refine(HCO.out _ (HKW.out.below hX.bel) (Id.ay.below hX.bel HV.out)).mono ?_;rintro e W4⟨rfl,hb⟩;clear HCO;have hX2:=hX.below hb;clear hX hb;clear q0 q1 q2 q3 x0 x1 x3 x4 x5 x6 x7 x8;have hX:=hX2;clear hX2;go_upto_region 21 with(fail)
  refine aj (λV5 hV=>?_);obtain⟨hb,-,-⟩:=au hV;have hX2:=hX.below hb;clear hV hb hX;have hX:=hX2;clear hX2;obtain⟨⟨q0,q1,q2,q3⟩,-⟩:=hX.s.k4;have x3:=hX.r.cell 3;have x4:=hX.r.cell 4;have x5:=hX.r.cell 5;have x6:=hX.r.cell 6;have x7:=hX.r.cell 7;have x8:=hX.r.cell 8;simp only[List.getElem?_toArray,List.getElem?_cons_zero,List.getElem?_cons_succ]at x3 x4 x5 x6 x7 x8;have x4:_=some (Value.int .u8 5):=x4;by_cases hce:CE=0
  case neg =>
   have t1:((CE:Int) != 0)=true:=by rw[bne_iff_ne];omega
   have t2:¬(CE:Int)=0:=by omega
   obtain rfl:=HNO.out (λh=>hce (by have h2:=(h.ph.2.2.2.1 (.inr rfl)).1;rw[HUN.out]at h2;exact h2));go_wp2_with fail;go_ret;exact⟨rfl,hX.bel⟩
  subst hce;by_cases hy:y=0
  case pos =>
   have t1:((y:Int)==0)=true:=by rw[beq_iff_eq];exact hy
   obtain rfl:=HNO.out (λh=>(h.ph.2.2.2.1 (.inr rfl)).2 hy);go_wp2_with fail;go_ret;exact⟨rfl,hX.bel⟩
  have t1:((y:Int)==0)=false:=by rw[xG];exact hy
  cases st with
  |true =>
   obtain rfl:=HNO.out (λh=>(by rcases h.sb with e|e<;>cases e));go_wp2_with fail;go_ret;exact⟨rfl,hX.bel⟩
  |false =>
  by_cases hva:va.toList.isEmpty=true
  case neg =>
   have OH:va.toList.isEmpty=false:=by simpa using hva
   obtain rfl:=HNO.out (λh=>(by rcases h.vb with e|e;cases e;exact hva e));go_wp2_with fail;go_ret;exact⟨rfl,hX.bel⟩
  obtain rfl:=fJ.out (⟨HE0.out,HI.out,HAE.out,by show 0<=a;omega,by show a<((Sd.steps x sg).1:Int);rw[HN.out];omega,by show 0<=t;omega,by show t<=29;omega,by show 0<=y;omega,by show y<=999;omega,by show va.size<=4096;omega,⟨λe=>(by cases e),λe=>(by cases e),λe=>(by cases e),λe=>⟨HUN.out,hy⟩,(by show 1<=5;decide),(by show 5<=5;decide)⟩,.inr (.inl rfl),.inr rfl,.inr hva⟩);go_wp2_with fail;go_ret;exact⟨rfl,hX.bel⟩
 obtain⟨⟨q0,q1,q2,q3⟩,-⟩:=hX.s.k4;have x3:=hX.r.cell 3;have x4:=hX.r.cell 4;have x5:=hX.r.cell 5;have x6:=hX.r.cell 6;have x7:=hX.r.cell 7;have x8:=hX.r.cell 8;simp only[List.getElem?_toArray,List.getElem?_cons_zero,List.getElem?_cons_succ]at x3 x4 x5 x6 x7 x8;have u1:¬(p:Int)=1:=by omega
 have u2:¬(p:Int)=2:=by omega
 have u3:¬(p:Int)=3:=by omega
 have u4:¬(p:Int)=4:=by omega
 have u5:¬(p:Int)=5:=by omega
 have v1:((p:Int)==1)=false:=by rw[xG];exact u1
 have v2:((p:Int)==2)=false:=by rw[xG];exact u2
 have v3:((p:Int)==3)=false:=by rw[xG];exact u3
 have v4:((p:Int)==4)=false:=by rw[xG];exact u4
 have v5:((p:Int)==5)=false:=by rw[xG];exact u5
 obtain rfl:=HNO.out (λh=>(by have h1:1<=p:=h.ph.2.2.2.2.1;have h2:p<=5:=h.ph.2.2.2.2.2;omega));go_wp2_with fail;go_ret;exact⟨rfl,hX.bel⟩
theorem Sg.Tn(x:Id.Sch)(r:Sg.Run)(fr:Int):Sg.on Sg.gW x r fr=(decide (0<=fr/\fr<4)&&!Sg.over r&&Sg.qB x r):=rfl
theorem NU(sv:Value)(x:Id.Sch)(hF:Chk.Fine x)(r:Sg.Run)(hIx:r.id.size<=100000)(hag:r.arg.size<=1000000)(fr:Int)(w:World)(hk:Tk.KW w)(hv:Id.ay w none sv x) :
  Calls Tryz.prog 76 #[sv,r.val,.int .i64 fr] w λe w'=>e=.returned (.bool (Sg.on Sg.gW x r fr))/\Below w.heap.size w w':=by
 have hro:=λW k v=>yP sv x hF r hIx hag W k v
 have hoo:=λW=>IL r W
 obtain⟨R,HR⟩:∃ R,Hid (Sg.on Sg.gW x r fr=R):=⟨_,hid rfl⟩;rw[HR.out];rw[Sg.Tn]at HR;obtain⟨O,HO⟩:∃ R,Hid (Sg.over r=R):=⟨_,hid rfl⟩;obtain⟨T,HT⟩:∃ R,Hid (Sg.qB x r=R):=⟨_,hid rfl⟩;rw[HO.out,HT.out]at HR;simp only[HT.out]at hro;simp only[HO.out]at hoo;have HKW:=hid hk;have HV:=hid hv;obtain⟨A1,n1,c1,A2,n2,c2,A3,n3,c3,rfl,-,-,-⟩:=hv;clear hk hF HO HT hIx hag;obtain⟨i,sg,ag,a,p,t,st,y,va⟩:=r;unfold Sg.Run.val Sg.Run.cells at hro hoo ⊢;simp only at hro hoo;have HRO:=hid hro;have HOO:=hid hoo;clear hro hoo;go_enter Tryz.func76,Tryz.ntmps76;go_upto_region 1 with(fail)
 refine aj (λV hV=>?_);have hX:Sg.Bx w V #[.string x.name,.slice A1 n1 c1,.slice A2 n2 c2,.slice A3 n3 c3] #[.string i,.string sg,.string ag,.int .i64 a,.int .u8 (p:Nat),.int .i64 t,.bool st,.int .i64 y,.string va]:=by rw[hV];exact Sg.Bx.start w _ _
 clear hV;by_cases h0:0<=fr
 case neg =>
  have HE:Hid (R=false):=hid (by rw[<-HR.out,decide_eq_false (by omega)];rfl);obtain rfl:=HE.out;go_wp2_with fail;go_ret;exact⟨rfl,hX.bel⟩
 by_cases h4:fr<4
 case neg =>
  have HE:Hid (R=false):=hid (by rw[<-HR.out,decide_eq_false (by omega)];rfl);obtain rfl:=HE.out;go_wp2_with fail;go_ret;exact⟨rfl,hX.bel⟩
 have HR2:Hid ((!O&&T)=R):=hid (by rw[<-HR.out,decide_eq_true ⟨h0,h4⟩,Bool.true_and]);clear HR;have hL:=hX.r;go_wp2_with(refine Sg.jM (by kernel_rfl) _ _ rfl _ rfl _ _ _ hL Tryz.underlying54 rfl (by kernel_rfl) ?_);refine(HOO.out _).mono ?_;rintro e W1⟨rfl,hb⟩;have hX2:=hX.below hb;clear hX hb hL;have hX:=hX2;clear hX2;cases O with
 |true =>
  have HE:Hid (R=false):=hid (by rw[<-HR2.out];rfl);obtain rfl:=HE.out;go_wp2_with fail;go_ret;exact⟨rfl,hX.bel⟩
 |false =>
  obtain⟨⟨q0,q1,q2,q3⟩,-⟩:=hX.s.k4;have hL:=hX.r;go_wp2_with(refine Sg.jM (by kernel_rfl) _ _ rfl _ rfl _ _ _ hL Tryz.underlying54 rfl (by kernel_rfl) ?_);refine(HRO.out _ (HKW.out.below hX.bel) (Id.ay.below hX.bel HV.out)).mono ?_;rintro e W2⟨rfl,hb⟩;have hX2:=hX.below hb;clear hX hb hL q0 q1 q2 q3;have HE:Hid (R=T):=hid (by rw[<-HR2.out];rfl);obtain rfl:=HE.out;go_wp2_with fail;go_ret;exact⟨rfl,hX2.bel⟩
