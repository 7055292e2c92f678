import Derived.Test.YtogijkhenihaaaaGreatDoorGB44
import Derived.ProofKit
import Derived.LaidMore
import Derived.OpenShut
import Derived.Stop.Joined
set_option linter.all false
set_option maxRecDepth 100000
set_option maxHeartbeats 0
namespace Go.Proofs.YtogijkhenihaaaaGreatDoor
open Lib (hid)
section
open Go.BigFrame Go.RowKit
namespace Sg
open Id Chk Ev Sd
def outcome(r:Run):Nat × Int × ByteArray :=
 if r.phase=3 then(3,0,r.value)
 else if r.phase=4 then(if r.why=201 then(5,0,⟨#[]⟩)else(4,r.why,⟨#[]⟩))
 else if r.phase=5 then(4,133,⟨#[]⟩)
 else if r.stop=true then(2,0,⟨#[]⟩)else(1,0,⟨#[]⟩)
end Sg
theorem DF(r:Sg.Run)(w:World):Calls Tryz.prog 70 #[r.val] w λe w'=>e=.returned (.tuple #[.int .i64 ((Sg.outcome r).1:Nat),.int .i64 (Sg.outcome r).2.1,.string (Sg.outcome r).2.2])/\Below w.heap.size w w':=by
 obtain⟨R,HR⟩:∃ R,Hid (Sg.outcome r=R):=⟨_,hid rfl⟩;rw[HR.out];unfold Sg.outcome at HR;obtain⟨i,sg,ag,a,p,t,st,y,va⟩:=r;simp only at HR;unfold Sg.Run.val Sg.Run.cells;go_enter Tryz.func70,Tryz.ntmps70;go_upto_region 1 with(fail)
 refine aj (λV hV=>?_);obtain⟨hb,hq,-⟩:=au hV;have HB:=hid hb;clear hV hb;have x4:=hq.cell 4;have x6:=hq.cell 6;have x7:=hq.cell 7;have x8:=hq.cell 8;simp only[List.getElem?_toArray,List.getElem?_cons_zero,List.getElem?_cons_succ]at x4 x6 x7 x8;by_cases hp3:p=3
 case pos =>
  subst hp3;have x4:_=some (Value.int .u8 3):=x4;rw[if_pos rfl]at HR;have HE:Hid (R=(3,0,va)):=hid HR.out.symm;go_wp2_with fail;go_quiet (fail);go_wp2_with fail;go_ret3;exact⟨by rw[HE.out];rfl,below_drewN HB.out _⟩
 by_cases hp4:p=4
 case pos =>
  subst hp4;have x4:_=some (Value.int .u8 4):=x4;rw[if_neg (by decide),if_pos rfl]at HR;by_cases hy:y=201
  case pos =>
   rw[if_pos hy]at HR;have t1:((y:Int)==201)=true:=by rw[beq_iff_eq];exact hy
   have HE:Hid (R=(5,0,⟨#[]⟩)):=hid HR.out.symm;go_wp2_with fail;go_ret3;exact⟨by rw[HE.out];rfl,HB.out⟩
  rw[if_neg hy]at HR;have t1:((y:Int)==201)=false:=by rw[xG];exact hy
  have HE:Hid (R=(4,y,⟨#[]⟩)):=hid HR.out.symm;go_wp2_with fail;go_quiet (fail);go_wp2_with fail;go_ret3;exact⟨by rw[HE.out];rfl,below_drewN HB.out _⟩
 by_cases hp5:p=5
 case pos =>
  subst hp5;have x4:_=some (Value.int .u8 5):=x4;rw[if_neg (by decide),if_neg (by decide),if_pos rfl]at HR;have HE:Hid (R=(4,133,⟨#[]⟩)):=hid HR.out.symm;go_wp2_with fail;go_ret3;exact⟨by rw[HE.out];rfl,HB.out⟩
 rw[if_neg hp3,if_neg hp4,if_neg hp5]at HR;have v3:((p:Int)==3)=false:=by rw[xG];omega
 have v4:((p:Int)==4)=false:=by rw[xG];omega
 have v5:((p:Int)==5)=false:=by rw[xG];omega
 have u3:¬(p:Int)=3:=by omega
 have u4:¬(p:Int)=4:=by omega
 have u5:¬(p:Int)=5:=by omega
 cases st with
 |true =>
  rw[if_pos rfl]at HR;have HE:Hid (R=(2,0,⟨#[]⟩)):=hid HR.out.symm;go_wp2_with fail;go_ret3;exact⟨by rw[HE.out];rfl,HB.out⟩
 |false =>
  rw[if_neg (by simp)]at HR;have HE:Hid (R=(1,0,⟨#[]⟩)):=hid HR.out.symm;go_wp2_with fail;go_ret3;exact⟨by rw[HE.out];rfl,HB.out⟩
end
namespace Sg
open Id Chk Ev Sd
def wA:ByteArray:=⟨#[97]⟩
def wG:ByteArray:=⟨#[103]⟩
def wX:ByteArray:=⟨#[1,120,10,0]⟩
theorem NG:∃ p:Nat,Prn.print shop=(p,0):=by
 have ht:Prn.text shop=(Prn.jn (Prn.jP shop),0):=by
  unfold Prn.text;rw[zZ,if_neg (show ¬((⟨#[]⟩:ByteArray),0).2≠0 by simp),if_neg (by decide +kernel)]
 exact⟨Sm.print (Prn.jn (Prn.jP shop)).data.toList,by
  unfold Prn.print;rw[ht,if_neg (show ¬(Prn.jn (Prn.jP shop),0).2≠0 by simp)]⟩
theorem Hq:gq shop wG=some ⟨⟨#[103]⟩,⟨#[79]⟩,[⟨⟨#[83]⟩,⟨#[116]⟩,0⟩,⟨⟨#[83]⟩,⟨#[110]⟩,1⟩]⟩:=by kernel_rfl
theorem uK:sag shop wG=⟨⟨#[103]⟩,⟨#[79]⟩,[⟨⟨#[83]⟩,⟨#[116]⟩,0⟩,⟨⟨#[83]⟩,⟨#[110]⟩,1⟩]⟩:=by
 unfold sag;rw[Hq];rfl
section
variable {p : Nat} (hp : Prn.print shop = (p, 0))
include hp
theorem Eo:dM shop wG=0:=by
 unfold dM;rw[hp,Hq,if_neg (by simp)];rfl
theorem ND:steps shop wG=(2,0):=by
 unfold steps;rw[Eo hp,uK,if_neg (by simp)];rfl
theorem Bj{i:Int}(h0:0<=i)(h2:i<2):letE shop wG wA i 1=0:=by
 unfold letE;rw[Eo hp,uK,if_neg (by simp),if_neg (by decide),if_neg (by show ¬(i<0∨((2:Nat):Int)<=i);omega)]
theorem NJ:call shop wG wA 0 false 1 wX=(⟨1,1,0,0,⟨#[97,46,48,102]⟩,p,⟨#[83]⟩,⟨#[116]⟩,0,wX⟩,0):=by
 have hst:stp shop wG 0=⟨⟨#[83]⟩,⟨#[116]⟩,0⟩:=by
  unfold stp;rw[uK];rfl
 have hk:jF wA 0 false=⟨#[97,46,48,102]⟩:=by kernel_rfl
 unfold call base;rw[Bj hp (by decide) (by decide),if_neg (by simp),if_pos rfl,hst,hp,hk]
theorem NI:call shop wG wA 1 false 1 wX=(⟨1,1,1,0,⟨#[97,46,49,102]⟩,p,⟨#[83]⟩,⟨#[110]⟩,0,wX⟩,0):=by
 have hst:stp shop wG 1=⟨⟨#[83]⟩,⟨#[110]⟩,1⟩:=by
  unfold stp;rw[uK];rfl
 have hk:jF wA 1 false=⟨#[97,46,49,102]⟩:=by kernel_rfl
 unfold call base;rw[Bj hp (by decide) (by decide),if_neg (by simp),if_pos rfl,hst,hp,hk]
theorem NH:call shop wG wA 0 true 1 wX=(⟨1,1,0,0,⟨#[97,46,48,99]⟩,p,⟨#[83]⟩,⟨#[117]⟩,0,wX⟩,0):=by
 have hst:stp shop wG 0=⟨⟨#[83]⟩,⟨#[116]⟩,0⟩:=by
  unfold stp;rw[uK];rfl
 have hb:base shop wG wA 0 1=⟨0,1,0,0,jF wA 0 false,p,⟨#[83]⟩,⟨#[116]⟩,0,ByteArray.empty⟩:=by
  unfold base;rw[hst,hp]
 have hu:Sd.jh shop ⟨0,1,0,0,jF wA 0 false,p,⟨#[83]⟩,⟨#[116]⟩,0,ByteArray.empty⟩=⟨#[117]⟩:=by
  unfold Sd.jh;show((meth shop ⟨#[83]⟩ ⟨#[116]⟩).getD oz).undo=_
  kernel_rfl
 have hk:jF wA 0 true=⟨#[97,46,48,99]⟩:=by kernel_rfl
 unfold call;rw[Bj hp (by decide) (by decide),hb,hu,hk,if_neg (by simp),if_neg (by simp),if_neg (by decide +kernel)]
end
theorem QM:Vl.oK shop (Vl.nmd ⟨#[79]⟩)=0:=by
 have hr:right shop (Vl.nmd ⟨#[79]⟩)=true:=by decide +kernel
 unfold Vl.oK;rw[if_neg (by rw[zZ];simp),if_pos hr]
theorem QO:gW shop wG wX=0:=by
 have hd:Cd.aY shop wX.data.toList 12 (Vl.nmd ⟨#[79]⟩) ⟨0,[],0⟩=.ok ⟨4,[⟨7,0,⟨#[]⟩,3⟩,⟨4,0,⟨#[120]⟩,0⟩,⟨3,5,⟨#[]⟩,0⟩,⟨6,0,⟨#[]⟩,0⟩],5⟩:=by kernel_rfl
 unfold gW;rw[uK];unfold Cd.decP;rw[if_neg (by rw[QM];simp),hd];rfl
def wR0:Run:=⟨wA,wG,wX,0,1,0,false,0,⟨#[]⟩⟩
def wR1:Run:=⟨wA,wG,wX,1,1,0,false,0,⟨#[]⟩⟩
def wR2:Run:=⟨wA,wG,wX,0,2,0,false,200,⟨#[]⟩⟩
def wR3:Run:=⟨wA,wG,wX,0,4,0,false,200,⟨#[]⟩⟩
def wL(key:ByteArray)(code:Int):Letter:=⟨2,0,0,0,key,0,⟨#[]⟩,⟨#[]⟩,code,⟨#[]⟩⟩
section
variable {p : Nat} (hp : Prn.print shop = (p, 0))
include hp
theorem Ep:begin_ gW shop wG wA 1 wX=(wR0,⟨1,1,0,0,⟨#[97,46,48,102]⟩,p,⟨#[83]⟩,⟨#[116]⟩,0,wX⟩,0):=by
 unfold begin_;rw[NJ hp,QO];rfl
theorem En:Rt gW shop wR0:=(Ph (A:=gW) (x:=shop) (g:=wG) (id:=wA) (b:=wX) (fr:=1) (by rw[Ep hp])).2
theorem Em:took shop wR0 1 3 (wL ⟨#[97,46,48,102]⟩ 0)=(wR1,⟨1,1,1,0,⟨#[97,46,49,102]⟩,p,⟨#[83]⟩,⟨#[110]⟩,0,wX⟩,true,true):=by
 unfold took;rw[if_neg (by decide),if_neg (by simp[wL]),if_neg (by show ¬(0:Int)=((steps shop wG).1:Int) - 1;rw[ND hp];decide)];unfold nextL;show(wR1,(call shop wG wA 1 false 1 wX).1,true,true)=_
 rw[NI hp]
theorem KJ:reply gW shop wR0 1 3 (wL ⟨#[97,46,48,102]⟩ 0)=(wR1,⟨1,1,1,0,⟨#[97,46,49,102]⟩,p,⟨#[83]⟩,⟨#[110]⟩,0,wX⟩,true,true):=by
 rw[vC (En hp) rfl (by decide) (by decide) rfl (by decide +kernel),Em hp]
theorem KG:Rt gW shop wR1:=by
 have h:=zW (fr:=1) (most:=3) (l:=wL ⟨#[97,46,48,102]⟩ 0) (En hp) rfl;rwa [Em hp]at h
theorem Ej:took shop wR1 1 3 (wL ⟨#[97,46,49,102]⟩ 200)=(wR2,⟨1,1,0,0,⟨#[97,46,48,99]⟩,p,⟨#[83]⟩,⟨#[117]⟩,0,wX⟩,true,true):=by
 unfold took;rw[if_neg (by decide),if_pos (by simp[wL])];show back shop wR1 1 (if(200:Int)<0∨999<(200:Int)then 999 else 200)=_
 rw[if_neg (by decide)];unfold back;rw[if_neg (by decide)];unfold nextL;show(wR2,(call shop wG wA 0 true 1 wX).1,true,true)=_
 rw[NH hp]
theorem KI:reply gW shop wR1 1 3 (wL ⟨#[97,46,49,102]⟩ 200)=(wR2,⟨1,1,0,0,⟨#[97,46,48,99]⟩,p,⟨#[83]⟩,⟨#[117]⟩,0,wX⟩,true,true):=by
 rw[vC (KG hp) rfl (by decide) (by decide) rfl (by decide +kernel),Ej hp]
theorem QN:Rt gW shop wR2:=by
 have h:=zW (fr:=1) (most:=3) (l:=wL ⟨#[97,46,49,102]⟩ 200) (KG hp) rfl;rwa [Ej hp]at h
theorem KH:reply gW shop wR2 1 3 (wL ⟨#[97,46,48,99]⟩ 0)=(wR3,Letter.zero,false,true):=by
 rw[vC (QN hp) rfl (by decide) (by decide) rfl (by decide +kernel)];unfold took;rw[if_pos (show wR2.phase=2 from rfl),if_pos (show(wL ⟨#[97,46,48,99]⟩ 0).code=0 from rfl)];unfold back;rw[if_pos (show wR2.at_=0 from rfl)];rfl
end
end Sg
section
open Go.BigFrame Go.RowKit
namespace Sg
open Id Chk Ev Sd
structure Tv(x:Sch)(r:Run)(l:Letter):Prop where
 x:Ee x
 id:r.id.size<=5000
 sg:r.saga.size<=5000
 ag:r.arg.size<=5000
 va:r.value.size<=5000
 key:l.key.size<=5000
 body:l.body.size<=5000
structure Gb(w V:World)(S R L:Array Value):Prop where
 bel:Below w.heap.size w V
 s:Bk V w.heap.size 28 S
 r:Bk V (w.heap.size+1) 54 R
 l:Bk V (w.heap.size+2) 56 L
theorem Gb.below{w V V':World}{S R L:Array Value}(h:Gb w V S R L)(hb:Below V.heap.size V V'):Gb w V' S R L:=⟨h.bel.trans (hb.mono h.bel.size),h.s.below hb h.s.lt,h.r.below hb h.r.lt,h.l.below hb h.l.lt⟩
theorem Gb.start(w:World)(S R L:Array Value):Gb w (((w.alloc (.cells S 28)).alloc (.cells R 54)).alloc (.cells L 56)) S R L:=by
 have h1:=Bk.new (w.alloc (.cells S 28)) 54 R;have h2:=Bk.new ((w.alloc (.cells S 28)).alloc (.cells R 54)) 56 L;simp only[World.size_alloc]at h1 h2;exact⟨(((Below.refl _ _).alloc (xB _) _).alloc (by simp) _).alloc (by simp;omega) _,((Bk.new w _ _).alloc _).alloc _,h1.alloc _,h2⟩
theorem Two.fresh(W:World):Two ((W.alloc (.cells gI 54)).alloc (.cells #[.int .u8 0,.int .i64 0,.int .i64 0,.int .u64 0,.string ⟨#[]⟩,.int .u64 0,.string ⟨#[]⟩,.string ⟨#[]⟩,.int .i64 0,.string ⟨#[]⟩] 56)) W.heap.size (W.heap.size+1) gI #[.int .u8 0,.int .i64 0,.int .i64 0,.int .u64 0,.string ⟨#[]⟩,.int .u64 0,.string ⟨#[]⟩,.string ⟨#[]⟩,.int .i64 0,.string ⟨#[]⟩]/\Below W.heap.size W ((W.alloc (.cells gI 54)).alloc (.cells #[.int .u8 0,.int .i64 0,.int .i64 0,.int .u64 0,.string ⟨#[]⟩,.int .u64 0,.string ⟨#[]⟩,.string ⟨#[]⟩,.int .i64 0,.string ⟨#[]⟩] 56)):=by
 have h2:=Bk.new (W.alloc (.cells gI 54)) 56 #[.int .u8 0,.int .i64 0,.int .i64 0,.int .u64 0,.string ⟨#[]⟩,.int .u64 0,.string ⟨#[]⟩,.string ⟨#[]⟩,.int .i64 0,.string ⟨#[]⟩];rw[World.size_alloc]at h2;exact⟨⟨(Bk.new W _ _).alloc _,h2,by omega⟩,((Below.refl _ _).alloc (xB _) _).alloc (by simp) _⟩
end Sg
theorem Gh(sv:Value)(x:Id.Sch)(r:Sg.Run)(l:Ev.Letter)(w:World)(hv:Id.ay w none sv x) :
  Calls Tryz.prog 20 #[sv,r.val,l.val] w (Chk.Bg w (Sg.Tv x r l)):=by
 have HV:=hid hv;obtain⟨A1,n1,c1,A2,n2,c2,A3,n3,c3,rfl,-,-,-⟩:=hv;obtain⟨i,sg,ag,a,p,t,st,y,va⟩:=r;obtain⟨l0,l1,l2,l3,l4,l5,l6,l7,l8,l9⟩:=l;unfold Sg.Run.val Sg.Run.cells Ev.Letter.val;go_enter Tryz.func20,Tryz.ntmps20;go_upto_region 1 with(fail)
 refine aj (λV hV=>?_);have hX:Sg.Gb w V #[.string x.name,.slice A1 n1 c1,.slice A2 n2 c2,.slice A3 n3 c3] #[.string i,.string sg,.string ag,.int .i64 a,.int .u8 (p:Nat),.int .i64 t,.bool st,.int .i64 y,.string va] #[.int .u8 l0,.int .i64 l1,.int .i64 l2,.int .u64 l3,.string l4,.int .u64 l5,.string l6,.string l7,.int .i64 l8,.string l9]:=by rw[hV];exact Sg.Gb.start w _ _ _
 clear hV;obtain⟨⟨q0,q1,q2,q3⟩,-⟩:=hX.s.k4;go_wp2_with fail;refine(Kz _ x _ (Id.ay.below hX.bel HV.out)).mono ?_;rintro e W1⟨gb,rfl,hb,hf⟩;have hX2:=hX.below hb;clear hX hb q0 q1 q2 q3;have hX:=hX2;clear hX2;cases gb with
 |true =>
  go_wp2_with fail;go_ret;exact⟨true,rfl,hX.bel,λh=>by cases h⟩
 |false =>
  have HFG:=hid (hf rfl);clear hf;have x0:=hX.r.cell 0;have x1:=hX.r.cell 1;have x2:=hX.r.cell 2;have x8:=hX.r.cell 8;have y4:=hX.l.cell 4;have y9:=hX.l.cell 9;simp only[List.getElem?_toArray,List.getElem?_cons_zero,List.getElem?_cons_succ]at x0 x1 x2 x8 y4 y9;by_cases hc0:(5000:Int)<(i.size:Int)
  case pos =>
   go_wp2_with fail;go_ret;exact⟨true,rfl,hX.bel,λh=>by cases h⟩
  by_cases hc1:(5000:Int)<(sg.size:Int)
  case pos =>
   go_wp2_with fail;go_ret;exact⟨true,rfl,hX.bel,λh=>by cases h⟩
  by_cases hc2:(5000:Int)<(ag.size:Int)
  case pos =>
   go_wp2_with fail;go_ret;exact⟨true,rfl,hX.bel,λh=>by cases h⟩
  by_cases hc3:(5000:Int)<(va.size:Int)
  case pos =>
   go_wp2_with fail;go_ret;exact⟨true,rfl,hX.bel,λh=>by cases h⟩
  by_cases hc4:(5000:Int)<(l4.size:Int)
  case pos =>
   go_wp2_with fail;go_ret;exact⟨true,rfl,hX.bel,λh=>by cases h⟩
  by_cases hc5:(5000:Int)<(l9.size:Int)
  case pos =>
   go_wp2_with fail;go_ret;exact⟨true,rfl,hX.bel,λh=>by cases h⟩
  go_wp2_with fail;go_ret;exact⟨_,rfl,hX.bel,λ_=>⟨HFG.out,by show i.size<=5000;omega,by show sg.size<=5000;omega,by show ag.size<=5000;omega,by show va.size<=5000;omega,by show l4.size<=5000;omega,by show l9.size<=5000;omega⟩⟩
namespace Sg
structure Wk(w1 V:World)(g:Nat)(S R L:Array Value):Prop where
 bel:Below w1.heap.size w1 V
 s:Bk V w1.heap.size 28 S
 q:Two V g (g+1) R L
 lt:w1.heap.size<g
theorem Wk.below{w1 V V':World}{g:Nat}{S R L:Array Value}(h:Wk w1 V g S R L)(hb:Below V.heap.size V V'):Wk w1 V' g S R L:=⟨h.bel.trans (hb.mono h.bel.size),h.s.below hb h.s.lt,h.q.below hb h.q.r.lt h.q.l.lt,h.lt⟩
theorem Wk.both{w1 V:World}{g:Nat}{S R L:Array Value}(h:Wk w1 V g S R L)(c c':Array Value):Wk w1 ((V.setRow g c).setRow (g+1) c') g S c c':=by
 have hlt:=h.lt;exact⟨bK h.bel (by omega) (by omega) _ _,(h.s.jK (by omega) _).jK (by omega) _,h.q.both _ _,hlt⟩
theorem Wk.iM{w1 V:World}{g:Nat}{S R L:Array Value}(h:Wk w1 V g S R L)(c:Array Value):Wk w1 (V.setRow g c) g S c L:=by
 have hlt:=h.lt;exact⟨aK h.bel (by omega) _,h.s.jK (by omega) _,h.q.iM _,hlt⟩
end Sg
theorem yK(w:World)(hk:Tk.KW w):Calls Tryz.prog 21 #[] w λe w'=>e=.returned (.bool true)/\Below w.heap.size w w':=by
 have HK:=hid hk;clear hk;obtain⟨p,hp⟩:=Sg.NG;have HP:=hid hp;clear hp;have hFS:Chk.Fine Chk.shop:=Chk.Lp _ (by decide);have HF:=hid hFS;clear hFS;go_enter Tryz.func21,Tryz.ntmps21;go_wp2_with fail;refine(NT _).mono ?_;rintro e w1⟨v,rfl,hb1,hsv⟩;have HB1:=hid hb1;have HS1:=hid (Id.ay.weak (Id.Ht _) hsv:Id.ay w1 none v Chk.shop);have HK1:=hid (HK.out.below hb1);clear hb1 hsv HK;obtain⟨A1,n1,c1,A2,n2,c2,A3,n3,c3,rfl,-⟩:=HS1.out;go_upto_region 2 with(fail)
 refine aj (λV hV=>?_);obtain⟨hb,hqS,-⟩:=au hV;clear hV;obtain⟨⟨q0,q1,q2,q3⟩,-⟩:=hqS.k4;have h:=yQ _ Chk.shop HF.out Sg.wG Sg.wA (by decide) 1 Sg.wX (by decide) V (HK1.out.below hb) (Id.ay.below hb HS1.out);rw[Sg.Ep HP.out]at h;unfold Sg.Ec Sg.wR0 Sg.wG Sg.wA Sg.wX Sg.Run.val Sg.Run.cells Ev.Letter.val at h;simp only[xY]at h;have HC:=hid h;clear h;go_wp2_with fail;refine HC.out.mono ?_;rintro e w2⟨rfl,hb2⟩;have HB2:=hid (hb.trans (hb2.mono hb.size));have HQS:=hid (hqS.below hb2 hqS.lt);clear hb hb2 HC hqS q0 q1 q2 q3;have hFr:=Sg.Two.fresh w2;have hQ:=hFr.1;(have hq1:=hQ.r;have hq2:=(hQ.iM #[.string ⟨#[97]⟩,.string ⟨#[103]⟩,.string ⟨#[1,120,10,0]⟩,.int .i64 0,.int .u8 1,.int .i64 0,.bool false,.int .i64 0,.string ⟨#[]⟩]).l;unfold Bk at hq1 hq2)
 go_upto_region 3 with(refine wpList_store_row rfl _ _ _ rfl _ _ rfl rfl _ _ (by with_reducible assumption) (by kernel_rfl) (by rfl) (by simp[Value.oneCell']) ?_)
 refine aj (λV3 hV=>?_);obtain⟨g,Hg⟩:∃ n,Hid (w2.heap.size=n):=⟨_,hid rfl⟩;have hX:Sg.Wk w1 V3 g #[.string Chk.shop.name,.slice A1 n1 c1,.slice A2 n2 c2,.slice A3 n3 c3] #[.string ⟨#[97]⟩,.string ⟨#[103]⟩,.string ⟨#[1,120,10,0]⟩,.int .i64 0,.int .u8 1,.int .i64 0,.bool false,.int .i64 0,.string ⟨#[]⟩] #[.int .u8 1,.int .i64 1,.int .i64 0,.int .u64 0,.string ⟨#[97,46,48,102]⟩,.int .u64 (p:Nat),.string ⟨#[83]⟩,.string ⟨#[116]⟩,.int .i64 0,.string ⟨#[1,120,10,0]⟩]:=by
  have hb:Below w2.heap.size w2 V3:=by rw[hV];exact Sg.bK hFr.2 (xB _) (by omega) _ _
  have hlt:=HQS.out.lt;rw[<-Hg.out];exact⟨HB2.out.trans (hb.mono HB2.out.size),HQS.out.below hb hlt,by rw[hV];exact hQ.both _ _,hlt⟩
 clear hV hq1 hq2 hQ hFr HB2 HQS;rw[Hg.out];have y4:=hX.q.l.cell 4;have y7:=hX.q.l.cell 7;simp only[List.getElem?_toArray,List.getElem?_cons_zero,List.getElem?_cons_succ]at y4 y7;have hL:=hX.q.r;have hS:=hX.s;have hRo:=yP _ Chk.shop HF.out Sg.wR0 (by decide) (by decide) V3 (HK1.out.below hX.bel) (Id.ay.below hX.bel HS1.out);rw[Sg.Ai (Sg.En HP.out)]at hRo;unfold Sg.wR0 Sg.wG Sg.wA Sg.wX Sg.Run.val Sg.Run.cells at hRo;simp only[xY]at hRo;have HC:=hid hRo;clear hRo;go_wp2_with(first|(refine Sg.jM (by kernel_rfl) _ _ rfl _ rfl _ _ _ hS Tryz.underlying28 rfl (by kernel_rfl) ?_)|(refine Sg.jM (by kernel_rfl) _ _ rfl _ rfl _ _ _ hL Tryz.underlying54 rfl (by kernel_rfl) ?_));refine HC.out.mono ?_;rintro e w5⟨rfl,hb⟩;have hX2:=hX.below hb;clear hX hb hL hS HC y4 y7;have hX:=hX2;clear hX2;have hL:=hX.q.r;have hS:=hX.s;have h:=uw _ Chk.shop HF.out Sg.wR0 (by decide) (by decide) 1 3 (Sg.wL ⟨#[97,46,48,102]⟩ 0) w5 (HK1.out.below hX.bel) (Id.ay.below hX.bel HS1.out);rw[Sg.KJ HP.out]at h;unfold Sg.mD Sg.wR0 Sg.wR1 Sg.wL Sg.wG Sg.wA Sg.wX Sg.Run.val Sg.Run.cells Ev.Letter.val at h;simp only[xY]at h;have HC:=hid h;clear h;go_wp2_with(first|(refine wpList_load_row rfl _ _ rfl _ rfl _ _ _ _ (Sg.bk hS) Tryz.underlying28 rfl (by kernel_rfl) ?_)|(refine wpList_load_row rfl _ _ rfl _ rfl _ _ _ _ (Sg.bk hL) Tryz.underlying54 rfl (by kernel_rfl) ?_));refine HC.out.mono ?_;rintro e w6⟨rfl,hb⟩;have hX2:=hX.below hb;clear hX hb hL hS HC;have hX:=hX2;clear hX2;have hQ:=hX.q;(have hq1:=hQ.r;have hq2:=(hQ.iM #[.string ⟨#[97]⟩,.string ⟨#[103]⟩,.string ⟨#[1,120,10,0]⟩,.int .i64 1,.int .u8 1,.int .i64 0,.bool false,.int .i64 0,.string ⟨#[]⟩]).l;unfold Bk at hq1 hq2)
 go_upto_region 6 with(refine wpList_store_row rfl _ _ _ rfl _ _ rfl rfl _ _ (by with_reducible assumption) (by kernel_rfl) (by rfl) (by simp[Value.oneCell']) ?_)
 refine aj (λV6 hV=>?_);have hX2:=hX.both #[.string ⟨#[97]⟩,.string ⟨#[103]⟩,.string ⟨#[1,120,10,0]⟩,.int .i64 1,.int .u8 1,.int .i64 0,.bool false,.int .i64 0,.string ⟨#[]⟩] #[.int .u8 1,.int .i64 1,.int .i64 1,.int .u64 0,.string ⟨#[97,46,49,102]⟩,.int .u64 (p:Nat),.string ⟨#[83]⟩,.string ⟨#[110]⟩,.int .i64 0,.string ⟨#[1,120,10,0]⟩];rw[<-hV]at hX2;clear hX hQ hq1 hq2 hV;have hX:=hX2;clear hX2;have x3:=hX.q.r.cell 3;have y4:=hX.q.l.cell 4;simp only[List.getElem?_toArray,List.getElem?_cons_zero,List.getElem?_cons_succ]at x3 y4;go_upto_region 8 with(fail)
 clear x3 y4;have hL:=hX.q.r;have hS:=hX.s;have h:=uw _ Chk.shop HF.out Sg.wR1 (by decide) (by decide) 1 3 (Sg.wL ⟨#[97,46,49,102]⟩ 200) V6 (HK1.out.below hX.bel) (Id.ay.below hX.bel HS1.out);rw[Sg.KI HP.out]at h;unfold Sg.mD Sg.wR1 Sg.wR2 Sg.wL Sg.wG Sg.wA Sg.wX Sg.Run.val Sg.Run.cells Ev.Letter.val at h;simp only[xY]at h;have HC:=hid h;clear h;go_wp2_with(first|(refine wpList_load_row rfl _ _ rfl _ rfl _ _ _ _ (Sg.bk hS) Tryz.underlying28 rfl (by kernel_rfl) ?_)|(refine wpList_load_row rfl _ _ rfl _ rfl _ _ _ _ (Sg.bk hL) Tryz.underlying54 rfl (by kernel_rfl) ?_));refine HC.out.mono ?_;rintro e w8⟨rfl,hb⟩;have hX2:=hX.below hb;clear hX hb hL hS HC;have hX:=hX2;clear hX2;have hQ:=hX.q;(have hq1:=hQ.r;have hq2:=(hQ.iM #[.string ⟨#[97]⟩,.string ⟨#[103]⟩,.string ⟨#[1,120,10,0]⟩,.int .i64 0,.int .u8 2,.int .i64 0,.bool false,.int .i64 200,.string ⟨#[]⟩]).l;unfold Bk at hq1 hq2)
 go_upto_region 9 with(refine wpList_store_row rfl _ _ _ rfl _ _ rfl rfl _ _ (by with_reducible assumption) (by kernel_rfl) (by rfl) (by simp[Value.oneCell']) ?_)
 refine aj (λV9 hV=>?_);have hX2:=hX.both #[.string ⟨#[97]⟩,.string ⟨#[103]⟩,.string ⟨#[1,120,10,0]⟩,.int .i64 0,.int .u8 2,.int .i64 0,.bool false,.int .i64 200,.string ⟨#[]⟩] #[.int .u8 1,.int .i64 1,.int .i64 0,.int .u64 0,.string ⟨#[97,46,48,99]⟩,.int .u64 (p:Nat),.string ⟨#[83]⟩,.string ⟨#[117]⟩,.int .i64 0,.string ⟨#[1,120,10,0]⟩];rw[<-hV]at hX2;clear hX hQ hq1 hq2 hV;have hX:=hX2;clear hX2;have x4:=hX.q.r.cell 4;have y4:=hX.q.l.cell 4;have y7:=hX.q.l.cell 7;simp only[List.getElem?_toArray,List.getElem?_cons_zero,List.getElem?_cons_succ]at x4 y4 y7;go_upto_region 11 with(fail)
 clear x4 y4 y7;have hL:=hX.q.r;have hS:=hX.s;have h:=uw _ Chk.shop HF.out Sg.wR2 (by decide) (by decide) 1 3 (Sg.wL ⟨#[97,46,48,99]⟩ 0) V9 (HK1.out.below hX.bel) (Id.ay.below hX.bel HS1.out);rw[Sg.KH HP.out]at h;unfold Sg.mD Sg.wR2 Sg.wR3 Sg.wL Sg.wG Sg.wA Sg.wX Sg.Run.val Sg.Run.cells Ev.Letter.zero Ev.Letter.val at h;simp only[xY]at h;have HC:=hid h;clear h;go_wp2_with(first|(refine wpList_load_row rfl _ _ rfl _ rfl _ _ _ _ (Sg.bk hS) Tryz.underlying28 rfl (by kernel_rfl) ?_)|(refine wpList_load_row rfl _ _ rfl _ rfl _ _ _ _ (Sg.bk hL) Tryz.underlying54 rfl (by kernel_rfl) ?_));refine HC.out.mono ?_;rintro e w11⟨rfl,hb⟩;have hX2:=hX.below hb;clear hX hb hL hS HC;have hX:=hX2;clear hX2;have hQ:=hX.q;(have hq1:=hQ.r;have hq2:=(hQ.iM #[.string ⟨#[97]⟩,.string ⟨#[103]⟩,.string ⟨#[1,120,10,0]⟩,.int .i64 0,.int .u8 4,.int .i64 0,.bool false,.int .i64 200,.string ⟨#[]⟩]).l;unfold Bk at hq1 hq2)
 go_upto_region 12 with(refine wpList_store_row rfl _ _ _ rfl _ _ rfl rfl _ _ (by with_reducible assumption) (by kernel_rfl) (by rfl) (by simp[Value.oneCell']) ?_)
 refine aj (λV12 hV=>?_);have hX2:=hX.iM #[.string ⟨#[97]⟩,.string ⟨#[103]⟩,.string ⟨#[1,120,10,0]⟩,.int .i64 0,.int .u8 4,.int .i64 0,.bool false,.int .i64 200,.string ⟨#[]⟩];rw[<-hV]at hX2;clear hX hQ hq1 hq2 hV;have hX:=hX2;clear hX2;have ho:=DF Sg.wR3 V12;have hw3:Sg.outcome Sg.wR3=(4,200,⟨#[]⟩):=rfl;rw[hw3]at ho;unfold Sg.wR3 Sg.wG Sg.wA Sg.wX Sg.Run.val Sg.Run.cells at ho;simp only[xY]at ho;have HC:=hid ho;clear ho;have hL:=hX.q.r;go_wp2_with(refine wpList_load_row rfl _ _ rfl _ rfl _ _ _ _ hL Tryz.underlying54 rfl (by kernel_rfl) ?_);refine HC.out.mono ?_;rintro e w13⟨rfl,hb⟩;have hX2:=hX.below hb;clear hX hb hL HC;have hX:=hX2;clear hX2;have x4:=hX.q.r.cell 4;simp only[List.getElem?_toArray,List.getElem?_cons_zero,List.getElem?_cons_succ]at x4;go_wp2_with fail;go_ret;exact⟨rfl,HB1.out.trans (hX.bel.mono HB1.out.size)⟩
end
section
open Go.ChangeAt Go.ChangeShapes Go.RowKit Go.WideShapes
namespace Kw
theorem gK : Tryz.prog.globalNamed "redress/token.keywords" = some 0 := by kernel_rfl
theorem tK:(Tryz.prog.globals[0]?).map (·.type)=some 267:=by kernel_rfl
theorem c9:Tryz.prog.cellsOf 9=1:=by kernel_rfl
abbrev AA : List (String × DataW Unit) := [("math/bits.deBruijn32tab", Rows.laid_math_bits_deBruijn32tab), ("math/bits.deBruijn64tab", Rows.laid_math_bits_deBruijn64tab), ("internal/strconv.uint64pow10", Rows.laid_internal_strconv_uint64pow10), ("redress/token.keywords", Rows.laid_redress_token_keywords)]
theorem door_met(os:Os)(args:Array Value):laidMetH Tryz.prog AA ((World.doorLaid Tryz.prog 400 os).forCall (λ_ _=>0) ⟨#[],args,[]⟩).memory :=
 laidMetH_of_parts3 (fuel:=8) (laidMet_of_run' 8 (by kernel_rfl) (by kernel_rfl)) (by kernel_rfl) (by kernel_rfl)
theorem data_eq:(Rows.laid_redress_token_keywords:DataW Unit)=.agg (Tk.words.map λx=>.lit (.string x.data.toList)):=by kernel_rfl
theorem of_laid{W:World}(h:laidMetH Tryz.prog AA W):Tk.KW W:=by
 rw[MakeChecks.laidMetH_plain _ _ _ (by kernel_rfl)]at h;obtain⟨ps,hps,_,_⟩:=h;obtain⟨_,_,_,_,_,_,_,_,_,_,hps,_⟩:=hps;obtain⟨_,_,_,_,_,_,_,_,_,_,hps,_⟩:=hps;obtain⟨_,_,_,_,_,_,_,_,_,_,hps,_⟩:=hps;obtain⟨g0,t0,cs0,f0,p0,q0,hg0,ht0,hv0,hd0,_⟩:=hps;obtain rfl:=Option.some.inj (gK.symm.trans hg0);obtain rfl:=Option.some.inj (tK.symm.trans ht0);obtain⟨xs,m1,rfl,hx1,hlen,hn,hel⟩:=DataW.trod_array Tryz.underlying267 hd0;simp only[Prod.mk.injEq]at hx1;have hx2:(Tk.words.map λx=>(DataW.lit (.string x.data.toList):DataW Unit))=xs.map (·.1):=by
  have:=hx1.1;rw[data_eq]at this;injection this
 have key:∀ j,j<Tk.words.length->W.cell? ⟨0,0+j,none⟩=some (.string (Tk.words.getD j ByteArray.empty)):=by
  intro j hj;have TQ:j<17:=hj;have h1:=hel j TQ;rw[c9]at h1;have hjx:j<xs.length:=by omega
  rw[yF hjx]at h1;obtain⟨s,e1,e2,_⟩:=DataW.trod_string Tryz.underlying9 h1;have h3:(xs.map (·.1))[j]?=some (DataW.lit (.string Tk.words[j].data.toList)):=by
   rw[<-hx2,List.getElem?_map,yF hj];rfl
  rw[List.getElem?_map,yF hjx,e2]at h3;simp only[Option.map_some,Option.some.injEq,DataW.lit.injEq,Lit.string.injEq]at h3;have hs:s=Tk.words[j]:=by
   cases s
   cases hw:Tk.words[j]
   rw[hw]at h3;simp only at h3;rw[Array.toList_inj.1 h3]
  have hc:=World.var?_cell hg0 hv0 j;rw[Nat.zero_add,hc];have e4:cs0.toList[j]?=some (.string s):=by
   have:((cs0.toList.drop (j * 1)).take 1)[0]?=some (.string s):=by rw[e1];rfl
   rw[List.getElem?_take_of_lt (by omega),List.getElem?_drop]at this;simpa using this
  have e5:Tk.words.getD j ByteArray.empty=s:=by rw[hs,yG,yF hj];rfl
  rw[e5];simpa using e4
 refine⟨?_,key⟩;exact xH W _ (key 0 (by decide))
end Kw
end
