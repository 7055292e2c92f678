/- saga: Settle, Stop, Outcome (printed by gen_sgd.py). No condition but the keywords' table and the ones the theorems state. -/
import Derived.Test.YtogijkhenihaaaaGreatDoorGP31
import Derived.Test.YtogijkhenihaaaaGreatDoorGP26
import Derived.Test.YtogijkhenihaaaaGreatDoorGP17
import Derived.Test.YtogijkhenihaaaaGreatDoorGP27
import Derived.Test.YtogijkhenihaaaaGreatDoorGP19
import Derived.Test.YtogijkhenihaaaaGreatDoorGP30
import Derived.Lib.SmallJoins
import Derived.OpenShut
set_option linter.unusedVariables false
set_option linter.unusedSimpArgs false
namespace Go.Proofs.YtogijkhenihaaaaGreatDoor
open Go.RowKit Go.BigFrame
namespace Sg
open Go.Proofs.YtogijkhenihaaaaGreatDoor.Id Go.Proofs.YtogijkhenihaaaaGreatDoor.Chk Go.Proofs.YtogijkhenihaaaaGreatDoor.Ev Go.Proofs.YtogijkhenihaaaaGreatDoor.Sd
def outcome (r:Run):Nat × Int × ByteArray :=
 if r.phase=3 then (3,0,r.value)
 else if r.phase=4 then (if r.why=201 then (5,0,⟨#[]⟩) else (4,r.why,⟨#[]⟩))
 else if r.phase=5 then (4,133,⟨#[]⟩)
 else if r.stop=true then (2,0,⟨#[]⟩) else (1,0,⟨#[]⟩)
end Sg
set_option maxRecDepth 100000 in
set_option maxHeartbeats 16000000 in
theorem sgoutcome_any (r:Sg.Run) (w:World):Calls Tryz.prog 70 #[r.val] w fun e w'=>e=.returned (.tuple #[.int .i64 ((Sg.outcome r).1:Nat),.int .i64 (Sg.outcome r).2.1,.string (Sg.outcome r).2.2])∧Below w.heap.size w w':=by
 obtain ⟨R,HR⟩:∃ R,Hid (Sg.outcome r=R):=⟨_,Lib.hid rfl⟩
 rw [HR.out]
 unfold Sg.outcome at HR
 obtain ⟨i,sg,ag,a,p,t,st,y,va⟩:=r
 simp only at HR
 unfold Sg.Run.val Sg.Run.cells
 go_enter Tryz.func70,Tryz.ntmps70
 go_upto_region 1 with (fail)
 refine wp_named (fun V hV=>?_)
 obtain ⟨hb,hq,-⟩:=fresh_box hV
 have HB:=Lib.hid hb
 clear hV hb
 have x4:=hq.cell 4
 have x6:=hq.cell 6
 have x7:=hq.cell 7
 have x8:=hq.cell 8
 simp only [List.getElem?_toArray,List.getElem?_cons_zero,List.getElem?_cons_succ] at x4 x6 x7 x8
 by_cases hp3:p=3
 case pos =>
  subst hp3
  have x4:_=some (Value.int .u8 3):=x4
  rw [if_pos rfl] at HR
  have HE:Hid (R=(3,0,va)):=Lib.hid HR.out.symm
  go_wp2_with fail
  go_quiet (fail)
  go_wp2_with fail
  go_ret3
  exact ⟨by rw [HE.out];rfl,below_drewN HB.out _⟩
 by_cases hp4:p=4
 case pos =>
  subst hp4
  have x4:_=some (Value.int .u8 4):=x4
  rw [if_neg (by decide),if_pos rfl] at HR
  by_cases hy:y=201
  case pos =>
   rw [if_pos hy] at HR
   have t1:((y:Int)==201)=true:=by rw [beq_iff_eq];exact hy
   have HE:Hid (R=(5,0,⟨#[]⟩)):=Lib.hid HR.out.symm
   go_wp2_with fail
   go_ret3
   exact ⟨by rw [HE.out];rfl,HB.out⟩
  rw [if_neg hy] at HR
  have t1:((y:Int)==201)=false:=by rw [beq_eq_false_iff_ne];exact hy
  have HE:Hid (R=(4,y,⟨#[]⟩)):=Lib.hid HR.out.symm
  go_wp2_with fail
  go_quiet (fail)
  go_wp2_with fail
  go_ret3
  exact ⟨by rw [HE.out];rfl,below_drewN HB.out _⟩
 by_cases hp5:p=5
 case pos =>
  subst hp5
  have x4:_=some (Value.int .u8 5):=x4
  rw [if_neg (by decide),if_neg (by decide),if_pos rfl] at HR
  have HE:Hid (R=(4,133,⟨#[]⟩)):=Lib.hid HR.out.symm
  go_wp2_with fail
  go_ret3
  exact ⟨by rw [HE.out];rfl,HB.out⟩
 rw [if_neg hp3,if_neg hp4,if_neg hp5] at HR
 have v3:((p:Int)==3)=false:=by rw [beq_eq_false_iff_ne];omega
 have v4:((p:Int)==4)=false:=by rw [beq_eq_false_iff_ne];omega
 have v5:((p:Int)==5)=false:=by rw [beq_eq_false_iff_ne];omega
 have u3:¬(p:Int)=3:=by omega
 have u4:¬(p:Int)=4:=by omega
 have u5:¬(p:Int)=5:=by omega
 cases st with
 | true =>
  rw [if_pos rfl] at HR
  have HE:Hid (R=(2,0,⟨#[]⟩)):=Lib.hid HR.out.symm
  go_wp2_with fail
  go_ret3
  exact ⟨by rw [HE.out];rfl,HB.out⟩
 | false =>
  rw [if_neg (by simp)] at HR
  have HE:Hid (R=(1,0,⟨#[]⟩)):=Lib.hid HR.out.symm
  go_wp2_with fail
  go_ret3
  exact ⟨by rw [HE.out];rfl,HB.out⟩
end Go.Proofs.YtogijkhenihaaaaGreatDoor
set_option linter.unusedVariables false
set_option linter.unusedSimpArgs false
namespace Go.Proofs.YtogijkhenihaaaaGreatDoor
namespace Sg
open Go.Proofs.YtogijkhenihaaaaGreatDoor.Id Go.Proofs.YtogijkhenihaaaaGreatDoor.Chk Go.Proofs.YtogijkhenihaaaaGreatDoor.Ev Go.Proofs.YtogijkhenihaaaaGreatDoor.Sd
def wA:ByteArray:=⟨#[97]⟩
def wG:ByteArray:=⟨#[103]⟩
def wX:ByteArray:=⟨#[1,120,10,0]⟩
theorem wk_print:∃ p:Nat,Prn.print shop=(p,0):=by
 have ht:Prn.text shop=(Prn.jn (Prn.schW shop),0):=by
  unfold Prn.text
  rw [shop_check,if_neg (show ¬((⟨#[]⟩:ByteArray),0).2≠0 by simp),if_neg (by decide +kernel)]
 exact ⟨Sm.print (Prn.jn (Prn.schW shop)).data.toList,by
  unfold Prn.print
  rw [ht,if_neg (show ¬(Prn.jn (Prn.schW shop),0).2≠0 by simp)]⟩
theorem wk_saga:sagaOf shop wG=some ⟨⟨#[103]⟩,⟨#[79]⟩,[⟨⟨#[83]⟩,⟨#[116]⟩,0⟩,⟨⟨#[83]⟩,⟨#[110]⟩,1⟩]⟩:=by kernel_rfl
theorem wk_sag:sag shop wG=⟨⟨#[103]⟩,⟨#[79]⟩,[⟨⟨#[83]⟩,⟨#[116]⟩,0⟩,⟨⟨#[83]⟩,⟨#[110]⟩,1⟩]⟩:=by
 unfold sag
 rw [wk_saga]
 rfl
section
variable {p : Nat} (hp : Prn.print shop = (p, 0))
include hp
theorem wk_found:foundE shop wG=0:=by
 unfold foundE
 rw [hp,wk_saga,if_neg (by simp)]
 rfl
theorem wk_steps:steps shop wG=(2,0):=by
 unfold steps
 rw [wk_found hp,wk_sag,if_neg (by simp)]
 rfl
theorem wk_letE {i:Int} (h0:0≤i) (h2:i<2):letE shop wG wA i 1=0:=by
 unfold letE
 rw [wk_found hp,wk_sag,if_neg (by simp),if_neg (by decide),if_neg (by show ¬(i<0∨((2:Nat):Int)≤i);omega)]
theorem wk_call0:call shop wG wA 0 false 1 wX=(⟨1,1,0,0,⟨#[97,46,48,102]⟩,p,⟨#[83]⟩,⟨#[116]⟩,0,wX⟩,0):=by
 have hst:stp shop wG 0=⟨⟨#[83]⟩,⟨#[116]⟩,0⟩:=by
  unfold stp
  rw [wk_sag]
  rfl
 have hk:keyB wA 0 false=⟨#[97,46,48,102]⟩:=by kernel_rfl
 unfold call base
 rw [wk_letE hp (by decide) (by decide),if_neg (by simp),if_pos rfl,hst,hp,hk]
theorem wk_call1:call shop wG wA 1 false 1 wX=(⟨1,1,1,0,⟨#[97,46,49,102]⟩,p,⟨#[83]⟩,⟨#[110]⟩,0,wX⟩,0):=by
 have hst:stp shop wG 1=⟨⟨#[83]⟩,⟨#[110]⟩,1⟩:=by
  unfold stp
  rw [wk_sag]
  rfl
 have hk:keyB wA 1 false=⟨#[97,46,49,102]⟩:=by kernel_rfl
 unfold call base
 rw [wk_letE hp (by decide) (by decide),if_neg (by simp),if_pos rfl,hst,hp,hk]
theorem wk_call2:call shop wG wA 0 true 1 wX=(⟨1,1,0,0,⟨#[97,46,48,99]⟩,p,⟨#[83]⟩,⟨#[117]⟩,0,wX⟩,0):=by
 have hst:stp shop wG 0=⟨⟨#[83]⟩,⟨#[116]⟩,0⟩:=by
  unfold stp
  rw [wk_sag]
  rfl
 have hb:base shop wG wA 0 1=⟨0,1,0,0,keyB wA 0 false,p,⟨#[83]⟩,⟨#[116]⟩,0,ByteArray.empty⟩:=by
  unfold base
  rw [hst,hp]
 have hu:Sd.undoOf shop ⟨0,1,0,0,keyB wA 0 false,p,⟨#[83]⟩,⟨#[116]⟩,0,ByteArray.empty⟩=⟨#[117]⟩:=by
  unfold Sd.undoOf
  show ((meth shop ⟨#[83]⟩ ⟨#[116]⟩).getD mthZ).undo=_
  kernel_rfl
 have hk:keyB wA 0 true=⟨#[97,46,48,99]⟩:=by kernel_rfl
 unfold call
 rw [wk_letE hp (by decide) (by decide),hb,hu,hk,if_neg (by simp),if_neg (by simp),if_neg (by decide +kernel)]
end
theorem wk_typ:Vl.typE shop (Vl.nmd ⟨#[79]⟩)=0:=by
 have hr:right shop (Vl.nmd ⟨#[79]⟩)=true:=by decide +kernel
 unfold Vl.typE
 rw [if_neg (by rw [shop_check];simp),if_pos hr]
theorem wk_arg:argE shop wG wX=0:=by
 have hd:Cd.decF shop wX.data.toList 12 (Vl.nmd ⟨#[79]⟩) ⟨0,[],0⟩=.ok ⟨4,[⟨7,0,⟨#[]⟩,3⟩,⟨4,0,⟨#[120]⟩,0⟩,⟨3,5,⟨#[]⟩,0⟩,⟨6,0,⟨#[]⟩,0⟩],5⟩:=by kernel_rfl
 unfold argE
 rw [wk_sag]
 unfold Cd.decP
 rw [if_neg (by rw [wk_typ];simp),hd]
 rfl
def wR0:Run:=⟨wA,wG,wX,0,1,0,false,0,⟨#[]⟩⟩
def wR1:Run:=⟨wA,wG,wX,1,1,0,false,0,⟨#[]⟩⟩
def wR2:Run:=⟨wA,wG,wX,0,2,0,false,200,⟨#[]⟩⟩
def wR3:Run:=⟨wA,wG,wX,0,4,0,false,200,⟨#[]⟩⟩
def wL (key:ByteArray) (code:Int):Letter:=⟨2,0,0,0,key,0,⟨#[]⟩,⟨#[]⟩,code,⟨#[]⟩⟩
section
variable {p : Nat} (hp : Prn.print shop = (p, 0))
include hp
theorem wk_begin:begin_ argE shop wG wA 1 wX=(wR0,⟨1,1,0,0,⟨#[97,46,48,102]⟩,p,⟨#[83]⟩,⟨#[116]⟩,0,wX⟩,0):=by
 unfold begin_
 rw [wk_call0 hp,wk_arg]
 rfl
theorem wk_rt0:Rt argE shop wR0:=(begin_ok (A:=argE) (x:=shop) (g:=wG) (id:=wA) (b:=wX) (fr:=1) (by rw [wk_begin hp])).2
theorem wk_took1:took shop wR0 1 3 (wL ⟨#[97,46,48,102]⟩ 0)=(wR1,⟨1,1,1,0,⟨#[97,46,49,102]⟩,p,⟨#[83]⟩,⟨#[110]⟩,0,wX⟩,true,true):=by
 unfold took
 rw [if_neg (by decide),if_neg (by simp [wL]),if_neg (by show ¬(0:Int)=((steps shop wG).1:Int) - 1;rw [wk_steps hp];decide)]
 unfold nextL
 show (wR1,(call shop wG wA 1 false 1 wX).1,true,true)=_
 rw [wk_call1 hp]
theorem wk_reply1:reply argE shop wR0 1 3 (wL ⟨#[97,46,48,102]⟩ 0)=(wR1,⟨1,1,1,0,⟨#[97,46,49,102]⟩,p,⟨#[83]⟩,⟨#[110]⟩,0,wX⟩,true,true):=by
 rw [reply_took (wk_rt0 hp) rfl (by decide) (by decide) rfl (by decide +kernel),wk_took1 hp]
theorem wk_rt1:Rt argE shop wR1:=by
 have h:=took_right (fr:=1) (most:=3) (l:=wL ⟨#[97,46,48,102]⟩ 0) (wk_rt0 hp) rfl
 rwa [wk_took1 hp] at h
theorem wk_took2:took shop wR1 1 3 (wL ⟨#[97,46,49,102]⟩ 200)=(wR2,⟨1,1,0,0,⟨#[97,46,48,99]⟩,p,⟨#[83]⟩,⟨#[117]⟩,0,wX⟩,true,true):=by
 unfold took
 rw [if_neg (by decide),if_pos (by simp [wL])]
 show back shop wR1 1 (if (200:Int)<0∨999<(200:Int) then 999 else 200)=_
 rw [if_neg (by decide)]
 unfold back
 rw [if_neg (by decide)]
 unfold nextL
 show (wR2,(call shop wG wA 0 true 1 wX).1,true,true)=_
 rw [wk_call2 hp]
theorem wk_reply2:reply argE shop wR1 1 3 (wL ⟨#[97,46,49,102]⟩ 200)=(wR2,⟨1,1,0,0,⟨#[97,46,48,99]⟩,p,⟨#[83]⟩,⟨#[117]⟩,0,wX⟩,true,true):=by
 rw [reply_took (wk_rt1 hp) rfl (by decide) (by decide) rfl (by decide +kernel),wk_took2 hp]
theorem wk_rt2:Rt argE shop wR2:=by
 have h:=took_right (fr:=1) (most:=3) (l:=wL ⟨#[97,46,49,102]⟩ 200) (wk_rt1 hp) rfl
 rwa [wk_took2 hp] at h
theorem wk_reply3:reply argE shop wR2 1 3 (wL ⟨#[97,46,48,99]⟩ 0)=(wR3,Letter.zero,false,true):=by
 rw [reply_took (wk_rt2 hp) rfl (by decide) (by decide) rfl (by decide +kernel)]
 unfold took
 rw [if_pos (show wR2.phase=2 from rfl),if_pos (show (wL ⟨#[97,46,48,99]⟩ 0).code=0 from rfl)]
 unfold back
 rw [if_pos (show wR2.at_=0 from rfl)]
 rfl
end
end Sg
end Go.Proofs.YtogijkhenihaaaaGreatDoor
set_option linter.unusedVariables false
set_option linter.unusedSimpArgs false
namespace Go.Proofs.YtogijkhenihaaaaGreatDoor
open Go.RowKit Go.BigFrame
namespace Sg
open Go.Proofs.YtogijkhenihaaaaGreatDoor.Id Go.Proofs.YtogijkhenihaaaaGreatDoor.Chk Go.Proofs.YtogijkhenihaaaaGreatDoor.Ev Go.Proofs.YtogijkhenihaaaaGreatDoor.Sd
structure FineR (x:Sch) (r:Run) (l:Letter):Prop where
 x:FineG x
 id:r.id.size≤5000
 sg:r.saga.size≤5000
 ag:r.arg.size≤5000
 va:r.value.size≤5000
 key:l.key.size≤5000
 body:l.body.size≤5000
structure Gb (w V:World) (S R L:Array Value):Prop where
 bel:Below w.heap.size w V
 s:Bk V w.heap.size 28 S
 r:Bk V (w.heap.size+1) 54 R
 l:Bk V (w.heap.size+2) 56 L
theorem Gb.below {w V V':World} {S R L:Array Value} (h:Gb w V S R L) (hb:Below V.heap.size V V'):Gb w V' S R L:=⟨h.bel.trans (hb.mono h.bel.size),h.s.below hb h.s.lt,h.r.below hb h.r.lt,h.l.below hb h.l.lt⟩
theorem Gb.start (w:World) (S R L:Array Value):Gb w (((w.alloc (.cells S 28)).alloc (.cells R 54)).alloc (.cells L 56)) S R L:=by
 have h1:=Bk.new (w.alloc (.cells S 28)) 54 R
 have h2:=Bk.new ((w.alloc (.cells S 28)).alloc (.cells R 54)) 56 L
 simp only [World.size_alloc] at h1 h2
 exact ⟨(((Below.refl _ _).alloc (Nat.le_refl _) _).alloc (by simp) _).alloc (by simp;omega) _,((Bk.new w _ _).alloc _).alloc _,h1.alloc _,h2⟩
theorem Two.fresh (W:World):Two ((W.alloc (.cells zrun 54)).alloc (.cells #[.int .u8 0,.int .i64 0,.int .i64 0,.int .u64 0,.string ⟨#[]⟩,.int .u64 0,.string ⟨#[]⟩,.string ⟨#[]⟩,.int .i64 0,.string ⟨#[]⟩] 56)) W.heap.size (W.heap.size+1) zrun #[.int .u8 0,.int .i64 0,.int .i64 0,.int .u64 0,.string ⟨#[]⟩,.int .u64 0,.string ⟨#[]⟩,.string ⟨#[]⟩,.int .i64 0,.string ⟨#[]⟩]∧Below W.heap.size W ((W.alloc (.cells zrun 54)).alloc (.cells #[.int .u8 0,.int .i64 0,.int .i64 0,.int .u64 0,.string ⟨#[]⟩,.int .u64 0,.string ⟨#[]⟩,.string ⟨#[]⟩,.int .i64 0,.string ⟨#[]⟩] 56)):=by
 have h2:=Bk.new (W.alloc (.cells zrun 54)) 56 #[.int .u8 0,.int .i64 0,.int .i64 0,.int .u64 0,.string ⟨#[]⟩,.int .u64 0,.string ⟨#[]⟩,.string ⟨#[]⟩,.int .i64 0,.string ⟨#[]⟩]
 rw [World.size_alloc] at h2
 exact ⟨⟨(Bk.new W _ _).alloc _,h2,by omega⟩,((Below.refl _ _).alloc (Nat.le_refl _) _).alloc (by simp) _⟩
end Sg
set_option maxRecDepth 100000 in
set_option maxHeartbeats 16000000 in
theorem sggreat_any (sv:Value) (x:Id.Sch) (r:Sg.Run) (l:Ev.Letter) (w:World) (hv:Id.SchV w none sv x) :
  Calls Tryz.prog 20 #[sv,r.val,l.val] w (Chk.GreatP w (Sg.FineR x r l)):=by
 have HV:=Lib.hid hv
 obtain ⟨A1,n1,c1,A2,n2,c2,A3,n3,c3,rfl,-,-,-⟩:=hv
 obtain ⟨i,sg,ag,a,p,t,st,y,va⟩:=r
 obtain ⟨l0,l1,l2,l3,l4,l5,l6,l7,l8,l9⟩:=l
 unfold Sg.Run.val Sg.Run.cells Ev.Letter.val
 go_enter Tryz.func20,Tryz.ntmps20
 go_upto_region 1 with (fail)
 refine wp_named (fun V hV=>?_)
 have hX:Sg.Gb w V #[.string x.name,.slice A1 n1 c1,.slice A2 n2 c2,.slice A3 n3 c3] #[.string i,.string sg,.string ag,.int .i64 a,.int .u8 (p:Nat),.int .i64 t,.bool st,.int .i64 y,.string va] #[.int .u8 l0,.int .i64 l1,.int .i64 l2,.int .u64 l3,.string l4,.int .u64 l5,.string l6,.string l7,.int .i64 l8,.string l9]:=by rw [hV];exact Sg.Gb.start w _ _ _
 clear hV
 obtain ⟨⟨q0,q1,q2,q3⟩,-⟩:=hX.s.k4
 go_wp2_with fail
 refine (cgreat_any _ x _ (Id.SchV.below hX.bel HV.out)).mono ?_
 rintro e W1 ⟨gb,rfl,hb,hf⟩
 have hX2:=hX.below hb
 clear hX hb q0 q1 q2 q3
 have hX:=hX2
 clear hX2
 cases gb with
 | true =>
  go_wp2_with fail
  go_ret
  exact ⟨true,rfl,hX.bel,fun h=>by cases h⟩
 | false =>
  have HFG:=Lib.hid (hf rfl)
  clear hf
  have x0:=hX.r.cell 0
  have x1:=hX.r.cell 1
  have x2:=hX.r.cell 2
  have x8:=hX.r.cell 8
  have y4:=hX.l.cell 4
  have y9:=hX.l.cell 9
  simp only [List.getElem?_toArray,List.getElem?_cons_zero,List.getElem?_cons_succ] at x0 x1 x2 x8 y4 y9
  by_cases hc0:(5000:Int)<(i.size:Int)
  case pos =>
   go_wp2_with fail
   go_ret
   exact ⟨true,rfl,hX.bel,fun h=>by cases h⟩
  by_cases hc1:(5000:Int)<(sg.size:Int)
  case pos =>
   go_wp2_with fail
   go_ret
   exact ⟨true,rfl,hX.bel,fun h=>by cases h⟩
  by_cases hc2:(5000:Int)<(ag.size:Int)
  case pos =>
   go_wp2_with fail
   go_ret
   exact ⟨true,rfl,hX.bel,fun h=>by cases h⟩
  by_cases hc3:(5000:Int)<(va.size:Int)
  case pos =>
   go_wp2_with fail
   go_ret
   exact ⟨true,rfl,hX.bel,fun h=>by cases h⟩
  by_cases hc4:(5000:Int)<(l4.size:Int)
  case pos =>
   go_wp2_with fail
   go_ret
   exact ⟨true,rfl,hX.bel,fun h=>by cases h⟩
  by_cases hc5:(5000:Int)<(l9.size:Int)
  case pos =>
   go_wp2_with fail
   go_ret
   exact ⟨true,rfl,hX.bel,fun h=>by cases h⟩
  go_wp2_with fail
  go_ret
  exact ⟨_,rfl,hX.bel,fun _=>⟨HFG.out,by show i.size≤5000;omega,by show sg.size≤5000;omega,by show ag.size≤5000;omega,by show va.size≤5000;omega,by show l4.size≤5000;omega,by show l9.size≤5000;omega⟩⟩
namespace Sg
/-- The boxes of wakes: the shop's, a run's, a letter's. -/
structure Wk (w1 V:World) (g:Nat) (S R L:Array Value):Prop where
 bel:Below w1.heap.size w1 V
 s:Bk V w1.heap.size 28 S
 q:Two V g (g+1) R L
 lt:w1.heap.size<g
theorem Wk.below {w1 V V':World} {g:Nat} {S R L:Array Value} (h:Wk w1 V g S R L) (hb:Below V.heap.size V V'):Wk w1 V' g S R L:=⟨h.bel.trans (hb.mono h.bel.size),h.s.below hb h.s.lt,h.q.below hb h.q.r.lt h.q.l.lt,h.lt⟩
theorem Wk.both {w1 V:World} {g:Nat} {S R L:Array Value} (h:Wk w1 V g S R L) (c c':Array Value):Wk w1 ((V.setRow g c).setRow (g+1) c') g S c c':=by
 have hlt:=h.lt
 exact ⟨below_both h.bel (by omega) (by omega) _ _,(h.s.row_far (by omega) _).row_far (by omega) _,h.q.both _ _,hlt⟩
theorem Wk.setR {w1 V:World} {g:Nat} {S R L:Array Value} (h:Wk w1 V g S R L) (c:Array Value):Wk w1 (V.setRow g c) g S c L:=by
 have hlt:=h.lt
 exact ⟨below_row h.bel (by omega) _,h.s.row_far (by omega) _,h.q.setR _,hlt⟩
end Sg
set_option maxRecDepth 100000 in
set_option maxHeartbeats 32000000 in
theorem wakes25_any (w:World) (hk:Tk.KW w):Calls Tryz.prog 21 #[] w fun e w'=>e=.returned (.bool true)∧Below w.heap.size w w':=by
 have HK:=Lib.hid hk
 clear hk
 obtain ⟨p,hp⟩:=Sg.wk_print
 have HP:=Lib.hid hp
 clear hp
 have hFS:Chk.Fine Chk.shop:=Chk.shop_fine _ (by decide)
 have HF:=Lib.hid hFS
 clear hFS
 go_enter Tryz.func21,Tryz.ntmps21
 go_wp2_with fail
 refine (shop_any _).mono ?_
 rintro e w1 ⟨v,rfl,hb1,hsv⟩
 have HB1:=Lib.hid hb1
 have HS1:=Lib.hid (Id.SchV.weak (Id.wk_none _) hsv:Id.SchV w1 none v Chk.shop)
 have HK1:=Lib.hid (HK.out.below hb1)
 clear hb1 hsv HK
 obtain ⟨A1,n1,c1,A2,n2,c2,A3,n3,c3,rfl,-⟩:=HS1.out
 go_upto_region 2 with (fail)
 refine wp_named (fun V hV=>?_)
 obtain ⟨hb,hqS,-⟩:=fresh_box hV
 clear hV
 obtain ⟨⟨q0,q1,q2,q3⟩,-⟩:=hqS.k4
 have h:=sgbegin_any _ Chk.shop HF.out Sg.wG Sg.wA (by decide) 1 Sg.wX (by decide) V (HK1.out.below hb) (Id.SchV.below hb HS1.out)
 rw [Sg.wk_begin HP.out] at h
 unfold Sg.out3V Sg.wR0 Sg.wG Sg.wA Sg.wX Sg.Run.val Sg.Run.cells Ev.Letter.val at h
 simp only [Int.cast_ofNat_Int] at h
 have HC:=Lib.hid h
 clear h
 go_wp2_with fail
 refine HC.out.mono ?_
 rintro e w2 ⟨rfl,hb2⟩
 have HB2:=Lib.hid (hb.trans (hb2.mono hb.size))
 have HQS:=Lib.hid (hqS.below hb2 hqS.lt)
 clear hb hb2 HC hqS q0 q1 q2 q3
 have hFr:=Sg.Two.fresh w2
 have hQ:=hFr.1
 (have hq1:=hQ.r;have hq2:=(hQ.setR #[.string ⟨#[97]⟩,.string ⟨#[103]⟩,.string ⟨#[1,120,10,0]⟩,.int .i64 0,.int .u8 1,.int .i64 0,.bool false,.int .i64 0,.string ⟨#[]⟩]).l;unfold Bk at hq1 hq2)
 go_upto_region 3 with (refine wpList_store_row rfl _ _ _ rfl _ _ rfl rfl _ _ (by with_reducible assumption) (by kernel_rfl) (by rfl) (by simp [Value.oneCell']) ?_)
 refine wp_named (fun V3 hV=>?_)
 obtain ⟨g,Hg⟩:∃ n,Hid (w2.heap.size=n):=⟨_,Lib.hid rfl⟩
 have hX:Sg.Wk w1 V3 g #[.string Chk.shop.name,.slice A1 n1 c1,.slice A2 n2 c2,.slice A3 n3 c3] #[.string ⟨#[97]⟩,.string ⟨#[103]⟩,.string ⟨#[1,120,10,0]⟩,.int .i64 0,.int .u8 1,.int .i64 0,.bool false,.int .i64 0,.string ⟨#[]⟩] #[.int .u8 1,.int .i64 1,.int .i64 0,.int .u64 0,.string ⟨#[97,46,48,102]⟩,.int .u64 (p:Nat),.string ⟨#[83]⟩,.string ⟨#[116]⟩,.int .i64 0,.string ⟨#[1,120,10,0]⟩]:=by
  have hb:Below w2.heap.size w2 V3:=by rw [hV];exact Sg.below_both hFr.2 (Nat.le_refl _) (by omega) _ _
  have hlt:=HQS.out.lt
  rw [←Hg.out]
  exact ⟨HB2.out.trans (hb.mono HB2.out.size),HQS.out.below hb hlt,by rw [hV];exact hQ.both _ _,hlt⟩
 clear hV hq1 hq2 hQ hFr HB2 HQS
 rw [Hg.out]
 have y4:=hX.q.l.cell 4
 have y7:=hX.q.l.cell 7
 simp only [List.getElem?_toArray,List.getElem?_cons_zero,List.getElem?_cons_succ] at y4 y7
 have hL:=hX.q.r
 have hS:=hX.s
 have hRo:=sgright_any _ Chk.shop HF.out Sg.wR0 (by decide) (by decide) V3 (HK1.out.below hX.bel) (Id.SchV.below hX.bel HS1.out)
 rw [Sg.rightB_yes (Sg.wk_rt0 HP.out)] at hRo
 unfold Sg.wR0 Sg.wG Sg.wA Sg.wX Sg.Run.val Sg.Run.cells at hRo
 simp only [Int.cast_ofNat_Int] at hRo
 have HC:=Lib.hid hRo
 clear hRo
 go_wp2_with (first | (refine Sg.list_load_rowG (by kernel_rfl) _ _ rfl _ rfl _ _ _ hS Tryz.underlying28 rfl (by kernel_rfl) ?_) | (refine Sg.list_load_rowG (by kernel_rfl) _ _ rfl _ rfl _ _ _ hL Tryz.underlying54 rfl (by kernel_rfl) ?_))
 refine HC.out.mono ?_
 rintro e w5 ⟨rfl,hb⟩
 have hX2:=hX.below hb
 clear hX hb hL hS HC y4 y7
 have hX:=hX2
 clear hX2
 have hL:=hX.q.r
 have hS:=hX.s
 have h:=sgreply_any _ Chk.shop HF.out Sg.wR0 (by decide) (by decide) 1 3 (Sg.wL ⟨#[97,46,48,102]⟩ 0) w5 (HK1.out.below hX.bel) (Id.SchV.below hX.bel HS1.out)
 rw [Sg.wk_reply1 HP.out] at h
 unfold Sg.outV Sg.wR0 Sg.wR1 Sg.wL Sg.wG Sg.wA Sg.wX Sg.Run.val Sg.Run.cells Ev.Letter.val at h
 simp only [Int.cast_ofNat_Int] at h
 have HC:=Lib.hid h
 clear h
 go_wp2_with (first | (refine wpList_load_row rfl _ _ rfl _ rfl _ _ _ _ (Sg.bk hS) Tryz.underlying28 rfl (by kernel_rfl) ?_) | (refine wpList_load_row rfl _ _ rfl _ rfl _ _ _ _ (Sg.bk hL) Tryz.underlying54 rfl (by kernel_rfl) ?_))
 refine HC.out.mono ?_
 rintro e w6 ⟨rfl,hb⟩
 have hX2:=hX.below hb
 clear hX hb hL hS HC
 have hX:=hX2
 clear hX2
 have hQ:=hX.q
 (have hq1:=hQ.r;have hq2:=(hQ.setR #[.string ⟨#[97]⟩,.string ⟨#[103]⟩,.string ⟨#[1,120,10,0]⟩,.int .i64 1,.int .u8 1,.int .i64 0,.bool false,.int .i64 0,.string ⟨#[]⟩]).l;unfold Bk at hq1 hq2)
 go_upto_region 6 with (refine wpList_store_row rfl _ _ _ rfl _ _ rfl rfl _ _ (by with_reducible assumption) (by kernel_rfl) (by rfl) (by simp [Value.oneCell']) ?_)
 refine wp_named (fun V6 hV=>?_)
 have hX2:=hX.both #[.string ⟨#[97]⟩,.string ⟨#[103]⟩,.string ⟨#[1,120,10,0]⟩,.int .i64 1,.int .u8 1,.int .i64 0,.bool false,.int .i64 0,.string ⟨#[]⟩] #[.int .u8 1,.int .i64 1,.int .i64 1,.int .u64 0,.string ⟨#[97,46,49,102]⟩,.int .u64 (p:Nat),.string ⟨#[83]⟩,.string ⟨#[110]⟩,.int .i64 0,.string ⟨#[1,120,10,0]⟩]
 rw [←hV] at hX2
 clear hX hQ hq1 hq2 hV
 have hX:=hX2
 clear hX2
 have x3:=hX.q.r.cell 3
 have y4:=hX.q.l.cell 4
 simp only [List.getElem?_toArray,List.getElem?_cons_zero,List.getElem?_cons_succ] at x3 y4
 go_upto_region 8 with (fail)
 clear x3 y4
 have hL:=hX.q.r
 have hS:=hX.s
 have h:=sgreply_any _ Chk.shop HF.out Sg.wR1 (by decide) (by decide) 1 3 (Sg.wL ⟨#[97,46,49,102]⟩ 200) V6 (HK1.out.below hX.bel) (Id.SchV.below hX.bel HS1.out)
 rw [Sg.wk_reply2 HP.out] at h
 unfold Sg.outV Sg.wR1 Sg.wR2 Sg.wL Sg.wG Sg.wA Sg.wX Sg.Run.val Sg.Run.cells Ev.Letter.val at h
 simp only [Int.cast_ofNat_Int] at h
 have HC:=Lib.hid h
 clear h
 go_wp2_with (first | (refine wpList_load_row rfl _ _ rfl _ rfl _ _ _ _ (Sg.bk hS) Tryz.underlying28 rfl (by kernel_rfl) ?_) | (refine wpList_load_row rfl _ _ rfl _ rfl _ _ _ _ (Sg.bk hL) Tryz.underlying54 rfl (by kernel_rfl) ?_))
 refine HC.out.mono ?_
 rintro e w8 ⟨rfl,hb⟩
 have hX2:=hX.below hb
 clear hX hb hL hS HC
 have hX:=hX2
 clear hX2
 have hQ:=hX.q
 (have hq1:=hQ.r;have hq2:=(hQ.setR #[.string ⟨#[97]⟩,.string ⟨#[103]⟩,.string ⟨#[1,120,10,0]⟩,.int .i64 0,.int .u8 2,.int .i64 0,.bool false,.int .i64 200,.string ⟨#[]⟩]).l;unfold Bk at hq1 hq2)
 go_upto_region 9 with (refine wpList_store_row rfl _ _ _ rfl _ _ rfl rfl _ _ (by with_reducible assumption) (by kernel_rfl) (by rfl) (by simp [Value.oneCell']) ?_)
 refine wp_named (fun V9 hV=>?_)
 have hX2:=hX.both #[.string ⟨#[97]⟩,.string ⟨#[103]⟩,.string ⟨#[1,120,10,0]⟩,.int .i64 0,.int .u8 2,.int .i64 0,.bool false,.int .i64 200,.string ⟨#[]⟩] #[.int .u8 1,.int .i64 1,.int .i64 0,.int .u64 0,.string ⟨#[97,46,48,99]⟩,.int .u64 (p:Nat),.string ⟨#[83]⟩,.string ⟨#[117]⟩,.int .i64 0,.string ⟨#[1,120,10,0]⟩]
 rw [←hV] at hX2
 clear hX hQ hq1 hq2 hV
 have hX:=hX2
 clear hX2
 have x4:=hX.q.r.cell 4
 have y4:=hX.q.l.cell 4
 have y7:=hX.q.l.cell 7
 simp only [List.getElem?_toArray,List.getElem?_cons_zero,List.getElem?_cons_succ] at x4 y4 y7
 go_upto_region 11 with (fail)
 clear x4 y4 y7
 have hL:=hX.q.r
 have hS:=hX.s
 have h:=sgreply_any _ Chk.shop HF.out Sg.wR2 (by decide) (by decide) 1 3 (Sg.wL ⟨#[97,46,48,99]⟩ 0) V9 (HK1.out.below hX.bel) (Id.SchV.below hX.bel HS1.out)
 rw [Sg.wk_reply3 HP.out] at h
 unfold Sg.outV Sg.wR2 Sg.wR3 Sg.wL Sg.wG Sg.wA Sg.wX Sg.Run.val Sg.Run.cells Ev.Letter.zero Ev.Letter.val at h
 simp only [Int.cast_ofNat_Int] at h
 have HC:=Lib.hid h
 clear h
 go_wp2_with (first | (refine wpList_load_row rfl _ _ rfl _ rfl _ _ _ _ (Sg.bk hS) Tryz.underlying28 rfl (by kernel_rfl) ?_) | (refine wpList_load_row rfl _ _ rfl _ rfl _ _ _ _ (Sg.bk hL) Tryz.underlying54 rfl (by kernel_rfl) ?_))
 refine HC.out.mono ?_
 rintro e w11 ⟨rfl,hb⟩
 have hX2:=hX.below hb
 clear hX hb hL hS HC
 have hX:=hX2
 clear hX2
 have hQ:=hX.q
 (have hq1:=hQ.r;have hq2:=(hQ.setR #[.string ⟨#[97]⟩,.string ⟨#[103]⟩,.string ⟨#[1,120,10,0]⟩,.int .i64 0,.int .u8 4,.int .i64 0,.bool false,.int .i64 200,.string ⟨#[]⟩]).l;unfold Bk at hq1 hq2)
 go_upto_region 12 with (refine wpList_store_row rfl _ _ _ rfl _ _ rfl rfl _ _ (by with_reducible assumption) (by kernel_rfl) (by rfl) (by simp [Value.oneCell']) ?_)
 refine wp_named (fun V12 hV=>?_)
 have hX2:=hX.setR #[.string ⟨#[97]⟩,.string ⟨#[103]⟩,.string ⟨#[1,120,10,0]⟩,.int .i64 0,.int .u8 4,.int .i64 0,.bool false,.int .i64 200,.string ⟨#[]⟩]
 rw [←hV] at hX2
 clear hX hQ hq1 hq2 hV
 have hX:=hX2
 clear hX2
 have ho:=sgoutcome_any Sg.wR3 V12
 have hw3:Sg.outcome Sg.wR3=(4,200,⟨#[]⟩):=rfl
 rw [hw3] at ho
 unfold Sg.wR3 Sg.wG Sg.wA Sg.wX Sg.Run.val Sg.Run.cells at ho
 simp only [Int.cast_ofNat_Int] at ho
 have HC:=Lib.hid ho
 clear ho
 have hL:=hX.q.r
 go_wp2_with (refine wpList_load_row rfl _ _ rfl _ rfl _ _ _ _ hL Tryz.underlying54 rfl (by kernel_rfl) ?_)
 refine HC.out.mono ?_
 rintro e w13 ⟨rfl,hb⟩
 have hX2:=hX.below hb
 clear hX hb hL HC
 have hX:=hX2
 clear hX2
 have x4:=hX.q.r.cell 4
 simp only [List.getElem?_toArray,List.getElem?_cons_zero,List.getElem?_cons_succ] at x4
 go_wp2_with fail
 go_ret
 exact ⟨rfl,HB1.out.trans (hX.bel.mono HB1.out.size)⟩
end Go.Proofs.YtogijkhenihaaaaGreatDoor
set_option linter.unusedVariables false
set_option linter.unusedSimpArgs false
namespace Go.Proofs.YtogijkhenihaaaaGreatDoor
open Go.RowKit
namespace Sg
open Go.Proofs.YtogijkhenihaaaaGreatDoor.Id
/-- What Great says of a run alone. -/
def Great0 (w:World) (r:Run) (e:Ending) (w':World):Prop:=∃ b,e=.returned (.bool b)∧Below w.heap.size w w'∧(b=false→r.id.size≤5000∧r.saga.size≤5000∧r.arg.size≤5000∧r.value.size≤5000)
theorem no_sch (w:World):SchV w none (.agg #[.string ⟨#[]⟩,.slice none 0 0,.slice none 0 0,.slice none 0 0]) ⟨⟨#[]⟩,[],[],[]⟩ :=
 ⟨none,0,0,none,0,0,none,0,0,rfl,⟨[],rfl,by simp,⟨rfl,none,0,rfl,Nat.le_refl _,by decide,fun _=>⟨rfl,rfl⟩,Lie.nil _ _⟩,fun i h=>by simp at h⟩,⟨[],rfl,by simp,⟨rfl,none,0,rfl,Nat.le_refl _,by decide,fun _=>⟨rfl,rfl⟩,Lie.nil _ _⟩,fun i h=>by simp at h⟩,⟨[],rfl,by simp,⟨rfl,none,0,rfl,Nat.le_refl _,by decide,fun _=>⟨rfl,rfl⟩,Lie.nil _ _⟩,fun i h=>by simp at h⟩⟩
end Sg
theorem sggreat0_any (r:Sg.Run) (w:World) :
  Calls Tryz.prog 20 #[.agg #[.string ⟨#[]⟩,.slice none 0 0,.slice none 0 0,.slice none 0 0],r.val,.agg #[.int .u8 0,.int .i64 0,.int .i64 0,.int .u64 0,.string ⟨#[]⟩,.int .u64 0,.string ⟨#[]⟩,.string ⟨#[]⟩,.int .i64 0,.string ⟨#[]⟩]] w (Sg.Great0 w r):=by
 refine (sggreat_any _ ⟨⟨#[]⟩,[],[],[]⟩ r Ev.Letter.zero w (Sg.no_sch w)).mono ?_
 rintro e w' ⟨b,he,hb,hf⟩
 exact ⟨b,he,hb,fun h=>⟨(hf h).id,(hf h).sg,(hf h).ag,(hf h).va⟩⟩
theorem sgwk_any (w:World) (hk:Kw.L6 w):Calls Tryz.prog 21 #[] w fun e w'=>e=.returned (.bool true)∧Below w.heap.size w w':=wakes25_any w hk.kw
end Go.Proofs.YtogijkhenihaaaaGreatDoor
set_option linter.unusedVariables false
namespace Go.Proofs.YtogijkhenihaaaaGreatDoor
open Go.Joins Go.ChangeShapes Go.WideShapes Go.RowKit Go.Deep
section
variable {H : Type} {enc : TypeId × Value → H} {P : Program} {w : World} {base : Nat} {spare : Nat → Bool} {held : Bool}
theorem Sg.open_agg9 {r:Reach} {b0:Nat} {t:TypeId} {f0 f1 f2 f3 f4 f5 f6 f7 f8:Field} {v:Value} {d:DataW H} {p:List MemPlace} (hs:P.underlying t=some (.struct #[f0,f1,f2,f3,f4,f5,f6,f7,f8])) (hone:oneCellFields P #[f0,f1,f2,f3,f4,f5,f6,f7,f8]=true) (hC:P.cellsOf t=9)
  (hv:Value.okWide P w r b0 t v) (h:DataW.Trod enc P w base spare held t v d p) :
  ∃ (v0 v1 v2 v3 v4 v5 v6 v7 v8:Value) (y0 y1 y2 y3 y4 y5 y6 y7 y8:DataW H × List MemPlace) (n:Nat),v=.agg #[v0,v1,v2,v3,v4,v5,v6,v7,v8]∧DataW.trod enc P w base spare held n f0.type [v0]=some y0∧DataW.trod enc P w base spare held n f1.type [v1]=some y1∧DataW.trod enc P w base spare held n f2.type [v2]=some y2∧DataW.trod enc P w base spare held n f3.type [v3]=some y3∧DataW.trod enc P w base spare held n f4.type [v4]=some y4∧DataW.trod enc P w base spare held n f5.type [v5]=some y5∧DataW.trod enc P w base spare held n f6.type [v6]=some y6∧DataW.trod enc P w base spare held n f7.type [v7]=some y7∧DataW.trod enc P w base spare held n f8.type [v8]=some y8:=by
 obtain ⟨cs,rfl,hsz⟩:=okWide_struct hs hv
 obtain ⟨l⟩:=cs
 match l,hsz.trans hC with
 | [c0,c1,c2,c3,c4,c5,c6,c7,c8],_ =>
  obtain ⟨fuel,hf⟩:=h
  obtain ⟨xs,n,_,hx,_,hlen,hg⟩:=DataW.trod_struct hs hf
  obtain ⟨o0,k0⟩:=hone_of hone 0 f0 rfl
  obtain ⟨o1,k1⟩:=hone_of hone 1 f1 rfl
  obtain ⟨o2,k2⟩:=hone_of hone 2 f2 rfl
  obtain ⟨o3,k3⟩:=hone_of hone 3 f3 rfl
  obtain ⟨o4,k4⟩:=hone_of hone 4 f4 rfl
  obtain ⟨o5,k5⟩:=hone_of hone 5 f5 rfl
  obtain ⟨o6,k6⟩:=hone_of hone 6 f6 rfl
  obtain ⟨o7,k7⟩:=hone_of hone 7 f7 rfl
  obtain ⟨o8,k8⟩:=hone_of hone 8 f8 rfl
  match xs,hlen with
  | [y0,y1,y2,y3,y4,y5,y6,y7,y8],_ =>
   exact ⟨c0,c1,c2,c3,c4,c5,c6,c7,c8,y0,y1,y2,y3,y4,y5,y6,y7,y8,n,rfl,by simpa [Value.cells,o0,k0] using hg 0 f0 rfl,by simpa [Value.cells,o1,k1] using hg 1 f1 rfl,by simpa [Value.cells,o2,k2] using hg 2 f2 rfl,by simpa [Value.cells,o3,k3] using hg 3 f3 rfl,by simpa [Value.cells,o4,k4] using hg 4 f4 rfl,by simpa [Value.cells,o5,k5] using hg 5 f5 rfl,by simpa [Value.cells,o6,k6] using hg 6 f6 rfl,by simpa [Value.cells,o7,k7] using hg 7 f7 rfl,by simpa [Value.cells,o8,k8] using hg 8 f8 rfl⟩
end
theorem Sg.int_nat {k:IntKind} {n:Int} (h0:k.min=0) (h:(Lit.int k n).wf=true):∃ m:Nat,n=m:=by
 have:k.min≤n:=by simp [Lit.wf] at h;omega
 exact ⟨n.toNat,by omega⟩
theorem Sg.int_rng {n:Int} (h:(Lit.int .i64 n).wf=true):-9223372036854775808≤n∧n≤9223372036854775807:=by
 have h1:IntKind.i64.min=-9223372036854775808:=rfl
 have h2:IntKind.i64.max=9223372036854775807:=rfl
 simp [Lit.wf] at h
 omega
set_option maxRecDepth 100000 in
theorem open_run {H:Type} {enc:TypeId × Value→H} {w:World} {base b0:Nat} {spare:Nat→Bool} {held:Bool} {r:Reach} {v:Value} {d:DataW H} {p:List MemPlace} (hv:Value.okWide Tryz.prog w r b0 54 v)
  (h:DataW.Trod enc Tryz.prog w base spare held 54 v d p):∃ l:Sg.Run,v=l.val∧l.ok:=by
 obtain ⟨v0,v1,v2,v3,v4,v5,v6,v7,v8,y0,y1,y2,y3,y4,y5,y6,y7,y8,n,rfl,t0,t1,t2,t3,t4,t5,t6,t7,t8⟩:=Sg.open_agg9 Tryz.underlying54 (by kernel_rfl) (by kernel_rfl) hv h
 obtain ⟨n0,e0,_,w0⟩:=DataW.trod_string Tryz.underlying9 t0
 obtain ⟨n1,e1,_,w1⟩:=DataW.trod_string Tryz.underlying9 t1
 obtain ⟨n2,e2,_,w2⟩:=DataW.trod_string Tryz.underlying9 t2
 obtain ⟨n3,e3,_,w3⟩:=DataW.trod_int Tryz.underlying3 t3
 obtain ⟨n4,e4,_,w4⟩:=DataW.trod_int Tryz.underlying5 t4
 obtain ⟨n5,e5,_,w5⟩:=DataW.trod_int Tryz.underlying3 t5
 obtain ⟨n6,e6,_⟩:=DataW.trod_bool Tryz.underlying4 t6
 obtain ⟨n7,e7,_,w7⟩:=DataW.trod_int Tryz.underlying3 t7
 obtain ⟨n8,e8,_,w8⟩:=DataW.trod_string Tryz.underlying9 t8
 simp only [List.cons.injEq,and_true] at e0 e1 e2 e3 e4 e5 e6 e7 e8
 subst e0 e1 e2 e3 e4 e5 e6 e7 e8
 obtain ⟨k4,rfl⟩:=Sg.int_nat rfl w4
 have x4:IntKind.u8.max=255:=rfl
 have b4:(k4:Int)≤IntKind.u8.max:=by simp [Lit.wf] at w4;omega
 unfold maxLen at w0 w1 w2 w8
 exact ⟨⟨n0,n1,n2,n3,k4,n5,n6,n7,n8⟩,rfl,⟨w0,w1,w2,w8,Sg.int_rng w3,Sg.int_rng w5,Sg.int_rng w7,show k4<256 by omega⟩⟩
end Go.Proofs.YtogijkhenihaaaaGreatDoor
set_option linter.unusedVariables false
set_option linter.unusedSimpArgs false
namespace Go.Proofs.YtogijkhenihaaaaGreatDoor
open Go.RowKit Go.BigFrame
namespace Sg
theorem pack_len {r:Run} (h:r.ok) (hz:r.id.size≤5000∧r.saga.size≤5000∧r.arg.size≤5000∧r.value.size≤5000):(packL r).length≤30000:=by
 obtain ⟨z1,z2,z3,z4⟩:=hz
 have h1:=txt_len r.id h.id
 have h2:=txt_len r.saga h.saga
 have h3:=txt_len r.arg h.arg
 have h4:=txt_len r.value h.value
 have h5:=semi_len (nums r) (nums_range h)
 have h6:(nums r).length=5:=rfl
 rw [packL_eq]
 unfold txts
 simp only [List.flatMap_cons,List.flatMap_nil,List.append_nil,List.length_append]
 omega
theorem size_pack (r:Run):r.id.size≤(packL r).length∧r.saga.size≤(packL r).length∧r.arg.size≤(packL r).length∧r.value.size≤(packL r).length:=by
 have hs:∀ s:ByteArray,s.size≤(txt s).length:=fun s=>by
  unfold txt
  simp
  omega
 have h1:=hs r.id
 have h2:=hs r.saga
 have h3:=hs r.arg
 have h4:=hs r.value
 rw [packL_eq]
 unfold txts
 simp only [List.flatMap_cons,List.flatMap_nil,List.append_nil,List.length_append]
 omega
theorem readL_of {b:List UInt8} {r:Run} (h:readL b=some r):r.ok∧packL r=b:=by
 unfold readL at h
 split at h
 ·rename_i hx
  injection h with h
  rw [←h]
  exact hx.choose_spec
 ·cases h
end Sg
set_option maxRecDepth 100000 in
set_option maxHeartbeats 16000000 in
theorem sagaBack_walk (r:Sg.Run) (b:ByteArray) (hok:r.ok) (hb:b.size≤maxLen) (w:World) (hk:Kw.L6 w) :
  Calls Tryz.prog 8 #[r.val,.string b] w fun e w'=>e=.returned (.bool true)∧Below w.heap.size w w':=by
 have HK:=Lib.hid hk
 have HOK:=Lib.hid hok
 have HGR:=Lib.hid (fun W=>sggreat0_any r W)
 have HPK:=Lib.hid (fun hz W hk=>sgpack_any r hok hz W hk)
 have HPL:=Lib.hid (Sg.pack_len hok)
 have hRR:Sg.readL (Sg.packL r)=some r:=Sg.readL_some hok rfl
 obtain ⟨PS,HPS⟩:∃ PS:ByteArray,Hid ((⟨(Sg.packL r).toArray⟩:ByteArray)=PS):=⟨_,Lib.hid rfl⟩
 have HRD:Hid (∀ W,PS.size≤1000000→Kw.L6 W→Calls Tryz.prog 32 #[.string PS] W fun e w'=>e=.returned (.tuple #[r.val,.bool true])∧Below W.heap.size W w'):=Lib.hid (fun W hz hk=>by
  have h:=sgread_any PS hz W hk
  rw [←HPS.out] at h
  rw [show (⟨(Sg.packL r).toArray⟩:ByteArray).data.toList=Sg.packL r from rfl,hRR,HPS.out] at h
  exact h)
 have HPZ:Hid (PS.size=(Sg.packL r).length):=Lib.hid (by rw [←HPS.out];show (Sg.packL r).toArray.size=_;rw [List.size_toArray])
 rw [HPS.out] at HPK
 clear hk hok hRR
 obtain ⟨id0,s,a,n,p,t,st,y,v⟩:=r
 unfold Sg.Run.val Sg.Run.cells at HRD HGR HPK ⊢
 simp only at HRD HGR HPK ⊢
 go_enter Tryz.func8,Tryz.ntmps8
 go_upto_region 1 with (fail)
 refine wp_named (fun V hV=>?_)
 obtain ⟨hbV,hq,-⟩:=fresh_box hV
 have HB:=Lib.hid hbV
 have hL:=Sg.bk hq
 clear hV hbV
 go_wp2_with (refine wpList_load_row rfl _ _ rfl _ rfl _ _ _ _ hL Tryz.underlying54 rfl (by kernel_rfl) ?_)
 refine (HGR.out V).mono ?_
 rintro e W1 ⟨g,rfl,hb1,hg⟩
 have HB1:=Lib.hid (HB.out.trans (hb1.mono HB.out.size))
 have HQ1:=Lib.hid (hq.below hb1 hq.lt)
 have HG:=Lib.hid hg
 clear hb1 hg hL hq HGR HB
 cases g with
 | true =>
  go_wp2_with fail
  refine (sgwk_any _ (HK.out.below HB1.out)).mono ?_
  rintro e W2 ⟨rfl,hb2⟩
  go_wp2_with fail
  go_ret
  exact ⟨rfl,HB1.out.trans (hb2.mono HB1.out.size)⟩
 | false =>
  have HSZ:=Lib.hid (HG.out rfl)
  have HPB:Hid (PS.size≤1000000):=Lib.hid (by rw [HPZ.out];exact Nat.le_trans (HPL.out HSZ.out) (by decide))
  have HPK2:=Lib.hid (HPK.out ⟨Nat.le_trans HSZ.out.1 (by decide),Nat.le_trans HSZ.out.2.1 (by decide),Nat.le_trans HSZ.out.2.2.1 (by decide),Nat.le_trans HSZ.out.2.2.2 (by decide)⟩)
  clear HG HPL HPK HSZ HPZ
  have hL:=Sg.bk HQ1.out
  by_cases h9:9000<b.size
  case' pos =>
   have h9i:(9000:Int)<(b.size:Int):=by omega
   go_upto_region 5 with (fail)
   obtain ⟨c,Hc⟩:∃ c,Hid (b.extract 0 9000=c):=⟨_,Lib.hid rfl⟩
   rw [Hc.out]
   have hc:c.size≤9000:=by rw [←Hc.out,ByteArray.size_extract];omega
   clear Hc h9 h9i
  case' neg =>
   have h9i:¬(9000:Int)<(b.size:Int):=by omega
   go_upto_region 5 with (fail)
   obtain ⟨c,rfl⟩:∃ c,c=b:=⟨_,rfl⟩
   have hc:c.size≤9000:=by omega
   clear h9 h9i
  all_goals
   have HC:=Lib.hid hc
   go_wp2_with (refine wpList_load_row rfl _ _ rfl _ rfl _ _ _ _ hL Tryz.underlying54 rfl (by kernel_rfl) ?_)
   refine (HPK2.out _ (HK.out.below HB1.out)).mono ?_
   rintro e W2 ⟨rfl,hb2⟩
   have HB2:=Lib.hid (HB1.out.trans (hb2.mono HB1.out.size))
   have HQ2:=Lib.hid (HQ1.out.below hb2 HQ1.out.lt)
   clear hb2 hL
   go_wp2_with fail
   refine (HRD.out _ HPB.out (HK.out.below HB2.out)).mono ?_
   rintro e W3 ⟨rfl,hb3⟩
   have HB3:=Lib.hid (HB2.out.trans (hb3.mono HB2.out.size))
   have HQ3:=Lib.hid (HQ2.out.below hb3 HQ2.out.lt)
   clear hb3
   go_upto_region 6 with (fail)
   refine wp_named (fun V4 hV=>?_)
   obtain ⟨hb4,hq4,-⟩:=fresh_box hV
   have HB4:=Lib.hid (HB3.out.trans (hb4.mono HB3.out.size))
   have hL:=Sg.bk (HQ3.out.below hb4 HQ3.out.lt)
   have hL2:=Sg.bk hq4
   clear hV hb4 hq4
   go_wp2_with (first | (refine Sg.list_load_rowG (by kernel_rfl) _ _ rfl _ rfl _ _ _ hL2 Tryz.underlying54 rfl (by kernel_rfl) ?_) | (refine Sg.list_load_rowG (by kernel_rfl) _ _ rfl _ rfl _ _ _ hL Tryz.underlying54 rfl (by kernel_rfl) ?_))
   clear hL hL2
   rcases hR:Sg.readL c.data.toList with _ | q
   ·have h:=sgread_any c (by have:=HC.out;omega) V4 (HK.out.below HB4.out)
    rw [hR] at h
    have h:Calls Tryz.prog 32 #[.string c] V4 fun e w'=>e=.returned (.tuple #[.agg #[.string ⟨#[]⟩,.string ⟨#[]⟩,.string ⟨#[]⟩,.int .i64 0,.int .u8 0,.int .i64 0,.bool false,.int .i64 0,.string ⟨#[]⟩],.bool false])∧Below V4.heap.size V4 w':=h
    refine h.mono ?_
    rintro e W5 ⟨rfl,hb5⟩
    have HB5:=Lib.hid (HB4.out.trans (hb5.mono HB4.out.size))
    clear h hb5 hR
    go_upto_region 10 with (fail)
    refine wp_named (fun V6 hV=>?_)
    obtain ⟨hb6,hq6,-⟩:=fresh_box hV
    have HB6:=Lib.hid (HB5.out.trans (hb6.mono HB5.out.size))
    have hL:=Sg.bk hq6
    clear hV hb6 hq6
    go_wp2_with (refine wpList_load_row rfl _ _ rfl _ rfl _ _ _ _ hL Tryz.underlying54 rfl (by kernel_rfl) ?_)
    refine (sgwk_any _ (HK.out.below HB6.out)).mono ?_
    rintro e W7 ⟨rfl,hb7⟩
    go_wp2_with fail
    go_ret
    exact ⟨rfl,HB6.out.trans (hb7.mono HB6.out.size)⟩
   ·obtain ⟨qok,qp⟩:=Sg.readL_of hR
    have h:=sgread_any c (by have:=HC.out;omega) V4 (HK.out.below HB4.out)
    rw [hR] at h
    have hcl:c.data.toList.length=c.size:=by simp
    have hqz:=Sg.size_pack q
    rw [qp,hcl] at hqz
    have HPQ:=Lib.hid (fun W hk=>sgpack_any q qok (by have:=HC.out;omega) W hk)
    rw [qp] at HPQ
    have HCE:Hid ((⟨c.data.toList.toArray⟩:ByteArray)=c):=Lib.hid (by cases c;simp)
    rw [HCE.out] at HPQ
    clear hcl hqz qok qp hR
    obtain ⟨i2,s2,a2,n2,p2,t2,st2,y2,v2⟩:=q
    have h:Calls Tryz.prog 32 #[.string c] V4 fun e w'=>e=.returned (.tuple #[.agg #[.string i2,.string s2,.string a2,.int .i64 n2,.int .u8 (p2:Nat),.int .i64 t2,.bool st2,.int .i64 y2,.string v2],.bool true])∧Below V4.heap.size V4 w':=h
    refine h.mono ?_
    rintro e W5 ⟨rfl,hb5⟩
    have HB5:=Lib.hid (HB4.out.trans (hb5.mono HB4.out.size))
    clear h hb5
    go_upto_region 11 with (fail)
    refine wp_named (fun V6 hV=>?_)
    obtain ⟨hb6,hq6,-⟩:=fresh_box hV
    have HB6:=Lib.hid (HB5.out.trans (hb6.mono HB5.out.size))
    have hL:=Sg.bk hq6
    clear hV hb6 hq6
    go_wp2_with (refine wpList_load_row rfl _ _ rfl _ rfl _ _ _ _ hL Tryz.underlying54 rfl (by kernel_rfl) ?_)
    refine (HPQ.out _ (HK.out.below HB6.out)).mono ?_
    rintro e W7 ⟨rfl,hb7⟩
    have HB7:=Lib.hid (HB6.out.trans (hb7.mono HB6.out.size))
    clear hb7 hL
    go_wp2_with fail
    refine (sgwk_any _ (HK.out.below HB7.out)).mono ?_
    rintro e W8 ⟨rfl,hb8⟩
    go_wp2_with fail
    go_ret
    exact ⟨rfl,HB7.out.trans (hb8.mono HB7.out.size)⟩
end Go.Proofs.YtogijkhenihaaaaGreatDoor
