/- codec.Decode. No condition but the keywords' table and the ones the theorems state. -/
import Derived.Test.YtjfdohhdkdjifaaGreatDoorPC26
import Derived.Test.YtjfdohhdkdjifaaGreatDoorPC22
import Derived.Test.YtjfdohhdkdjifaaGreatDoorPC03
import Derived.Test.YtjfdohhdkdjifaaGreatDoorPC23
import Derived.Test.YtjfdohhdkdjifaaGreatDoorPC18
import Derived.Test.YtjfdohhdkdjifaaGreatDoorPC15
import Derived.Test.YtjfdohhdkdjifaaGreatDoorPC02
import Derived.Defers
import Derived.Recover
import Derived.Laws.Pointers
import Derived.ProofKit
import Derived.LaidMore
import Derived.OpenShut
import Derived.Stop.Joined
set_option linter.unusedVariables false
set_option linter.unusedSimpArgs false
namespace Go.Proofs.YtjfdohhdkdjifaaGreatDoor
open Go.RowKit Go.BigFrame
theorem Cd.Res.keep {w:World} {b B:Nat} {v a e v' a' e' vv:Value} {l:List Vl.Node} (h:Cd.Res w b v a e) (hr:Vl.ValR w (some B) vv l):Vl.ValR (((w.setCell ⟨b,0,none⟩ v').setCell ⟨b+1,0,none⟩ a').setCell ⟨b+2,0,none⟩ e') (some B) vv l:=by
 have k1:Kp B [71] w (w.setCell ⟨b,0,none⟩ v'):=(Only.set h.v 0 v').kp B (by decide)
 have k2:Kp B [71] (w.setCell ⟨b,0,none⟩ v') ((w.setCell ⟨b,0,none⟩ v').setCell ⟨b+1,0,none⟩ a'):=(Only.set (h.a.far (p:=⟨b,0,none⟩) (by simp) v') 0 a').kp B (by decide)
 have k3:Kp B [71] ((w.setCell ⟨b,0,none⟩ v').setCell ⟨b+1,0,none⟩ a') (((w.setCell ⟨b,0,none⟩ v').setCell ⟨b+1,0,none⟩ a').setCell ⟨b+2,0,none⟩ e'):=(Only.set ((h.e.far (p:=⟨b,0,none⟩) (by simp) v').far (p:=⟨b+1,0,none⟩) (by simp) a') 0 e').kp B (by decide)
 exact ERow.kp (show ERow w (some B) 71 4 Vl.NodE vv l from hr) (k1.trans (k2.trans k3)) (Nat.le_refl _) (by decide) (fun _ _ h=>h)
set_option maxRecDepth 100000 in
set_option maxHeartbeats 16000000 in
theorem cdecode_any (sv:Value) (x:Id.Sch) (hF:Chk.Fine x) (tv:Value) (t:List Id.Srt) (bb:ByteArray) (hbb:bb.size≤1000000) (w:World) (hk:Tk.KW w) (hv:Id.SchV w none sv x) (ht:Id.SortsR w none tv t) :
  Calls Tryz.prog 16 #[sv,tv,.string bb] w fun e w'=>∃ vv,e=.returned (.tuple #[vv,.int .i64 (Cd.decP x t bb.data.toList).2.1,.int .i64 (Cd.decP x t bb.data.toList).2.2])∧Below w.heap.size w w'∧Vl.ValR w' (some w.heap.size) vv (Cd.decP x t bb.data.toList).1:=by
 obtain ⟨R,HR⟩:∃ R,Hid (Cd.decP x t bb.data.toList=R):=⟨_,Lib.hid rfl⟩
 rw [HR.out]
 unfold Cd.decP at HR
 have HF:=Lib.hid hF
 have HKW:=Lib.hid hk
 have HV:=Lib.hid hv
 have HS:=Lib.hid ht
 obtain ⟨A1,n1,c1,A2,n2,c2,A3,n3,c3,rfl,-,-,-⟩:=hv
 have hmf:∀ (fn:Fn) (first cap:Array Value) (w:World),(Instr.makeFunc fn first cap).run Tryz.prog w=.ok (.func fn first cap) w:=fun _ _ _ _=>rfl
 clear hF hk ht
 go_enter_defers Tryz.func16,Tryz.ntmps16
 go_upto_region 1 with (fail)
 refine wp_named (fun V hV=>?_)
 have HL:Hid (Chk.Lx w V #[.string x.name,.slice A1 n1 c1,.slice A2 n2 c2,.slice A3 n3 c3]):=Lib.hid (by
  rw [hV]
  exact ⟨((((Below.refl _ _).alloc (Nat.le_refl _) _).alloc (by simp) _).alloc (by simp;omega) _).alloc (by simp;omega) _,(((Bk.new w _ _).alloc _).alloc _).alloc _⟩)
 have HRS:Hid (Cd.Res V (w.heap.size+1) (.slice none 0 0) (.int .i64 0) (.int .i64 0)):=Lib.hid (by
  rw [hV]
  have h1:=Bk.new (w.alloc (.cells #[.string x.name,.slice A1 n1 c1,.slice A2 n2 c2,.slice A3 n3 c3] 28)) 23 #[.slice none 0 0]
  have h2:=Bk.new ((w.alloc (.cells #[.string x.name,.slice A1 n1 c1,.slice A2 n2 c2,.slice A3 n3 c3] 28)).alloc (.cells #[.slice none 0 0] 23)) 3 #[.int .i64 0]
  have h3:=Bk.new (((w.alloc (.cells #[.string x.name,.slice A1 n1 c1,.slice A2 n2 c2,.slice A3 n3 c3] 28)).alloc (.cells #[.slice none 0 0] 23)).alloc (.cells #[.int .i64 0] 3)) 29 #[.int .i64 0]
  simp only [World.size_alloc] at h1 h2 h3
  exact ⟨(h1.alloc _).alloc _,h2.alloc _,h3⟩)
 clear hV
 obtain ⟨⟨q0,q1,q2,q3⟩,-⟩:=HL.out.box.k4
 go_wp2_with fail
 refine (cdright_any _ x HF.out _ t _ (HKW.out.below HL.out.bel) (Id.SchV.below HL.out.bel HV.out) (ERow.below HS.out HL.out.bel (fun _ _ h=>h))).mono ?_
 obtain ⟨T,HT⟩:∃ T,Hid (Vl.typE x t=T):=⟨_,Lib.hid rfl⟩
 rw [HT.out]
 rw [HT.out] at HR
 rintro e W1 ⟨rfl,hb⟩
 have HL1:=Lib.hid (HL.out.below hb)
 have HRS1:=Lib.hid (HRS.out.below hb)
 have hW1:w.heap.size+1+2<W1.heap.size:=HRS1.out.e.lt
 clear hb q0 q1 q2 q3 HL HRS
 by_cases hT:T=0
 case neg =>
  have HE:Hid (R=([],0,T)):=Lib.hid (by rw [←HR.out,if_pos hT])
  obtain rfl:=HE.out
  have t1:((T:Int) != 0)=true:=by rw [bne_iff_ne];omega
  have t2:¬(T:Int)=0:=by omega
  obtain ⟨u0,y0⟩:=HRS1.out.v.k1
  obtain ⟨u1,y1⟩:=HRS1.out.a.k1
  obtain ⟨u2,y2⟩:=HRS1.out.e.k1
  go_wp2_with fail
  have hres:=HRS1.out.set_ (v':=.slice none 0 0) (a':=.int .i64 0) (e':=.int .i64 (T:Nat))
  have hbel:Below w.heap.size w (((W1.setCell ⟨w.heap.size+1,0,none⟩ (.slice none 0 0)).setCell ⟨w.heap.size+1+1,0,none⟩ (.int .i64 0)).setCell ⟨w.heap.size+1+2,0,none⟩ (.int .i64 (T:Nat))):=((HL1.out.bel.setCell (p:=⟨w.heap.size+1,0,none⟩) (by simp) _).setCell (p:=⟨w.heap.size+1+1,0,none⟩) (by simp;omega) _).setCell (p:=⟨w.heap.size+1+2,0,none⟩) (by simp;omega) _
  obtain ⟨e0,-⟩:=hres.v.k1
  obtain ⟨e1,-⟩:=hres.a.k1
  obtain ⟨e2,-⟩:=hres.e.k1
  refine ⟨.tuple #[.slice none 0 0,.int .i64 0,.int .i64 (T:Nat)],?_,.slice none 0 0,rfl,hbel,ERow.nil _ _ _ _ _⟩
  rw [res_ccc rfl]
  go_simp
 subst hT
 have HTY:Hid (Chk.Right x∧Chk.right x t=true):=Lib.hid (Vl.typ_ok HT.out)
 have HRP:Hid ((match Cd.decF x bb.data.toList 12 t ⟨0,[],0⟩ with
  | .error p=>([],p.1,p.2)
  | .ok y=>if y.at_<bb.size then ([],y.at_,162) else (y.v,0,0):List Vl.Node × Nat × Nat)=R):=Lib.hid (by
   rw [←HR.out,if_neg (by simp),show bb.data.toList.length=bb.size by simp]
   cases Cd.decF x bb.data.toList 12 t ⟨0,[],0⟩ <;> rfl)
 clear HR HT
 simp only [Int.cast_ofNat_Int]
 have HV1:=Lib.hid (Id.SchV.below HL1.out.bel HV.out)
 have HS1:Hid (Id.SortsR W1 none tv t):=Lib.hid (ERow.below HS.out HL1.out.bel (fun _ _ h=>h))
 obtain ⟨⟨q0,q1,q2,q3⟩,-⟩:=HL1.out.box.k4
 go_upto_region 6 with (fail)
 refine wp_named (fun V2 hV2=>?_)
 obtain ⟨hb2,hq2,-⟩:=fresh_box hV2
 clear hV2 q0 q1 q2 q3
 have hrd:Cd.Rdr (.string x.name) (.slice A1 n1 c1) (.slice A2 n2 c2) (.slice A3 n3 c3) bb W1 V2 W1.heap.size ⟨0,[],0⟩ (.slice none 0 0):=⟨hb2,Nat.le_refl _,hq2,ERow.nil _ _ _ _ _,Nat.zero_le _,Nat.zero_le _,Nat.zero_le _⟩
 have hst:Cd.Sts W1.heap.size W1.heap.size V2 tv t:=Cd.Sts.old HS1.out hb2 (Nat.le_refl _)
 obtain ⟨ho1,ho2⟩:=Vl.right_okT HTY.out.2
 have hp:=cdpart_any x HF.out HTY.out.1 (.string x.name) (.slice A1 n1 c1) (.slice A2 n2 c2) (.slice A3 n3 c3) bb hbb W1 W1.heap.size HV1.out 12 (Nat.le_refl _) tv t ⟨0,[],0⟩ (.slice none 0 0) V2 ho1 ho2 hrd hst
 rw [show (12 - ((12:Nat):Int))=0 by omega] at hp
 have HP:=Lib.hid hp
 clear hp hst hrd hb2 hq2 ho1 ho2 HTY HV1 HS1
 go_wp2_with fail
 refine HP.out.mono ?_
 clear HP
 obtain ⟨D,HD⟩:∃ D,Hid (Cd.decF x bb.data.toList 12 t ⟨0,[],0⟩=D):=⟨_,Lib.hid rfl⟩
 rw [HD.out]
 rw [HD.out] at HRP
 cases D with
 | error pe =>
  have HE:Hid (R=([],pe.1,pe.2)):=Lib.hid HRP.out.symm
  obtain rfl:=HE.out
  rintro e w5 ⟨rfl,hb5⟩
  have HB5:=Lib.hid hb5
  have HRS5:=Lib.hid (show Cd.Res w5 (w.heap.size+1) _ _ _ from ⟨HRS1.out.v.below hb5 (by omega),HRS1.out.a.below hb5 (by omega),HRS1.out.e.below hb5 (by omega)⟩)
  clear hb5 HRS1
  unfold Cd.pan
  go_wp2_with fail
  refine leaves_cons (f:=49) (args:=#[.pointer (some ⟨w.heap.size+1,0,none⟩),.pointer (some ⟨w.heap.size+1+1,0,none⟩),.pointer (some ⟨w.heap.size+1+2,0,none⟩)]) (by simp) (by simp [go_sem]) ?_
  refine (cguard_panicking (w.heap.size+1) pe.1 pe.2 _ _ _ [] w5 HRS5.out).mono ?_
  rintro e u' w6 ⟨rfl,rfl,hb6,hr6⟩
  obtain ⟨e0,-⟩:=hr6.v.k1
  obtain ⟨e1,-⟩:=hr6.a.k1
  obtain ⟨e2,-⟩:=hr6.e.k1
  have hbel:Below w.heap.size w w6:=(HL1.out.bel.trans (HB5.out.mono HL1.out.bel.size)).trans (hb6.mono (by omega))
  refine ⟨.tuple #[.slice none 0 0,.int .i64 (pe.1:Nat),.int .i64 (pe.2:Nat)],?_,.slice none 0 0,rfl,hbel,ERow.nil _ _ _ _ _⟩
  rw [res_ccc rfl]
  go_simp
 | ok y =>
  have HRY:Hid ((if y.at_<bb.size then ([],y.at_,162) else (y.v,0,0))=R):=Lib.hid HRP.out
  rintro e w5 ⟨rfl,hp5⟩
  obtain ⟨ho5,vv5,hr5⟩:=hp5
  have HR5:=Lib.hid hr5
  have hb5:=hr5.bel
  have HRS5:=Lib.hid (show Cd.Res w5 (w.heap.size+1) _ _ _ from ⟨HRS1.out.v.below hb5 (by omega),HRS1.out.a.below hb5 (by omega),HRS1.out.e.below hb5 (by omega)⟩)
  have HB5:=Lib.hid (HL1.out.bel.trans (hb5.mono HL1.out.bel.size))
  obtain ⟨p,v,z⟩:=y
  obtain ⟨A9,n9,c9,rfl⟩:=ERow.is hr5.row
  obtain ⟨⟨c0,c1,c2,c3,c4,c5,c6,c7⟩,-⟩:=Bk.k8 hr5.box
  simp only at c5 c7 HRY
  have hlo:¬W1.heap.size=w.heap.size+1:=by omega
  have hlo1:¬W1.heap.size=w.heap.size+1+1:=by omega
  have hlo2:¬W1.heap.size=w.heap.size+1+1+1:=by omega
  clear hr5 hb5 HRS1 ho5 HRP HD
  by_cases hlt:p<bb.size
  case pos =>
   have HE:Hid (R=([],p,162)):=Lib.hid (by rw [←HRY.out,if_pos hlt])
   obtain rfl:=HE.out
   have h1:(p:Int)<(bb.size:Int):=by omega
   obtain ⟨u0,y0⟩:=HRS5.out.v.k1
   obtain ⟨u1,y1⟩:=HRS5.out.a.k1
   obtain ⟨u2,y2⟩:=HRS5.out.e.k1
   go_wp2_with fail
   go_region
   go_wp2_with fail
   refine leaves_cons (f:=49) (args:=#[.pointer (some ⟨w.heap.size+1,0,none⟩),.pointer (some ⟨w.heap.size+1+1,0,none⟩),.pointer (some ⟨w.heap.size+1+2,0,none⟩)]) (by simp) (by simp [go_sem]) ?_
   refine (cguard_idle ⟨w.heap.size+1,0,none⟩ ⟨w.heap.size+1+1,0,none⟩ ⟨w.heap.size+1+2,0,none⟩ _).mono ?_
   rintro e u' w6 ⟨rfl,rfl,rfl⟩
   have hres:=HRS5.out.set_ (v':=(.slice none 0 0)) (a':=(.int .i64 (p:Nat))) (e':=(.int .i64 162))
   have hbel:=((HB5.out.setCell (p:=⟨w.heap.size+1,0,none⟩) (by simp) (.slice none 0 0)).setCell (p:=⟨w.heap.size+1+1,0,none⟩) (by simp;omega) (.int .i64 (p:Nat))).setCell (p:=⟨w.heap.size+1+2,0,none⟩) (by simp;omega) (.int .i64 162)
   obtain ⟨e0,-⟩:=hres.v.k1
   obtain ⟨e1,-⟩:=hres.a.k1
   obtain ⟨e2,-⟩:=hres.e.k1
   refine ⟨.tuple #[(.slice none 0 0),(.int .i64 (p:Nat)),(.int .i64 162)],?_,(.slice none 0 0),rfl,hbel.drew,ERow.nil _ _ _ _ _⟩
   rw [res_ccc rfl]
   go_simp
  have HE:Hid (R=(v,0,0)):=Lib.hid (by rw [←HRY.out,if_neg hlt])
  obtain rfl:=HE.out
  have h1:¬(p:Int)<(bb.size:Int):=by omega
  obtain ⟨u0,y0⟩:=HRS5.out.v.k1
  obtain ⟨u1,y1⟩:=HRS5.out.a.k1
  obtain ⟨u2,y2⟩:=HRS5.out.e.k1
  go_wp2_with fail
  refine leaves_cons (f:=49) (args:=#[.pointer (some ⟨w.heap.size+1,0,none⟩),.pointer (some ⟨w.heap.size+1+1,0,none⟩),.pointer (some ⟨w.heap.size+1+2,0,none⟩)]) (by simp) (by simp [go_sem]) ?_
  refine (cguard_idle ⟨w.heap.size+1,0,none⟩ ⟨w.heap.size+1+1,0,none⟩ ⟨w.heap.size+1+2,0,none⟩ _).mono ?_
  rintro e u' w6 ⟨rfl,rfl,rfl⟩
  have hres:=HRS5.out.set_ (v':=(.slice A9 n9 c9)) (a':=(.int .i64 0)) (e':=(.int .i64 0))
  have hbel:=((HB5.out.setCell (p:=⟨w.heap.size+1,0,none⟩) (by simp) (.slice A9 n9 c9)).setCell (p:=⟨w.heap.size+1+1,0,none⟩) (by simp;omega) (.int .i64 0)).setCell (p:=⟨w.heap.size+1+2,0,none⟩) (by simp;omega) (.int .i64 0)
  obtain ⟨e0,-⟩:=hres.v.k1
  obtain ⟨e1,-⟩:=hres.a.k1
  obtain ⟨e2,-⟩:=hres.e.k1
  refine ⟨.tuple #[(.slice A9 n9 c9),(.int .i64 0),(.int .i64 0)],?_,(.slice A9 n9 c9),rfl,hbel,(ERow.mono (HRS5.out.keep HR5.out.row) (fun _ _ hr=>hr.weak (Id.wk_le (by omega))) (fun _ _ h=>h))⟩
  rw [res_ccc rfl]
  go_simp
end Go.Proofs.YtjfdohhdkdjifaaGreatDoor
set_option linter.unusedVariables false
namespace Go.Proofs.YtjfdohhdkdjifaaGreatDoor
open Go.RowKit
end Go.Proofs.YtjfdohhdkdjifaaGreatDoor
set_option linter.unusedVariables false
set_option linter.unusedSimpArgs false
namespace Go.Proofs.YtjfdohhdkdjifaaGreatDoor
open Go.RowKit Go.BigFrame
end Go.Proofs.YtjfdohhdkdjifaaGreatDoor
set_option linter.unusedVariables false
set_option linter.unusedSimpArgs false
namespace Go.Proofs.YtjfdohhdkdjifaaGreatDoor
open Go.RowKit Go.BigFrame Go.ChangeShapes
theorem list_of4 {cs:List Value} {a b c d:Value} (hl:cs.length=4) (h0:cs[0]?=some a) (h1:cs[1]?=some b) (h2:cs[2]?=some c) (h3:cs[3]?=some d):cs=[a,b,c,d]:=by
 match cs,hl with
 | [x,y,z,u],_=>simp at h0 h1 h2 h3;rw [h0,h1,h2,h3]
theorem i64_of_wf {n:Int} (h:(Lit.int .i64 n).wf=true):-9223372036854775808≤n∧n≤9223372036854775807:=by
 simp [Lit.wf,IntKind.min,IntKind.max,IntKind.bits,IntKind.signed] at h
 omega
section
variable {H : Type} {enc : TypeId × Value → H} {w : World} {base : Nat} {spare : Nat → Bool} {held : Bool}
theorem open_vals {fuel:Nat} {v:Value} {x:DataW H × List MemPlace} (h:DataW.trod enc Tryz.prog w base spare held fuel 23 [v]=some x):∃ l:List Vl.Node,Vl.ValR w none v l∧∀ n∈l,Cd.OkN n:=by
 obtain ⟨l,hl⟩:=open_rows (fun w cs (n:Vl.Node)=>Vl.NodE w cs n∧Cd.OkN n) Tryz.underlying23 Tryz.underlying71 (by kernel_rfl) (by kernel_rfl) (by decide) h fun cs hl hf=>by
  obtain ⟨u0,k0,y0,e0,t0⟩:=hf 0 _ rfl
  obtain ⟨u1,k1,y1,e1,t1⟩:=hf 1 _ rfl
  obtain ⟨u2,k2,y2,e2,t2⟩:=hf 2 _ rfl
  obtain ⟨u3,k3,y3,e3,t3⟩:=hf 3 _ rfl
  obtain ⟨n0,hn0,z0⟩:=DataW.trod_int Tryz.underlying5 t0
  obtain ⟨n1,hn1,z1⟩:=DataW.trod_int Tryz.underlying2 t1
  obtain ⟨n2,hn2,z2⟩:=DataW.trod_string Tryz.underlying9 t2
  obtain ⟨n3,hn3,z3⟩:=DataW.trod_int Tryz.underlying3 t3
  simp only [List.cons.injEq,and_true] at hn0 hn1 hn2 hn3
  subst hn0 hn1 hn2 hn3
  obtain ⟨k,rfl⟩:=nat_of_wf rfl z0.2
  obtain ⟨a1,a2⟩:=i64_of_wf z1.2
  have z3:=z2.2
  unfold maxLen at z3
  exact ⟨⟨k,n1,n2,n3⟩,list_of4 hl e0 e1 e2 e3,⟨a1,a2,z3⟩⟩
 refine ⟨l,ERow.mono hl (fun _ _ h=>h) (fun _ _ h=>h.1),fun n hn=>?_⟩
 obtain ⟨css,k1,k2,k3,k4⟩:=hl
 obtain ⟨i,hi,rfl⟩:=List.getElem_of_mem hn
 exact (k4 i (by omega) hi).2
end
end Go.Proofs.YtjfdohhdkdjifaaGreatDoor
set_option linter.unusedVariables false
set_option linter.unusedSimpArgs false
namespace Go.Proofs.YtjfdohhdkdjifaaGreatDoor
open Go.RowKit Go.BigFrame Go.ChangeShapes Go.Joins Go.WideShapes Go.Deep
theorem Id.SortsR.below {w w':World} {B:Option Nat} {v:Value} {l:List Id.Srt} (h:Id.SortsR w B v l) (hb:Below w.heap.size w w'):Id.SortsR w' B v l:=ERow.below h hb (fun _ _ h=>h)
theorem Vl.sameF_refl (a:List Vl.Node):Vl.sameF a a=true:=Vl.sameF_iff.2 rfl
end Go.Proofs.YtjfdohhdkdjifaaGreatDoor
set_option linter.unusedVariables false
set_option linter.unusedSimpArgs false
namespace Go.Proofs.YtjfdohhdkdjifaaGreatDoor
open Go.RowKit Go.BigFrame
namespace Cd
open Go.Proofs.YtjfdohhdkdjifaaGreatDoor.Id Go.Proofs.YtjfdohhdkdjifaaGreatDoor.Chk Go.Proofs.YtjfdohhdkdjifaaGreatDoor.Vl Go.Proofs.YtjfdohhdkdjifaaGreatDoor.Ev
def wkX:ByteArray:=⟨#[97,98]⟩
def wkV:List Vl.Node:=[⟨7,0,⟨#[]⟩,3⟩,⟨4,0,wkX,0⟩,⟨3,300,⟨#[]⟩,0⟩,⟨6,0,⟨#[]⟩,0⟩]
def wkB:ByteArray:=⟨#[2,97,98,216,4,0]⟩
theorem wk_of:ofF shop none (wkV.length+1) (nmd wkO) wkV=some (2,[]):=by kernel_rfl
theorem wk_fits:fits shop (nmd wkO) wkV=0:=by
 unfold fits
 rw [if_neg (by rw [shop_check];simp),if_neg (by rw [wk_right];simp),wk_of]
 decide +kernel
theorem wk_enc:encB 0 wkV=wkB:=by kernel_rfl
theorem wk_ok:∀ n∈wkV,OkN n:=by
 intro n hn
 simp only [wkV,List.mem_cons,List.not_mem_nil,or_false] at hn
 rcases hn with rfl | rfl | rfl | rfl <;> exact ⟨by decide,by decide,by decide⟩
theorem wk_dec:decP shop (nmd wkO) wkB.data.toList=(wkV,0,0):=by
 have h:=dec_back wk_fits wk_ok
 have e:encGs wkV=wkB.data.toList:=by kernel_rfl
 rw [e] at h
 exact h
end Cd
set_option maxRecDepth 100000 in
set_option maxHeartbeats 16000000 in
theorem wakes16_any (w:World) (hk:Tk.KW w):Calls Tryz.prog 24 #[] w fun e w'=>e=.returned (.bool true)∧Below w.heap.size w w':=by
 have HK:=Lib.hid hk
 clear hk
 go_enter Tryz.func24,Tryz.ntmps24
 go_upto_region 2 with (fail)
 refine wp_named (fun V hV=>?_)
 obtain ⟨hb,-,-⟩:=fresh_box hV
 have HVV:Hid (Vl.ValR V none (.slice (some ⟨w.heap.size,0,none⟩) 4 4) Cd.wkV):=Lib.hid (by subst hV;exact Vl.row_lit w _ 4 Vl.NodE (Cd.wkV.map Vl.Node.cells) Cd.wkV 4 _ rfl rfl (by rw [List.length_map]) (fun cs hcs=>by obtain ⟨y,_,rfl⟩:=List.mem_map.1 hcs;rfl) (by omega) (fun i h h'=>by unfold Vl.NodE;rw [List.getElem_map]))
 have HB0:=Lib.hid hb
 clear hb hV
 go_upto_region 3 with (fail)
 refine wp_named (fun V2 hV=>?_)
 obtain ⟨hb,-,-⟩:=fresh_box hV
 have HT0:Hid (Id.SortsR V2 none (.slice (some ⟨V.heap.size,0,none⟩) 1 1) (Vl.nmd Vl.wkO)):=Lib.hid (by subst hV;exact Vl.nmd_row V Vl.wkO)
 have HV0:=Lib.hid (Vl.ValR.below HVV.out hb)
 have HB1:=Lib.hid (HB0.out.trans (hb.mono HB0.out.size))
 clear hb hV HB0 HVV
 have HV1:=HV0
 have HT1:=HT0
 go_wp2_with fail
 refine (shop_any _).mono ?_
 rintro e W2 ⟨sv2,rfl,hb,hs⟩
 have HS2:=Lib.hid (Id.SchV.weak (Id.wk_none _) hs:Id.SchV W2 none sv2 Chk.shop)
 have HB2:=Lib.hid (HB1.out.trans (hb.mono HB1.out.size))
 have HV2:=Lib.hid (Vl.ValR.below HV1.out hb)
 have HT2:Hid (Id.SortsR W2 none _ (Vl.nmd Vl.wkO)):=Lib.hid (ERow.below HT1.out hb (fun _ _ h=>h))
 obtain ⟨A21,n21,c21,A22,n22,c22,A23,n23,c23,rfl,-⟩:=hs
 clear hb
 go_wp2_with fail
 have h3:=cencode_any _ Chk.shop (Chk.shop_fine _ (by decide)) _ (Vl.nmd Vl.wkO) _ Cd.wkV (by decide) (by decide) Cd.wk_ok W2 (HK.out.below HB2.out) HS2.out HT2.out HV2.out
 rw [Cd.wk_fits,Cd.wk_enc] at h3
 refine h3.mono ?_
 rintro e W3 ⟨rfl,hb⟩
 have HB3:=Lib.hid (HB2.out.trans (hb.mono HB2.out.size))
 have HV3:=Lib.hid (Vl.ValR.below HV2.out hb)
 have HT3:Hid (Id.SortsR W3 none _ (Vl.nmd Vl.wkO)):=Lib.hid (ERow.below HT2.out hb (fun _ _ h=>h))
 clear hb h3
 simp only [Int.cast_ofNat_Int,Cd.wkB]
 go_wp2_with fail
 refine (shop_any _).mono ?_
 rintro e W4 ⟨sv4,rfl,hb,hs⟩
 have HS4:=Lib.hid (Id.SchV.weak (Id.wk_none _) hs:Id.SchV W4 none sv4 Chk.shop)
 have HB4:=Lib.hid (HB3.out.trans (hb.mono HB3.out.size))
 have HV4:=Lib.hid (Vl.ValR.below HV3.out hb)
 have HT4:Hid (Id.SortsR W4 none _ (Vl.nmd Vl.wkO)):=Lib.hid (ERow.below HT3.out hb (fun _ _ h=>h))
 obtain ⟨A41,n41,c41,A42,n42,c42,A43,n43,c43,rfl,-⟩:=hs
 clear hb
 go_wp2_with fail
 have h5:=cdecode_any _ Chk.shop (Chk.shop_fine _ (by decide)) _ (Vl.nmd Vl.wkO) Cd.wkB (by decide) W4 (HK.out.below HB4.out) HS4.out HT4.out
 rw [Cd.wk_dec] at h5
 unfold Cd.wkB at h5
 refine h5.mono ?_
 rintro e W5 ⟨vv,rfl,hb,hr⟩
 have HB5:=Lib.hid (HB4.out.trans (hb.mono HB4.out.size))
 have HV5:=Lib.hid (Vl.ValR.below HV4.out hb)
 have HR5:=Lib.hid (Vl.ValR.none hr)
 clear hb h5 hr
 simp only [Int.cast_ofNat_Int]
 go_wp2_with fail
 have h6:=rsame15_any _ _ Cd.wkV Cd.wkV W5 HV5.out HR5.out (by decide)
 rw [Vl.sameF_refl] at h6
 refine h6.mono ?_
 rintro e W6 ⟨rfl,hb⟩
 go_wp2_with fail
 go_ret
 exact ⟨rfl,HB5.out.trans (hb.mono HB5.out.size)⟩
end Go.Proofs.YtjfdohhdkdjifaaGreatDoor
set_option linter.unusedVariables false
set_option linter.unusedSimpArgs false
namespace Go.Proofs.YtjfdohhdkdjifaaGreatDoor
open Go.RowKit Go.BigFrame
namespace Cd
open Go.Proofs.YtjfdohhdkdjifaaGreatDoor.Id Go.Proofs.YtjfdohhdkdjifaaGreatDoor.Chk Go.Proofs.YtjfdohhdkdjifaaGreatDoor.Vl Go.Proofs.YtjfdohhdkdjifaaGreatDoor.Ev
theorem back_facts {s:Sch} {t:List Srt} {v:List Vl.Node} {B:ByteArray} (h:fits s t v=0) (ho:∀ n∈v,OkN n) (hB:B=⟨(encGs v).toArray⟩):B=⟨(encGs v).toArray⟩∧B.size≤100000∧decP s t B.data.toList=(v,0,0):=by
 obtain ⟨_,_,d,h3,h4,h5⟩:=fits_ok h
 have h6:=encGs_len v
 unfold size at h5
 unfold tsum at h6
 refine ⟨hB,?_,?_⟩
 ·subst hB
  show (encGs v).toArray.size≤_
  rw [List.size_toArray]
  omega
 ·subst hB
  exact dec_back h ho
theorem encB_eq {v:List Vl.Node} {b:ByteArray} (h:encGs v=b.data.toList):encB 0 v=b:=by
 unfold encB
 rw [if_pos rfl,h]
theorem more_facts {s:Sch} {t:List Srt} {v:List Vl.Node} {B m:ByteArray} (h:fits s t v=0) (ho:∀ n∈v,OkN n) (hB:B.data.toList=encGs v) :
  (m.toList.isEmpty=true→decP s t (B++m).data.toList=(v,0,0))∧(m.toList.isEmpty=false→decP s t (B++m).data.toList=([],B.size,162)):=by
 have e:(B++m).data.toList=encGs v++m.data.toList:=by rw [←hB];simp
 rw [e]
 refine ⟨fun hm=>?_,fun hm=>?_⟩
 ·have e0:=empty_eq hm
  subst e0
  show decP s t (encGs v++[])=_
  rw [List.append_nil]
  exact dec_back h ho
 ·have hne:m.data.toList≠[]:=by
   intro h0
   have e1:m=E0:=by
    apply ByteArray.ext
    apply Array.ext'
    exact h0
   subst e1
   have:E0.toList.isEmpty=true:=nil_empty
   rw [this] at hm
   cases hm
  rw [dec_longer h ho hne,←hB]
  simp
theorem cut_facts {s:Sch} (hF:Fine s) {t:List Srt} {v:List Vl.Node} {B:ByteArray} (h:fits s t v=0) (ho:∀ n∈v,OkN n) (hB:B.data.toList=encGs v) (k:Nat) (hk:k<B.size):decP s t (B.extract 0 k).data.toList=([],k,160):=by
 have hl:(encGs v).length=B.size:=by rw [←hB];simp
 have e:(B.extract 0 k).data.toList=(encGs v).take k:=by rw [←hB];simp
 rw [e]
 exact dec_short hF h ho (by omega)
theorem u16_nat {n:Int} (h:(Lit.int .u16 n).wf=true):∃ c:Nat,n=(c:Int)∧c<65536:=by
 have h1:0≤n∧n<65536:=by
  unfold Lit.wf at h
  simp [IntKind.bits,IntKind.signed] at h
  have h2:IntKind.u16.min=0:=by decide
  have h3:IntKind.u16.max=65535:=by decide
  omega
 exact ⟨n.toNat,by omega,by omega⟩
end Cd
end Go.Proofs.YtjfdohhdkdjifaaGreatDoor
set_option linter.unusedVariables false
set_option linter.unusedSimpArgs false
namespace Go.Proofs.YtjfdohhdkdjifaaGreatDoor
open Go.RowKit Go.BigFrame
set_option maxRecDepth 100000 in
set_option maxHeartbeats 16000000 in
theorem codecBack_walk (sv:Value) (x:Id.Sch) (tv:Value) (t:List Id.Srt) (vs:Value) (v:List Vl.Node) (w0:World) (hv:Id.SchV w0 none sv x) (ht:Id.SortsR w0 none tv t) (hvv:Vl.ValR w0 none vs v) (hok:∀ n∈v,Cd.OkN n) (w:World) (he:w=w0) (hk:Tk.KW w) :
  Calls Tryz.prog 6 #[sv,tv,vs] w fun e w'=>e=.returned (.bool true)∧Below w.heap.size w w':=by
 subst he
 have HKW:=Lib.hid hk
 clear hk
 have HV:=Lib.hid hv
 obtain ⟨A1,n1,c1,A2,n2,c2,A3,n3,c3,rfl,-,-,-⟩:=hv
 have HS:=Lib.hid ht
 obtain ⟨A,n,c,rfl⟩:=ERow.is ht
 have HN:Hid (n=t.length):=Lib.hid (by obtain ⟨_,_,e,_⟩:=ERow.slice ht;injection e)
 clear ht
 have HVV:=Lib.hid hvv
 have HOK:=Lib.hid hok
 obtain ⟨A9,n9,c9,rfl⟩:=ERow.is hvv
 have HN9:Hid (n9=v.length):=Lib.hid (by obtain ⟨_,_,e,_⟩:=ERow.slice hvv;injection e)
 clear hvv hok
 have done:∀ W,Below w.heap.size w W→Calls Tryz.prog 24 #[] W fun e w'=>e=.returned (.bool true)∧Below w.heap.size w w':=fun W hW=>(wakes16_any W (HKW.out.below hW)).mono fun _ _ ⟨h1,h2⟩=>⟨h1,hW.trans (h2.mono hW.size)⟩
 have HDN:=Lib.hid done
 clear done
 go_enter Tryz.func6,Tryz.ntmps6
 go_upto_region 1 with (fail)
 refine wp_named (fun V hV=>?_)
 have HL:=Lib.hid (Chk.Lx.start hV)
 clear hV
 obtain ⟨⟨q0,q1,q2,q3⟩,-⟩:=HL.out.box.k4
 go_wp2_with fail
 refine (vgreat_any _ x _ t _ v _ (Id.SchV.below HL.out.bel HV.out) (Id.SortsR.below HS.out HL.out.bel) (Vl.ValR.below HVV.out HL.out.bel)).mono ?_
 rintro e W1 ⟨b,rfl,hb,hg⟩
 have HG:=Lib.hid hg
 clear hg
 have HL2:=Lib.hid (HL.out.below hb)
 clear HL q0 q1 q2 q3
 have HL:=HL2
 clear HL2 hb
 obtain ⟨⟨q0,q1,q2,q3⟩,-⟩:=HL.out.box.k4
 cases b
 case true =>
  go_wp2_with fail
  refine (HDN.out _ HL.out.bel).mono ?_
  rintro e W9 ⟨rfl,hb9⟩
  go_wp2_with fail
  go_ret
  exact ⟨rfl,hb9⟩
 have HF:=Lib.hid (HG.out rfl)
 clear HG
 have HFi:=Lib.hid HF.out.sch.fine
 have HL9:Hid (v.length≤100000):=Lib.hid (Nat.le_trans HF.out.vl (by decide))
 have HZ9:Hid (∀ n∈v,n.text.size≤100000):=Lib.hid (fun n hn=>by obtain ⟨i,hi,rfl⟩:=List.getElem_of_mem hn;exact Nat.le_trans (HF.out.tx i hi) (by decide))
 obtain ⟨R,HR⟩:∃ R,Hid (Vl.fits x t v=R):=⟨_,Lib.hid rfl⟩
 obtain ⟨B,HBB⟩:∃ B,Hid (Cd.encB R v=B):=⟨_,Lib.hid rfl⟩
 go_wp2_with fail
 refine (cencode_any _ x HFi.out _ t _ v HL9.out HZ9.out HOK.out _ (HKW.out.below HL.out.bel) (Id.SchV.below HL.out.bel HV.out) (Id.SortsR.below HS.out HL.out.bel) (Vl.ValR.below HVV.out HL.out.bel)).mono ?_
 rw [HR.out]
 rintro e W2 ⟨rfl,hb⟩
 have HL2:=Lib.hid (HL.out.below hb)
 clear HL q0 q1 q2 q3
 have HL:=HL2
 clear HL2 hb
 obtain ⟨⟨q0,q1,q2,q3⟩,-⟩:=HL.out.box.k4
 rw [HBB.out]
 go_wp2_with fail
 refine (vfits_any _ x HFi.out _ t _ v HL9.out HZ9.out _ (HKW.out.below HL.out.bel) (Id.SchV.below HL.out.bel HV.out) (Id.SortsR.below HS.out HL.out.bel) (Vl.ValR.below HVV.out HL.out.bel)).mono ?_
 rw [HR.out]
 rintro e W3 ⟨rfl,hb⟩
 have HL2:=Lib.hid (HL.out.below hb)
 clear HL q0 q1 q2 q3
 have HL:=HL2
 clear HL2 hb
 obtain ⟨⟨q0,q1,q2,q3⟩,-⟩:=HL.out.box.k4
 by_cases hR:R=0
 case neg =>
  have t1:((R:Int) != 0)=true:=by rw [bne_iff_ne];omega
  have t2:¬(R:Int)=0:=by omega
  have HX:Hid (B=⟨#[]⟩):=Lib.hid (by rw [←HBB.out];unfold Cd.encB;rw [if_neg hR])
  obtain rfl:=HX.out
  go_wp2_with fail
  refine (HDN.out _ HL.out.bel).mono ?_
  rintro e W9 ⟨rfl,hb9⟩
  go_wp2_with fail
  go_ret
  exact ⟨rfl,hb9⟩
 subst hR
 have HBE:Hid (B=⟨(Cd.encGs v).toArray⟩∧B.size≤100000∧Cd.decP x t B.data.toList=(v,0,0)):=Lib.hid (Cd.back_facts HR.out HOK.out (by rw [←HBB.out];unfold Cd.encB;rw [if_pos rfl]))
 simp only [Int.cast_ofNat_Int]
 go_wp2_with fail
 refine (cdecode_any _ x HFi.out _ t B (Nat.le_trans HBE.out.2.1 (by decide)) _ (HKW.out.below HL.out.bel) (Id.SchV.below HL.out.bel HV.out) (Id.SortsR.below HS.out HL.out.bel)).mono ?_
 rw [HBE.out.2.2]
 rintro e W4 ⟨vv,rfl,hb,hr⟩
 have HRV:=Lib.hid (Vl.ValR.none hr)
 clear hr
 have HL2:=Lib.hid (HL.out.below hb)
 clear HL q0 q1 q2 q3
 have HL:=HL2
 clear HL2 hb
 obtain ⟨⟨q0,q1,q2,q3⟩,-⟩:=HL.out.box.k4
 simp only [Int.cast_ofNat_Int]
 go_wp2_with fail
 refine (rsame15_any _ _ v v _ (Vl.ValR.below HVV.out HL.out.bel) HRV.out HL9.out).mono ?_
 rw [Vl.sameF_refl]
 rintro e W5 ⟨rfl,hb⟩
 have HL2:=Lib.hid (HL.out.below hb)
 clear HL q0 q1 q2 q3
 have HL:=HL2
 clear HL2 hb
 obtain ⟨⟨q0,q1,q2,q3⟩,-⟩:=HL.out.box.k4
 go_wp2_with fail
 refine (HDN.out _ HL.out.bel).mono ?_
 rintro e W9 ⟨rfl,hb9⟩
 go_wp2_with fail
 go_ret
 exact ⟨rfl,hb9⟩
end Go.Proofs.YtjfdohhdkdjifaaGreatDoor
set_option linter.unusedVariables false
namespace Go.Proofs.YtjfdohhdkdjifaaGreatDoor
open Go.ChangeShapes Go.WideShapes Go.ChangeAt Go.RowKit
namespace Kw
theorem gK : Tryz.prog.globalNamed "redress/token.keywords" = some 0 := by kernel_rfl
theorem tK:(Tryz.prog.globals[0]?).map (·.type)=some 234:=by kernel_rfl
theorem c9:Tryz.prog.cellsOf 9=1:=by kernel_rfl
/-- The list of what is laid. -/
abbrev laidL : List (String × DataW Unit) := [("math/bits.deBruijn32tab", Rows.laid_math_bits_deBruijn32tab), ("math/bits.deBruijn64tab", Rows.laid_math_bits_deBruijn64tab), ("internal/strconv.uint64pow10", Rows.laid_internal_strconv_uint64pow10), ("redress/token.keywords", Rows.laid_redress_token_keywords)]
/-- The door's own heap meets the condition. -/
theorem door_met (os:Os) (args:Array Value):laidMetH Tryz.prog laidL ((World.doorLaid Tryz.prog 400 os).forCall (fun _ _=>0) ⟨#[],args,[]⟩).memory :=
 laidMetH_of_parts3 (fuel:=8) (laidMet_of_run' 8 (by kernel_rfl) (by kernel_rfl)) (by kernel_rfl) (by kernel_rfl)
theorem data_eq:(Rows.laid_redress_token_keywords:DataW Unit)=.agg (Tk.words.map fun x=>.lit (.string x.data.toList)):=by kernel_rfl
theorem of_laid {W:World} (h:laidMetH Tryz.prog laidL W):Tk.KW W:=by
 rw [MakeChecks.laidMetH_plain _ _ _ (by kernel_rfl)] at h
 obtain ⟨ps,hps,_,_⟩:=h
 obtain ⟨_,_,_,_,_,_,_,_,_,_,hps,_⟩:=hps
 obtain ⟨_,_,_,_,_,_,_,_,_,_,hps,_⟩:=hps
 obtain ⟨_,_,_,_,_,_,_,_,_,_,hps,_⟩:=hps
 obtain ⟨g0,t0,cs0,f0,p0,q0,hg0,ht0,hv0,hd0,_⟩:=hps
 obtain rfl:=Option.some.inj (gK.symm.trans hg0)
 obtain rfl:=Option.some.inj (tK.symm.trans ht0)
 obtain ⟨xs,m1,rfl,hx1,hlen,hn,hel⟩:=DataW.trod_array Tryz.underlying234 hd0
 simp only [Prod.mk.injEq] at hx1
 have hx2:(Tk.words.map fun x=>(DataW.lit (.string x.data.toList):DataW Unit))=xs.map (·.1):=by
  have:=hx1.1
  rw [data_eq] at this
  injection this
 have key:∀ j,j<Tk.words.length→W.cell? ⟨0,0+j,none⟩=some (.string (Tk.words.getD j ByteArray.empty)):=by
  intro j hj
  have hj17:j<17:=hj
  have h1:=hel j hj17
  rw [c9] at h1
  have hjx:j<xs.length:=by omega
  rw [List.getElem?_eq_getElem hjx] at h1
  obtain ⟨s,e1,e2,_⟩:=DataW.trod_string Tryz.underlying9 h1
  have h3:(xs.map (·.1))[j]?=some (DataW.lit (.string Tk.words[j].data.toList)):=by
   rw [←hx2,List.getElem?_map,List.getElem?_eq_getElem hj]
   rfl
  rw [List.getElem?_map,List.getElem?_eq_getElem hjx,e2] at h3
  simp only [Option.map_some,Option.some.injEq,DataW.lit.injEq,Lit.string.injEq] at h3
  have hs:s=Tk.words[j]:=by
   cases s
   cases hw:Tk.words[j]
   rw [hw] at h3
   simp only at h3
   rw [Array.toList_inj.1 h3]
  have hc:=World.var?_cell hg0 hv0 j
  rw [Nat.zero_add,hc]
  have e4:cs0.toList[j]?=some (.string s):=by
   have:((cs0.toList.drop (j * 1)).take 1)[0]?=some (.string s):=by rw [e1];rfl
   rw [List.getElem?_take_of_lt (by omega),List.getElem?_drop] at this
   simpa using this
  have e5:Tk.words.getD j ByteArray.empty=s:=by rw [hs,List.getD_eq_getElem?_getD,List.getElem?_eq_getElem hj];rfl
  rw [e5]
  simpa using e4
 refine ⟨?_,key⟩
 exact World.block_lt_of_cell? W _ (key 0 (by decide))
end Kw
end Go.Proofs.YtjfdohhdkdjifaaGreatDoor
set_option linter.unusedVariables false
set_option linter.unusedSimpArgs false
namespace Go.Proofs.YtjfdohhdkdjifaaGreatDoor
open Go.RowKit Go.BigFrame
set_option maxRecDepth 100000 in
set_option maxHeartbeats 16000000 in
theorem codecOne_walk (sv:Value) (x:Id.Sch) (tv:Value) (t:List Id.Srt) (bb:ByteArray) (w0:World) (hv:Id.SchV w0 none sv x) (ht:Id.SortsR w0 none tv t) (hbb:bb.size≤maxLen) (w:World) (he:w=w0) (hk:Tk.KW w) :
  Calls Tryz.prog 7 #[sv,tv,.string bb] w fun e w'=>e=.returned (.bool true)∧Below w.heap.size w w':=by
 subst he
 have HKW:=Lib.hid hk
 clear hk
 unfold maxLen at hbb
 have HV:=Lib.hid hv
 obtain ⟨A1,n1,c1,A2,n2,c2,A3,n3,c3,rfl,-,-,-⟩:=hv
 have HS:=Lib.hid ht
 obtain ⟨A,n,c,rfl⟩:=ERow.is ht
 have HN:Hid (n=t.length):=Lib.hid (by obtain ⟨_,_,e,_⟩:=ERow.slice ht;injection e)
 clear ht
 have done:∀ W,Below w.heap.size w W→Calls Tryz.prog 24 #[] W fun e w'=>e=.returned (.bool true)∧Below w.heap.size w w':=fun W hW=>(wakes16_any W (HKW.out.below hW)).mono fun _ _ ⟨h1,h2⟩=>⟨h1,hW.trans (h2.mono hW.size)⟩
 have HDN:=Lib.hid done
 clear done
 go_enter Tryz.func7,Tryz.ntmps7
 go_upto_region 1 with (fail)
 refine wp_named (fun V hV=>?_)
 have HL:=Lib.hid (Chk.Lx.start hV)
 clear hV
 obtain ⟨⟨q0,q1,q2,q3⟩,-⟩:=HL.out.box.k4
 go_wp2_with fail
 refine (vgreat_any _ x _ t _ [] _ (Id.SchV.below HL.out.bel HV.out) (Id.SortsR.below HS.out HL.out.bel) (ERow.nil_none _ _ _ _)).mono ?_
 rintro e W1 ⟨b,rfl,hb,hg⟩
 have HG:=Lib.hid hg
 clear hg
 have HL2:=Lib.hid (HL.out.below hb)
 clear HL q0 q1 q2 q3
 have HL:=HL2
 clear HL2 hb
 obtain ⟨⟨q0,q1,q2,q3⟩,-⟩:=HL.out.box.k4
 cases b
 case true =>
  go_wp2_with fail
  refine (HDN.out _ HL.out.bel).mono ?_
  rintro e W9 ⟨rfl,hb9⟩
  go_wp2_with fail
  go_ret
  exact ⟨rfl,hb9⟩
 have HF:=Lib.hid (HG.out rfl)
 clear HG
 have HFi:=Lib.hid HF.out.sch.fine
 by_cases hlong:bb.size≤12000
 case neg =>
  have l1:(12000:Int)<(bb.size:Int):=by omega
  have l2:(12000:Int)≤(bb.size:Int):=by omega
  have l3:12000≤bb.size:=by omega
  obtain ⟨b2,HB2⟩:∃ b2:ByteArray,Hid (bb.extract 0 12000=b2):=⟨_,Lib.hid rfl⟩
  have hb2:b2.size≤12000:=by rw [←HB2.out,ByteArray.size_extract];omega
  go_upto_region 5 with (fail)
  rw [HB2.out]
  obtain ⟨⟨dv,da,de⟩,HD⟩:∃ D,Hid (Cd.decP x t b2.data.toList=D):=⟨_,Lib.hid rfl⟩
  obtain ⟨hd0,hd1⟩:=Cd.dec_one HFi.out HD.out
  have HD0:=Lib.hid hd0
  have HD1:=Lib.hid hd1
  clear hd0 hd1
  go_wp2_with fail
  refine (cdecode_any _ x HFi.out _ t b2 (by omega) _ (HKW.out.below HL.out.bel) (Id.SchV.below HL.out.bel HV.out) (Id.SortsR.below HS.out HL.out.bel)).mono ?_
  rw [HD.out]
  rintro e W4 ⟨vv,rfl,hb,hr⟩
  simp only
  have HRV:=Lib.hid (Vl.ValR.none hr)
  clear hr
  have HRB:=Lib.hid hb
  have HL2:=Lib.hid (HL.out.below hb)
  clear HL q0 q1 q2 q3
  have HL:=HL2
  clear HL2 hb
  obtain ⟨⟨q0,q1,q2,q3⟩,-⟩:=HL.out.box.k4
  clear HRB
  obtain ⟨A8,n8,c8,rfl⟩:=ERow.is HRV.out
  have HN8:Hid (n8=dv.length):=Lib.hid (by obtain ⟨_,_,e,_⟩:=ERow.slice HRV.out;injection e)
  by_cases hE:de=0
  case neg =>
   have t1:((de:Int) != 0)=true:=by rw [bne_iff_ne];omega
   have t2:¬(de:Int)=0:=by omega
   obtain ⟨rfl,hal⟩:=HD1.out hE
   obtain rfl:n8=0:=by have:=HN8.out;simpa using this
   have hal2:da≤b2.size:=by simpa using hal
   have t3:(da:Int)≤(b2.size:Int):=by omega
   have t4:(0:Int)≤(da:Int):=by omega
   try simp only [Int.cast_ofNat_Int]
   go_wp2_with fail
   refine (HDN.out _ HL.out.bel).mono ?_
   rintro e W9 ⟨rfl,hb9⟩
   go_wp2_with fail
   go_ret
   exact ⟨rfl,hb9⟩
  subst hE
  obtain ⟨rfl,hft,hen,hok,hvl,hvt⟩:=HD0.out rfl
  have HFT:=Lib.hid hft
  have HEN:=Lib.hid hen
  have HOK:=Lib.hid hok
  have HVT:Hid (∀ n∈dv,n.text.size≤100000):=Lib.hid (fun n hn=>Nat.le_trans (hvt n hn) (by decide))
  clear hft hen hok hvt
  try simp only [Int.cast_ofNat_Int]
  go_wp2_with fail
  refine (cencode_any _ x HFi.out _ t _ dv (by omega) HVT.out HOK.out _ (HKW.out.below HL.out.bel) (Id.SchV.below HL.out.bel HV.out) (Id.SortsR.below HS.out HL.out.bel) HRV.out).mono ?_
  rw [HFT.out,Cd.encB_eq HEN.out]
  rintro e W5 ⟨rfl,hb⟩
  have HL2:=Lib.hid (HL.out.below hb)
  clear HL q0 q1 q2 q3
  have HL:=HL2
  clear HL2 hb
  obtain ⟨⟨q0,q1,q2,q3⟩,-⟩:=HL.out.box.k4
  try simp only [Int.cast_ofNat_Int]
  go_wp2_with fail
  refine (HDN.out _ HL.out.bel).mono ?_
  rintro e W9 ⟨rfl,hb9⟩
  go_wp2_with fail
  go_ret
  exact ⟨rfl,hb9⟩
 have l1:¬(12000:Int)<(bb.size:Int):=by omega
 obtain ⟨⟨dv,da,de⟩,HD⟩:∃ D,Hid (Cd.decP x t bb.data.toList=D):=⟨_,Lib.hid rfl⟩
 obtain ⟨hd0,hd1⟩:=Cd.dec_one HFi.out HD.out
 have HD0:=Lib.hid hd0
 have HD1:=Lib.hid hd1
 clear hd0 hd1
 go_wp2_with fail
 refine (cdecode_any _ x HFi.out _ t bb (by omega) _ (HKW.out.below HL.out.bel) (Id.SchV.below HL.out.bel HV.out) (Id.SortsR.below HS.out HL.out.bel)).mono ?_
 rw [HD.out]
 rintro e W4 ⟨vv,rfl,hb,hr⟩
 simp only
 have HRV:=Lib.hid (Vl.ValR.none hr)
 clear hr
 have HRB:=Lib.hid hb
 have HL2:=Lib.hid (HL.out.below hb)
 clear HL q0 q1 q2 q3
 have HL:=HL2
 clear HL2 hb
 obtain ⟨⟨q0,q1,q2,q3⟩,-⟩:=HL.out.box.k4
 clear HRB
 obtain ⟨A8,n8,c8,rfl⟩:=ERow.is HRV.out
 have HN8:Hid (n8=dv.length):=Lib.hid (by obtain ⟨_,_,e,_⟩:=ERow.slice HRV.out;injection e)
 by_cases hE:de=0
 case neg =>
  have t1:((de:Int) != 0)=true:=by rw [bne_iff_ne];omega
  have t2:¬(de:Int)=0:=by omega
  obtain ⟨rfl,hal⟩:=HD1.out hE
  obtain rfl:n8=0:=by have:=HN8.out;simpa using this
  have hal2:da≤bb.size:=by simpa using hal
  have t3:(da:Int)≤(bb.size:Int):=by omega
  have t4:(0:Int)≤(da:Int):=by omega
  try simp only [Int.cast_ofNat_Int]
  go_wp2_with fail
  refine (HDN.out _ HL.out.bel).mono ?_
  rintro e W9 ⟨rfl,hb9⟩
  go_wp2_with fail
  go_ret
  exact ⟨rfl,hb9⟩
 subst hE
 obtain ⟨rfl,hft,hen,hok,hvl,hvt⟩:=HD0.out rfl
 have HFT:=Lib.hid hft
 have HEN:=Lib.hid hen
 have HOK:=Lib.hid hok
 have HVT:Hid (∀ n∈dv,n.text.size≤100000):=Lib.hid (fun n hn=>Nat.le_trans (hvt n hn) (by decide))
 clear hft hen hok hvt
 try simp only [Int.cast_ofNat_Int]
 go_wp2_with fail
 refine (cencode_any _ x HFi.out _ t _ dv (by omega) HVT.out HOK.out _ (HKW.out.below HL.out.bel) (Id.SchV.below HL.out.bel HV.out) (Id.SortsR.below HS.out HL.out.bel) HRV.out).mono ?_
 rw [HFT.out,Cd.encB_eq HEN.out]
 rintro e W5 ⟨rfl,hb⟩
 have HL2:=Lib.hid (HL.out.below hb)
 clear HL q0 q1 q2 q3
 have HL:=HL2
 clear HL2 hb
 obtain ⟨⟨q0,q1,q2,q3⟩,-⟩:=HL.out.box.k4
 try simp only [Int.cast_ofNat_Int]
 go_wp2_with fail
 refine (HDN.out _ HL.out.bel).mono ?_
 rintro e W9 ⟨rfl,hb9⟩
 go_wp2_with fail
 go_ret
 exact ⟨rfl,hb9⟩
end Go.Proofs.YtjfdohhdkdjifaaGreatDoor
