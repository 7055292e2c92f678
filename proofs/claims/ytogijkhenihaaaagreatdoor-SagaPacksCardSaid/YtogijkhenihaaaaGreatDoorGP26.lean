/- codec.Decode. No condition but the keywords' table and the ones the theorems state. -/
import Derived.Test.YtogijkhenihaaaaGreatDoorGP25
import Derived.Test.YtogijkhenihaaaaGreatDoorGP19
import Derived.Test.YtogijkhenihaaaaGreatDoorGP21
import Derived.Test.YtogijkhenihaaaaGreatDoorGP01
import Derived.Defers
import Derived.Recover
import Derived.Laws.Pointers
import Derived.Lib.Strings
import Derived.Lib.Slices
import Derived.Lib.Walk
import Derived.Lib.Builder
import Derived.Lib.AppendStr
import Derived.Lib.UnsafeStr
import Derived.Lib.MakeNoZero
import Derived.Laws.Externs
import Derived.Laws.IdiomCopy
set_option linter.unusedVariables false
set_option linter.unusedSimpArgs false
namespace Go.Proofs.YtogijkhenihaaaaGreatDoor
open Go.RowKit Go.BigFrame
theorem Cd.Res.keep {w:World} {b B:Nat} {v a e v' a' e' vv:Value} {l:List Vl.Node} (h:Cd.Res w b v a e) (hr:Vl.ValR w (some B) vv l):Vl.ValR (((w.setCell ⟨b,0,none⟩ v').setCell ⟨b+1,0,none⟩ a').setCell ⟨b+2,0,none⟩ e') (some B) vv l:=by
 have k1:Kp B [92] w (w.setCell ⟨b,0,none⟩ v'):=(Only.set h.v 0 v').kp B (by decide)
 have k2:Kp B [92] (w.setCell ⟨b,0,none⟩ v') ((w.setCell ⟨b,0,none⟩ v').setCell ⟨b+1,0,none⟩ a'):=(Only.set (h.a.far (p:=⟨b,0,none⟩) (by simp) v') 0 a').kp B (by decide)
 have k3:Kp B [92] ((w.setCell ⟨b,0,none⟩ v').setCell ⟨b+1,0,none⟩ a') (((w.setCell ⟨b,0,none⟩ v').setCell ⟨b+1,0,none⟩ a').setCell ⟨b+2,0,none⟩ e'):=(Only.set ((h.e.far (p:=⟨b,0,none⟩) (by simp) v').far (p:=⟨b+1,0,none⟩) (by simp) a') 0 e').kp B (by decide)
 exact ERow.kp (show ERow w (some B) 92 4 Vl.NodE vv l from hr) (k1.trans (k2.trans k3)) (Nat.le_refl _) (by decide) (fun _ _ h=>h)
set_option maxRecDepth 100000 in
set_option maxHeartbeats 16000000 in
theorem cdecode_any (sv:Value) (x:Id.Sch) (hF:Chk.Fine x) (tv:Value) (t:List Id.Srt) (bb:ByteArray) (hbb:bb.size≤1000000) (w:World) (hk:Tk.KW w) (hv:Id.SchV w none sv x) (ht:Id.SortsR w none tv t) :
  Calls Tryz.prog 16 #[sv,tv,.string bb] w fun e w'=>∃ vv,e=.returned (.tuple #[vv,.int .i64 (Cd.decP x t bb.data.toList).2.1,.int .i64 (Cd.decP x t bb.data.toList).2.2])∧Below w.heap.size w w'∧Vl.ValR w' (some w.heap.size) vv (Cd.decP x t bb.data.toList).1:=by
 obtain ⟨R,HR⟩:∃ R,Hid (Cd.decP x t bb.data.toList=R):=⟨_,Lib.hid rfl⟩
 rw [HR.out]
 unfold Cd.decP at HR
 have HF:=Lib.hid hF
 have HKW:=Lib.hid hk
 have HV:=Lib.hid hv
 have HS:=Lib.hid ht
 obtain ⟨A1,n1,c1,A2,n2,c2,A3,n3,c3,rfl,-,-,-⟩:=hv
 have hmf:∀ (fn:Fn) (first cap:Array Value) (w:World),(Instr.makeFunc fn first cap).run Tryz.prog w=.ok (.func fn first cap) w:=fun _ _ _ _=>rfl
 clear hF hk ht
 go_enter_defers Tryz.func16,Tryz.ntmps16
 go_upto_region 1 with (fail)
 refine wp_named (fun V hV=>?_)
 have HL:Hid (Chk.Lx w V #[.string x.name,.slice A1 n1 c1,.slice A2 n2 c2,.slice A3 n3 c3]):=Lib.hid (by
  rw [hV]
  exact ⟨((((Below.refl _ _).alloc (Nat.le_refl _) _).alloc (by simp) _).alloc (by simp;omega) _).alloc (by simp;omega) _,(((Bk.new w _ _).alloc _).alloc _).alloc _⟩)
 have HRS:Hid (Cd.Res V (w.heap.size+1) (.slice none 0 0) (.int .i64 0) (.int .i64 0)):=Lib.hid (by
  rw [hV]
  have h1:=Bk.new (w.alloc (.cells #[.string x.name,.slice A1 n1 c1,.slice A2 n2 c2,.slice A3 n3 c3] 28)) 23 #[.slice none 0 0]
  have h2:=Bk.new ((w.alloc (.cells #[.string x.name,.slice A1 n1 c1,.slice A2 n2 c2,.slice A3 n3 c3] 28)).alloc (.cells #[.slice none 0 0] 23)) 3 #[.int .i64 0]
  have h3:=Bk.new (((w.alloc (.cells #[.string x.name,.slice A1 n1 c1,.slice A2 n2 c2,.slice A3 n3 c3] 28)).alloc (.cells #[.slice none 0 0] 23)).alloc (.cells #[.int .i64 0] 3)) 29 #[.int .i64 0]
  simp only [World.size_alloc] at h1 h2 h3
  exact ⟨(h1.alloc _).alloc _,h2.alloc _,h3⟩)
 clear hV
 obtain ⟨⟨q0,q1,q2,q3⟩,-⟩:=HL.out.box.k4
 go_wp2_with fail
 refine (cdright_any _ x HF.out _ t _ (HKW.out.below HL.out.bel) (Id.SchV.below HL.out.bel HV.out) (ERow.below HS.out HL.out.bel (fun _ _ h=>h))).mono ?_
 obtain ⟨T,HT⟩:∃ T,Hid (Vl.typE x t=T):=⟨_,Lib.hid rfl⟩
 rw [HT.out]
 rw [HT.out] at HR
 rintro e W1 ⟨rfl,hb⟩
 have HL1:=Lib.hid (HL.out.below hb)
 have HRS1:=Lib.hid (HRS.out.below hb)
 have hW1:w.heap.size+1+2<W1.heap.size:=HRS1.out.e.lt
 clear hb q0 q1 q2 q3 HL HRS
 by_cases hT:T=0
 case neg =>
  have HE:Hid (R=([],0,T)):=Lib.hid (by rw [←HR.out,if_pos hT])
  obtain rfl:=HE.out
  have t1:((T:Int) != 0)=true:=by rw [bne_iff_ne];omega
  have t2:¬(T:Int)=0:=by omega
  obtain ⟨u0,y0⟩:=HRS1.out.v.k1
  obtain ⟨u1,y1⟩:=HRS1.out.a.k1
  obtain ⟨u2,y2⟩:=HRS1.out.e.k1
  go_wp2_with fail
  have hres:=HRS1.out.set_ (v':=.slice none 0 0) (a':=.int .i64 0) (e':=.int .i64 (T:Nat))
  have hbel:Below w.heap.size w (((W1.setCell ⟨w.heap.size+1,0,none⟩ (.slice none 0 0)).setCell ⟨w.heap.size+1+1,0,none⟩ (.int .i64 0)).setCell ⟨w.heap.size+1+2,0,none⟩ (.int .i64 (T:Nat))):=((HL1.out.bel.setCell (p:=⟨w.heap.size+1,0,none⟩) (by simp) _).setCell (p:=⟨w.heap.size+1+1,0,none⟩) (by simp;omega) _).setCell (p:=⟨w.heap.size+1+2,0,none⟩) (by simp;omega) _
  obtain ⟨e0,-⟩:=hres.v.k1
  obtain ⟨e1,-⟩:=hres.a.k1
  obtain ⟨e2,-⟩:=hres.e.k1
  refine ⟨.tuple #[.slice none 0 0,.int .i64 0,.int .i64 (T:Nat)],?_,.slice none 0 0,rfl,hbel,ERow.nil _ _ _ _ _⟩
  rw [res_ccc rfl]
  go_simp
 subst hT
 have HTY:Hid (Chk.Right x∧Chk.right x t=true):=Lib.hid (Vl.typ_ok HT.out)
 have HRP:Hid ((match Cd.decF x bb.data.toList 12 t ⟨0,[],0⟩ with
  | .error p=>([],p.1,p.2)
  | .ok y=>if y.at_<bb.size then ([],y.at_,162) else (y.v,0,0):List Vl.Node × Nat × Nat)=R):=Lib.hid (by
   rw [←HR.out,if_neg (by simp),show bb.data.toList.length=bb.size by simp]
   cases Cd.decF x bb.data.toList 12 t ⟨0,[],0⟩ <;> rfl)
 clear HR HT
 simp only [Int.cast_ofNat_Int]
 have HV1:=Lib.hid (Id.SchV.below HL1.out.bel HV.out)
 have HS1:Hid (Id.SortsR W1 none tv t):=Lib.hid (ERow.below HS.out HL1.out.bel (fun _ _ h=>h))
 obtain ⟨⟨q0,q1,q2,q3⟩,-⟩:=HL1.out.box.k4
 go_upto_region 6 with (fail)
 refine wp_named (fun V2 hV2=>?_)
 obtain ⟨hb2,hq2,-⟩:=fresh_box hV2
 clear hV2 q0 q1 q2 q3
 have hrd:Cd.Rdr (.string x.name) (.slice A1 n1 c1) (.slice A2 n2 c2) (.slice A3 n3 c3) bb W1 V2 W1.heap.size ⟨0,[],0⟩ (.slice none 0 0):=⟨hb2,Nat.le_refl _,hq2,ERow.nil _ _ _ _ _,Nat.zero_le _,Nat.zero_le _,Nat.zero_le _⟩
 have hst:Cd.Sts W1.heap.size W1.heap.size V2 tv t:=Cd.Sts.old HS1.out hb2 (Nat.le_refl _)
 obtain ⟨ho1,ho2⟩:=Vl.right_okT HTY.out.2
 have hp:=cdpart_any x HF.out HTY.out.1 (.string x.name) (.slice A1 n1 c1) (.slice A2 n2 c2) (.slice A3 n3 c3) bb hbb W1 W1.heap.size HV1.out 12 (Nat.le_refl _) tv t ⟨0,[],0⟩ (.slice none 0 0) V2 ho1 ho2 hrd hst
 rw [show (12 - ((12:Nat):Int))=0 by omega] at hp
 have HP:=Lib.hid hp
 clear hp hst hrd hb2 hq2 ho1 ho2 HTY HV1 HS1
 go_wp2_with fail
 refine HP.out.mono ?_
 clear HP
 obtain ⟨D,HD⟩:∃ D,Hid (Cd.decF x bb.data.toList 12 t ⟨0,[],0⟩=D):=⟨_,Lib.hid rfl⟩
 rw [HD.out]
 rw [HD.out] at HRP
 cases D with
 | error pe =>
  have HE:Hid (R=([],pe.1,pe.2)):=Lib.hid HRP.out.symm
  obtain rfl:=HE.out
  rintro e w5 ⟨rfl,hb5⟩
  have HB5:=Lib.hid hb5
  have HRS5:=Lib.hid (show Cd.Res w5 (w.heap.size+1) _ _ _ from ⟨HRS1.out.v.below hb5 (by omega),HRS1.out.a.below hb5 (by omega),HRS1.out.e.below hb5 (by omega)⟩)
  clear hb5 HRS1
  unfold Cd.pan
  go_wp2_with fail
  refine leaves_cons (f:=59) (args:=#[.pointer (some ⟨w.heap.size+1,0,none⟩),.pointer (some ⟨w.heap.size+1+1,0,none⟩),.pointer (some ⟨w.heap.size+1+2,0,none⟩)]) (by simp) (by simp [go_sem]) ?_
  refine (cguard_panicking (w.heap.size+1) pe.1 pe.2 _ _ _ [] w5 HRS5.out).mono ?_
  rintro e u' w6 ⟨rfl,rfl,hb6,hr6⟩
  obtain ⟨e0,-⟩:=hr6.v.k1
  obtain ⟨e1,-⟩:=hr6.a.k1
  obtain ⟨e2,-⟩:=hr6.e.k1
  have hbel:Below w.heap.size w w6:=(HL1.out.bel.trans (HB5.out.mono HL1.out.bel.size)).trans (hb6.mono (by omega))
  refine ⟨.tuple #[.slice none 0 0,.int .i64 (pe.1:Nat),.int .i64 (pe.2:Nat)],?_,.slice none 0 0,rfl,hbel,ERow.nil _ _ _ _ _⟩
  rw [res_ccc rfl]
  go_simp
 | ok y =>
  have HRY:Hid ((if y.at_<bb.size then ([],y.at_,162) else (y.v,0,0))=R):=Lib.hid HRP.out
  rintro e w5 ⟨rfl,hp5⟩
  obtain ⟨ho5,vv5,hr5⟩:=hp5
  have HR5:=Lib.hid hr5
  have hb5:=hr5.bel
  have HRS5:=Lib.hid (show Cd.Res w5 (w.heap.size+1) _ _ _ from ⟨HRS1.out.v.below hb5 (by omega),HRS1.out.a.below hb5 (by omega),HRS1.out.e.below hb5 (by omega)⟩)
  have HB5:=Lib.hid (HL1.out.bel.trans (hb5.mono HL1.out.bel.size))
  obtain ⟨p,v,z⟩:=y
  obtain ⟨A9,n9,c9,rfl⟩:=ERow.is hr5.row
  obtain ⟨⟨c0,c1,c2,c3,c4,c5,c6,c7⟩,-⟩:=Bk.k8 hr5.box
  simp only at c5 c7 HRY
  have hlo:¬W1.heap.size=w.heap.size+1:=by omega
  have hlo1:¬W1.heap.size=w.heap.size+1+1:=by omega
  have hlo2:¬W1.heap.size=w.heap.size+1+1+1:=by omega
  clear hr5 hb5 HRS1 ho5 HRP HD
  by_cases hlt:p<bb.size
  case pos =>
   have HE:Hid (R=([],p,162)):=Lib.hid (by rw [←HRY.out,if_pos hlt])
   obtain rfl:=HE.out
   have h1:(p:Int)<(bb.size:Int):=by omega
   obtain ⟨u0,y0⟩:=HRS5.out.v.k1
   obtain ⟨u1,y1⟩:=HRS5.out.a.k1
   obtain ⟨u2,y2⟩:=HRS5.out.e.k1
   go_wp2_with fail
   go_region
   go_wp2_with fail
   refine leaves_cons (f:=59) (args:=#[.pointer (some ⟨w.heap.size+1,0,none⟩),.pointer (some ⟨w.heap.size+1+1,0,none⟩),.pointer (some ⟨w.heap.size+1+2,0,none⟩)]) (by simp) (by simp [go_sem]) ?_
   refine (cguard_idle ⟨w.heap.size+1,0,none⟩ ⟨w.heap.size+1+1,0,none⟩ ⟨w.heap.size+1+2,0,none⟩ _).mono ?_
   rintro e u' w6 ⟨rfl,rfl,rfl⟩
   have hres:=HRS5.out.set_ (v':=(.slice none 0 0)) (a':=(.int .i64 (p:Nat))) (e':=(.int .i64 162))
   have hbel:=((HB5.out.setCell (p:=⟨w.heap.size+1,0,none⟩) (by simp) (.slice none 0 0)).setCell (p:=⟨w.heap.size+1+1,0,none⟩) (by simp;omega) (.int .i64 (p:Nat))).setCell (p:=⟨w.heap.size+1+2,0,none⟩) (by simp;omega) (.int .i64 162)
   obtain ⟨e0,-⟩:=hres.v.k1
   obtain ⟨e1,-⟩:=hres.a.k1
   obtain ⟨e2,-⟩:=hres.e.k1
   refine ⟨.tuple #[(.slice none 0 0),(.int .i64 (p:Nat)),(.int .i64 162)],?_,(.slice none 0 0),rfl,hbel.drew,ERow.nil _ _ _ _ _⟩
   rw [res_ccc rfl]
   go_simp
  have HE:Hid (R=(v,0,0)):=Lib.hid (by rw [←HRY.out,if_neg hlt])
  obtain rfl:=HE.out
  have h1:¬(p:Int)<(bb.size:Int):=by omega
  obtain ⟨u0,y0⟩:=HRS5.out.v.k1
  obtain ⟨u1,y1⟩:=HRS5.out.a.k1
  obtain ⟨u2,y2⟩:=HRS5.out.e.k1
  go_wp2_with fail
  refine leaves_cons (f:=59) (args:=#[.pointer (some ⟨w.heap.size+1,0,none⟩),.pointer (some ⟨w.heap.size+1+1,0,none⟩),.pointer (some ⟨w.heap.size+1+2,0,none⟩)]) (by simp) (by simp [go_sem]) ?_
  refine (cguard_idle ⟨w.heap.size+1,0,none⟩ ⟨w.heap.size+1+1,0,none⟩ ⟨w.heap.size+1+2,0,none⟩ _).mono ?_
  rintro e u' w6 ⟨rfl,rfl,rfl⟩
  have hres:=HRS5.out.set_ (v':=(.slice A9 n9 c9)) (a':=(.int .i64 0)) (e':=(.int .i64 0))
  have hbel:=((HB5.out.setCell (p:=⟨w.heap.size+1,0,none⟩) (by simp) (.slice A9 n9 c9)).setCell (p:=⟨w.heap.size+1+1,0,none⟩) (by simp;omega) (.int .i64 0)).setCell (p:=⟨w.heap.size+1+2,0,none⟩) (by simp;omega) (.int .i64 0)
  obtain ⟨e0,-⟩:=hres.v.k1
  obtain ⟨e1,-⟩:=hres.a.k1
  obtain ⟨e2,-⟩:=hres.e.k1
  refine ⟨.tuple #[(.slice A9 n9 c9),(.int .i64 0),(.int .i64 0)],?_,(.slice A9 n9 c9),rfl,hbel,(ERow.mono (HRS5.out.keep HR5.out.row) (fun _ _ hr=>hr.weak (Id.wk_le (by omega))) (fun _ _ h=>h))⟩
  rw [res_ccc rfl]
  go_simp
end Go.Proofs.YtogijkhenihaaaaGreatDoor
set_option linter.unusedVariables false
set_option linter.unusedSimpArgs false
namespace Go.Proofs.YtogijkhenihaaaaGreatDoor
open Go.RowKit Go.BigFrame
theorem Sg.bk {w:World} {g:Nat} {t:TypeId} {cs:Array Value} (h:Bk w g t cs):w.heap[g]?=some (.cells cs t (0,0)):=h
theorem Sg.res_cct {fn:Func} {p q u:Tmp} {ty ty2:TypeId} (h:fn.results=#[.cell p ty,.cell q ty2,.tmp u]) (tmps:Array Value) (P:Program) (w:World) :
  (results fn tmps).run P w=((asAddr (tmps.getD p undef)).run P w).andThen fun a w₁=>((loadVar ty a).run P w₁).andThen fun x w₂=>((asAddr (tmps.getD q undef)).run P w₂).andThen fun b w₃=>((loadVar ty2 b).run P w₃).andThen fun y w₄=>.ok (.tuple #[x,y,tmps.getD u undef]) w₄:=by
 simp only [results,h]
 simp [Sem.run_bind,Result.andThen]
theorem Sg.res_cctt {fn:Func} {p q u v:Tmp} {ty ty2:TypeId} (h:fn.results=#[.cell p ty,.cell q ty2,.tmp u,.tmp v]) (tmps:Array Value) (P:Program) (w:World) :
  (results fn tmps).run P w=((asAddr (tmps.getD p undef)).run P w).andThen fun a w₁=>((loadVar ty a).run P w₁).andThen fun x w₂=>((asAddr (tmps.getD q undef)).run P w₂).andThen fun b w₃=>((loadVar ty2 b).run P w₃).andThen fun y w₄=>.ok (.tuple #[x,y,tmps.getD u undef,tmps.getD v undef]) w₄:=by
 simp only [results,h]
 simp [Sem.run_bind,Result.andThen]
theorem Sg.ret_cct {P:Program} {fn:Func} {R:Ending→World→Prop} {a:Act} {w:World} {p q u:Tmp} {ty ty2:TypeId} (h:fn.results=#[.cell p ty,.cell q ty2,.tmp u]) (g g2:Nat) (hp:a.tmps.getD p undef=.pointer (some ⟨g,0,none⟩)) (hq:a.tmps.getD q undef=.pointer (some ⟨g2,0,none⟩))
  (t t2:TypeId) (cs cs2:Array Value) (d d2:TypeDesc) (hg:Bk w g t cs) (hg2:Bk w g2 t2 cs2) (hu:P.underlying ty=some d) (hd:(match d with | .struct _ | .array _ _=>true | _=>false)=true) (hi:(P.info? ty).map (·.size)=some cs.size)
  (hu2:P.underlying ty2=some d2) (hd2:(match d2 with | .struct _ | .array _ _=>true | _=>false)=true) (hi2:(P.info? ty2).map (·.size)=some cs2.size)
  (hdf:a.defers=[]) (hR:R (.returned (.tuple #[.agg cs,.agg cs2,a.tmps.getD u undef])) w):bodyPost P fn R .ret a w:=by
 refine bodyPost_ret (v:=.tuple #[.agg cs,.agg cs2,a.tmps.getD u undef]) ?_ hdf hR
 rw [Sg.res_cct h,hp,hq]
 simp only [asAddr,Sem.run_pure,Result.andThen_ok,run_loadVar_row (P:=P) w g t ty cs (0,0) d hg hu hd hi,run_loadVar_row (P:=P) w g2 t2 ty2 cs2 (0,0) d2 hg2 hu2 hd2 hi2]
theorem Sg.ret_cctt {P:Program} {fn:Func} {R:Ending→World→Prop} {a:Act} {w:World} {p q u v:Tmp} {ty ty2:TypeId} (h:fn.results=#[.cell p ty,.cell q ty2,.tmp u,.tmp v]) (g g2:Nat) (hp:a.tmps.getD p undef=.pointer (some ⟨g,0,none⟩)) (hq:a.tmps.getD q undef=.pointer (some ⟨g2,0,none⟩))
  (t t2:TypeId) (cs cs2:Array Value) (d d2:TypeDesc) (hg:Bk w g t cs) (hg2:Bk w g2 t2 cs2) (hu:P.underlying ty=some d) (hd:(match d with | .struct _ | .array _ _=>true | _=>false)=true) (hi:(P.info? ty).map (·.size)=some cs.size)
  (hu2:P.underlying ty2=some d2) (hd2:(match d2 with | .struct _ | .array _ _=>true | _=>false)=true) (hi2:(P.info? ty2).map (·.size)=some cs2.size)
  (hdf:a.defers=[]) (hR:R (.returned (.tuple #[.agg cs,.agg cs2,a.tmps.getD u undef,a.tmps.getD v undef])) w):bodyPost P fn R .ret a w:=by
 refine bodyPost_ret (v:=.tuple #[.agg cs,.agg cs2,a.tmps.getD u undef,a.tmps.getD v undef]) ?_ hdf hR
 rw [Sg.res_cctt h,hp,hq]
 simp only [asAddr,Sem.run_pure,Result.andThen_ok,run_loadVar_row (P:=P) w g t ty cs (0,0) d hg hu hd hi,run_loadVar_row (P:=P) w g2 t2 ty2 cs2 (0,0) d2 hg2 hu2 hd2 hi2]
/-- A part of a block known whole. -/
theorem Sg.run_part {P:Program} (w:World) (g off:Nat) (t ty:TypeId) (cs part:Array Value) (d:TypeDesc) (hg:Bk w g t cs) (hp:∀ (j:Nat) (v:Value),part.toList[j]?=some v→cs[off+j]?=some v)
  (hu:P.underlying ty=some d) (hd:(match d with | .struct _ | .array _ _=>true | _=>false)=true) (hi:(P.info? ty).map (·.size)=some part.size) :
  (loadVar ty ⟨g,off,none⟩).run P w=.ok (.agg part) w:=by
 have hl:(loadCells ⟨g,off,none⟩ part.toList.length).run P w=.ok part.toList.toArray w :=
  run_loadCells_list (P:=P) w ⟨g,off,none⟩ part.toList (fun j v hv=>by
   have hadd:(⟨g,off,none⟩:Addr).add j=⟨g,off+j,none⟩:=by unfold Addr.add;split <;> simp_all
   rw [hadd,hg.cell]
   exact hp j v hv)
 cases hq:P.info? ty with
 | none=>simp [hq] at hi
 | some i =>
  have hs:i.size=part.size:=by simpa [hq] using hi
  have hagg:(isAgg ty).run P w=.ok true w:=by
   unfold isAgg
   rw [Sem.run_bind,run_underlying hu w]
   cases d <;> simp_all
  simp only [Array.length_toList,Array.toArray_toList] at hl
  simp [loadVar,Sem.run_bind,hagg,sizeOf,typeInfo,hq,hs,hl]
theorem Sg.list_load_part {P:Program} {ops:Array Oper} {rest:List Oper} {o:Oper} {a:Act} {w:World} {Q:Exit→Act→World→Prop} (hgd:o.guard=none) (ty:TypeId) (x:Operand) (ho:o.op=.load ty x)
  (g off:Nat) (hx:a.eval x=.pointer (some ⟨g,off,none⟩)) (t:TypeId) (cs part:Array Value) (d:TypeDesc) (hg:Bk w g t cs) (hp:∀ (j:Nat) (v:Value),part.toList[j]?=some v→cs[off+j]?=some v)
  (hu:P.underlying ty=some d) (hd:(match d with | .struct _ | .array _ _=>true | _=>false)=true) (hi:(P.info? ty).map (·.size)=some part.size)
  (h:wpList P ops Q rest (a.put o.dst (.agg part)) w):wpList P ops Q (o::rest) a w :=
 wpList_plain hgd fun _ hK=>by
  unfold Oper.wp execOp
  simp only [ho,hx,Instr.loadAt,Instr.sureAddr,Sem.run_bind,Sem.run_pure,Result.andThen_ok,Sg.run_part w g off t ty cs part d hg hp hu hd hi]
  exact hK _ _ h
namespace Sg
open Go.Proofs.YtogijkhenihaaaaGreatDoor.Id Go.Proofs.YtogijkhenihaaaaGreatDoor.Chk Go.Proofs.YtogijkhenihaaaaGreatDoor.Ev Go.Proofs.YtogijkhenihaaaaGreatDoor.Sd
theorem exec_row {P:Program} {w:World} {o:Oper} {ev:Operand→Value} (ty:TypeId) (x:Operand) (ho:o.op=.load ty x) (g:Nat) (hx:ev x=.pointer (some ⟨g,0,none⟩)) (t:TypeId) (cs:Array Value) (d:TypeDesc) (hg:Bk w g t cs)
  (hu:P.underlying ty=some d) (hd:(match d with | .struct _ | .array _ _=>true | _=>false)=true) (hi:(P.info? ty).map (·.size)=some cs.size):(execOp ev o).run P w=.ok (.value (.agg cs)) w:=by
 unfold execOp
 simp only [ho,hx,Instr.loadAt,Instr.sureAddr,Sem.run_bind,Sem.run_pure,Result.andThen_ok,run_loadVar_row (P:=P) w g t ty cs (0,0) d hg hu hd hi]
theorem exec_part {P:Program} {w:World} {o:Oper} {ev:Operand→Value} (ty:TypeId) (x:Operand) (ho:o.op=.load ty x) (g off:Nat) (hx:ev x=.pointer (some ⟨g,off,none⟩)) (t:TypeId) (cs part:Array Value) (d:TypeDesc) (hg:Bk w g t cs)
  (hp:∀ (j:Nat) (v:Value),part.toList[j]?=some v→cs[off+j]?=some v)
  (hu:P.underlying ty=some d) (hd:(match d with | .struct _ | .array _ _=>true | _=>false)=true) (hi:(P.info? ty).map (·.size)=some part.size):(execOp ev o).run P w=.ok (.value (.agg part)) w:=by
 unfold execOp
 simp only [ho,hx,Instr.loadAt,Instr.sureAddr,Sem.run_bind,Sem.run_pure,Result.andThen_ok,Sg.run_part (P:=P) w g off t ty cs part d hg hp hu hd hi]
/-- A run as it lies. -/
def Run.cells (r:Run):Array Value:=#[.string r.id,.string r.saga,.string r.arg,.int .i64 r.at_,.int .u8 (r.phase:Nat),.int .i64 r.tries,.bool r.stop,.int .i64 r.why,.string r.value]
def Run.val (r:Run):Value:=.agg r.cells
/-- Why bytes are no argument of a saga's. -/
noncomputable def argE (x:Sch) (g b:ByteArray):Nat:=(Cd.decP x (Vl.nmd (sag x g).arg) b.data.toList).2.2
theorem nmd_row (W:World) (rn:ByteArray):SortsR (W.alloc (.cells #[.int .u8 7,.string rn] 44)) none (.slice (some ⟨W.heap.size,0,none⟩) 1 1) (Vl.nmd rn):=by
 refine ⟨[[.int .u8 7,.string rn]],rfl,by simp,⟨rfl,_,_,rfl,Nat.le_refl _,by decide,(fun e=>by cases e),fun _=>⟨_,_,rfl,fun j u hu=>?_⟩⟩,fun i h h'=>?_⟩
 ·rw [Nat.zero_add,World.cell?_alloc_mark]
  simpa using hu
 ·obtain rfl:i=0:=by simpa using h
  rfl
end Sg
set_option maxRecDepth 100000 in
set_option maxHeartbeats 16000000 in
theorem sgarg_any (sv:Value) (x:Id.Sch) (hF:Chk.Fine x) (g b:ByteArray) (hbb:b.size≤1000000) (w:World) (hk:Tk.KW w) (hv:Id.SchV w none sv x) :
  Calls Tryz.prog 72 #[sv,.string g,.string b] w fun e w'=>e=.returned (.int .i64 (Sg.argE x g b:Nat))∧Below w.heap.size w w':=by
 obtain ⟨R,HR⟩:∃ R,Hid (Sg.argE x g b=R):=⟨_,Lib.hid rfl⟩
 rw [HR.out]
 have HF:=Lib.hid hF
 have HKW:=Lib.hid hk
 have HV:=Lib.hid hv
 obtain ⟨A1,n1,c1,A2,n2,c2,A3,n3,c3,rfl,-,-,-⟩:=hv
 clear hk hF
 go_enter Tryz.func72,Tryz.ntmps72
 go_upto_region 1 with (fail)
 refine wp_named (fun V hV=>?_)
 have HL:=Lib.hid (Chk.Lx.start hV)
 clear hV
 obtain ⟨⟨q0,q1,q2,q3⟩,-⟩:=HL.out.box.k4
 go_wp2_with fail
 refine (csaga_any _ x g (fun r hr=>Nat.le_trans (HF.out.sa r hr).2.1 (by decide)) _ (Id.SchV.below HL.out.bel HV.out)).mono ?_
 rintro e W1 ⟨u,rfl,hb,hu⟩
 obtain ⟨us,rfl,hus⟩:=hu
 obtain ⟨A6,n6,c6,rfl⟩:=ERow.is hus
 have HL1:=Lib.hid (HL.out.below hb)
 clear hb hus q0 q1 q2 q3 HL
 go_upto_region 2 with (fail)
 refine wp_named (fun V2 hV=>?_)
 obtain ⟨hbV,hqV,-⟩:=fresh_box hV
 have HL2:=Lib.hid (HL1.out.below hbV)
 clear hV hbV
 obtain ⟨G,HG⟩:∃ G,Hid ((Sd.sag x g).arg=G):=⟨_,Lib.hid rfl⟩
 have HGG:Hid (((Chk.sagaOf x g).getD Chk.sagZ).arg=G):=Lib.hid HG.out
 rw [HGG.out] at hqV
 have HRR:Hid ((Cd.decP x (Vl.nmd G) b.data.toList).2.2=R):=Lib.hid (by rw [←HG.out];exact HR.out)
 clear HR HG HGG
 obtain ⟨⟨q0,q1,q2,q3⟩,-⟩:=HL2.out.box.k4
 obtain ⟨⟨r0,r1,r2⟩,-⟩:=hqV.k3
 go_wp2_with fail
 have hb3:Below w.heap.size w (V2.alloc (.cells #[.int .u8 7,.string G] 44)):=HL2.out.bel.trans (((Below.refl _ _).alloc (Nat.le_refl _) _).mono HL2.out.bel.size)
 have h3:=cdecode_any _ x HF.out _ (Vl.nmd G) b hbb _ (HKW.out.below hb3) (Id.SchV.below hb3 HV.out) (Sg.nmd_row V2 G)
 refine h3.mono ?_
 rw [HRR.out]
 rintro e W3 ⟨vv,rfl,hb,hr⟩
 have hb4:=hb3.trans (hb.mono hb3.size)
 clear hb h3 hb3 hr
 go_wp2_with fail
 go_ret
 exact ⟨rfl,hb4⟩
set_option maxRecDepth 100000 in
set_option maxHeartbeats 4000000 in
theorem sgover_any (r:Sg.Run) (w:World):Calls Tryz.prog 27 #[r.val] w fun e w'=>e=.returned (.bool (Sg.over r))∧Below w.heap.size w w':=by
 obtain ⟨r0,r1,r2,r3,p,r5,r6,r7,r8⟩:=r
 obtain ⟨R,HR⟩:∃ R,Hid (Sg.over ⟨r0,r1,r2,r3,p,r5,r6,r7,r8⟩=R):=⟨_,Lib.hid rfl⟩
 rw [HR.out]
 unfold Sg.over at HR
 unfold Sg.Run.val Sg.Run.cells
 go_enter Tryz.func27,Tryz.ntmps27
 go_upto_region 1 with (fail)
 refine wp_named (fun V hV=>?_)
 obtain ⟨hb,hq,-⟩:=fresh_box hV
 have HB:=Lib.hid hb
 clear hV hb
 have c4:=hq.cell 4
 simp only [List.getElem?_toArray,List.getElem?_cons_zero,List.getElem?_cons_succ] at c4
 by_cases h3:3≤p
 ·by_cases h5:p≤5
  ·have HE:Hid (R=true):=Lib.hid (by rw [←HR.out];simp only [h3,h5,decide_true,Bool.and_self])
   obtain rfl:=HE.out
   have t1:(3:Int)≤(p:Int):=by omega
   have t2:(p:Int)≤5:=by omega
   go_wp2_with fail
   go_ret
   exact ⟨rfl,HB.out⟩
  ·have HE:Hid (R=false):=Lib.hid (by rw [←HR.out];simp only [h3,h5,decide_true,decide_false,Bool.true_and])
   obtain rfl:=HE.out
   have t1:(3:Int)≤(p:Int):=by omega
   have t2:¬(p:Int)≤5:=by omega
   go_wp2_with fail
   go_ret
   exact ⟨rfl,HB.out⟩
 ·have HE:Hid (R=false):=Lib.hid (by rw [←HR.out];simp only [h3,decide_false,Bool.false_and])
  obtain rfl:=HE.out
  have t1:¬(3:Int)≤(p:Int):=by omega
  go_wp2_with fail
  go_ret
  exact ⟨rfl,HB.out⟩
theorem Sg.ret_c {P:Program} {fn:Func} {R:Ending→World→Prop} {a:Act} {w:World} {p:Tmp} {ty:TypeId} (h:fn.results=#[.cell p ty]) (g:Nat) (hp:a.tmps.getD p undef=.pointer (some ⟨g,0,none⟩))
  (t:TypeId) (cs:Array Value) (d:TypeDesc) (hg:Bk w g t cs) (hu:P.underlying ty=some d) (hd:(match d with | .struct _ | .array _ _=>true | _=>false)=true) (hi:(P.info? ty).map (·.size)=some cs.size)
  (hdf:a.defers=[]) (hR:R (.returned (.agg cs)) w):bodyPost P fn R .ret a w :=
 bodyPost_ret (results_cell_row (P:=P) h a.tmps w g t cs (0,0) d hp hg hu hd hi) hdf hR
namespace Sg
open Go.Proofs.YtogijkhenihaaaaGreatDoor.Id Go.Proofs.YtogijkhenihaaaaGreatDoor.Chk Go.Proofs.YtogijkhenihaaaaGreatDoor.Ev Go.Proofs.YtogijkhenihaaaaGreatDoor.Sd
abbrev zrun:Array Value:=#[.string ⟨#[]⟩,.string ⟨#[]⟩,.string ⟨#[]⟩,.int .i64 0,.int .u8 0,.int .i64 0,.bool false,.int .i64 0,.string ⟨#[]⟩]
/-- What a walk tells: a run, a letter, two words. -/
def outV (q:Run × Letter × Bool × Bool):Value:=.tuple #[q.1.val,q.2.1.val,.bool q.2.2.1,.bool q.2.2.2]
def out3V (q:Run × Letter × Nat):Value:=.tuple #[q.1.val,q.2.1.val,.int .i64 (q.2.2:Nat)]
/-- The blocks of two results: a run and a letter. -/
structure Two (V:World) (g g':Nat) (r l:Array Value):Prop where
 r:Bk V g 54 r
 l:Bk V g' 56 l
 ne:g≠g'
section
variable {V : World} {g g' : Nat} {r l : Array Value}
theorem Two.setR (h:Two V g g' r l) (c:Array Value):Two (V.setRow g c) g g' c l:=⟨h.r.row c,h.l.row_far (Ne.symm h.ne) c,h.ne⟩
theorem Two.setL (h:Two V g g' r l) (c:Array Value):Two (V.setRow g' c) g g' r c:=⟨h.r.row_far h.ne c,h.l.row c,h.ne⟩
theorem Two.both (h:Two V g g' r l) (c c':Array Value):Two ((V.setRow g c).setRow g' c') g g' c c':=(h.setR c).setL c'
theorem Two.below {B:Nat} {W:World} (h:Two V g g' r l) (hb:Below B V W) (h1:g<B) (h2:g'<B):Two W g g' r l:=⟨h.r.below hb h1,h.l.below hb h2,h.ne⟩
end
theorem below_both {B g g':Nat} {w V:World} (h:Below B w V) (h1:B≤g) (h2:B≤g') (c c':Array Value):Below B w ((V.setRow g c).setRow g' c'):=below_row (below_row h h1 c) h2 c'
end Sg
set_option maxRecDepth 100000 in
set_option maxHeartbeats 16000000 in
theorem sgbegin_any (sv:Value) (x:Id.Sch) (hF:Chk.Fine x) (g id:ByteArray) (hid:id.size≤100000) (fr:Int) (b:ByteArray) (hbb:b.size≤1000000) (w:World) (hk:Tk.KW w) (hv:Id.SchV w none sv x) :
  Calls Tryz.prog 22 #[sv,.string g,.string id,.int .i64 fr,.string b] w fun e w'=>e=.returned (Sg.out3V (Sg.begin_ Sg.argE x g id fr b))∧Below w.heap.size w w':=by
 obtain ⟨R,HR⟩:∃ R,Hid (Sg.begin_ Sg.argE x g id fr b=R):=⟨_,Lib.hid rfl⟩
 rw [HR.out]
 unfold Sg.begin_ at HR
 have hco:=fun W k v=>scall_any sv x hF g id hid 0 false fr b W k v
 obtain ⟨⟨⟨k0,k1,k2,k3,k4,k5,k6,k7,k8,k9⟩,E⟩,HG⟩:∃ G,Hid (Sd.call x g id 0 false fr b=G):=⟨_,Lib.hid rfl⟩
 rw [HG.out] at HR
 simp only [HG.out,Ev.Letter.val] at hco
 have HCO:=Lib.hid hco
 have hao:=fun W k v=>sgarg_any sv x hF g b hbb W k v
 obtain ⟨A,HA⟩:∃ A,Hid (Sg.argE x g b=A):=⟨_,Lib.hid rfl⟩
 rw [HA.out] at HR
 simp only [HA.out] at hao
 have HAO:=Lib.hid hao
 clear hco hao
 have HKW:=Lib.hid hk
 have HV:=Lib.hid hv
 obtain ⟨A1,n1,c1,A2,n2,c2,A3,n3,c3,rfl,-,-,-⟩:=hv
 clear hk hF
 go_enter Tryz.func22,Tryz.ntmps22
 go_upto_region 1 with (fail)
 refine wp_named (fun V hV=>?_)
 have HL:Hid (Chk.Lx w V #[.string x.name,.slice A1 n1 c1,.slice A2 n2 c2,.slice A3 n3 c3]):=Lib.hid (by subst hV;exact ⟨(((Below.refl _ _).alloc (Nat.le_refl _) _).alloc (by simp) _).alloc (by simp;omega) _,((Bk.new w _ _).alloc _).alloc _⟩)
 have HQ:Hid (Sg.Two V (w.heap.size+1) (w.heap.size+2) Sg.zrun #[.int .u8 0,.int .i64 0,.int .i64 0,.int .u64 0,.string ⟨#[]⟩,.int .u64 0,.string ⟨#[]⟩,.string ⟨#[]⟩,.int .i64 0,.string ⟨#[]⟩]):=Lib.hid (by
  subst hV
  have h1:=Bk.new (w.alloc (.cells #[.string x.name,.slice A1 n1 c1,.slice A2 n2 c2,.slice A3 n3 c3] 28)) 54 Sg.zrun
  have h2:=Bk.new ((w.alloc (.cells #[.string x.name,.slice A1 n1 c1,.slice A2 n2 c2,.slice A3 n3 c3] 28)).alloc (.cells Sg.zrun 54)) 56 #[.int .u8 0,.int .i64 0,.int .i64 0,.int .u64 0,.string ⟨#[]⟩,.int .u64 0,.string ⟨#[]⟩,.string ⟨#[]⟩,.int .i64 0,.string ⟨#[]⟩]
  simp only [World.size_alloc] at h1 h2
  exact ⟨h1.alloc _,h2,by omega⟩)
 clear hV
 obtain ⟨⟨q0,q1,q2,q3⟩,-⟩:=HL.out.box.k4
 go_wp2_with fail
 refine (HCO.out _ (HKW.out.below HL.out.bel) (Id.SchV.below HL.out.bel HV.out)).mono ?_
 rintro e W1 ⟨rfl,hb⟩
 have HL1:=Lib.hid (HL.out.below hb)
 have HQ1:=Lib.hid (HQ.out.below hb HQ.out.r.lt HQ.out.l.lt)
 clear hb q0 q1 q2 q3 HL HQ HCO
 go_upto_region 2 with (fail)
 refine wp_named (fun V2 hV=>?_)
 obtain ⟨hbV,hL,-⟩:=fresh_box hV
 have HL2:=Lib.hid (HL1.out.below hbV)
 have hQ:=HQ1.out.below hbV HQ1.out.r.lt HQ1.out.l.lt
 have hltL:=HQ1.out.l.lt
 clear hV hbV HQ1 HL1
 obtain ⟨gL,HgL⟩:∃ n,Hid (W1.heap.size=n):=⟨_,Lib.hid rfl⟩
 rw [HgL.out] at hL hltL ⊢
 by_cases hE:E=0
 case neg =>
  have HE:Hid (R=(Sg.Run.zero,Ev.Letter.zero,E)):=Lib.hid (by rw [←HR.out,if_pos hE])
  have t1:((E:Int)==0)=false:=by rw [beq_eq_false_iff_ne];omega
  have t2:¬(E:Int)=0:=by omega
  have t3:((E:Int) != 0)=true:=by rw [bne_iff_ne];omega
  have hB:=HL2.out.bel
  (have hq1:=hQ.r;have hq2:=(hQ.setR Sg.zrun).l;unfold Bk at hq1 hq2)
  go_wp2_with (refine wpList_store_row rfl _ _ _ rfl _ _ rfl rfl _ _ (by with_reducible assumption) (by kernel_rfl) (by rfl) (by simp [Value.oneCell']) ?_)
  (refine Sg.ret_cct rfl _ _ rfl rfl _ _ _ _ _ _ (hQ.both _ _).r (hQ.both _ _).l Tryz.underlying54 rfl (by kernel_rfl) Tryz.underlying56 rfl (by kernel_rfl) rfl ⟨?_,Sg.below_both hB (by omega) (by omega) _ _⟩)
  rw [HE.out]
  rfl
 subst hE
 rw [if_neg (by simp)] at HR
 obtain ⟨⟨q0,q1,q2,q3⟩,-⟩:=HL2.out.box.k4
 go_wp2_with fail
 refine (HAO.out _ (HKW.out.below HL2.out.bel) (Id.SchV.below HL2.out.bel HV.out)).mono ?_
 rintro e W3 ⟨rfl,hb⟩
 have hB:=(HL2.out.below hb).bel
 have hL3:=hL.below hb hL.lt
 have hQ3:=hQ.below hb hQ.r.lt hQ.l.lt
 clear hb q0 q1 q2 q3 hL hQ HL2
 have hL:=hL3
 have hQ:=hQ3
 clear hL3 hQ3
 by_cases hA:A=0
 case neg =>
  have HE:Hid (R=(Sg.Run.zero,Ev.Letter.zero,A)):=Lib.hid (by rw [←HR.out,if_pos hA])
  have t1:((A:Int)==0)=false:=by rw [beq_eq_false_iff_ne];omega
  have t2:¬(A:Int)=0:=by omega
  have t3:((A:Int) != 0)=true:=by rw [bne_iff_ne];omega
  (have hq1:=hQ.r;have hq2:=(hQ.setR Sg.zrun).l;unfold Bk at hq1 hq2)
  go_wp2_with (refine wpList_store_row rfl _ _ _ rfl _ _ rfl rfl _ _ (by with_reducible assumption) (by kernel_rfl) (by rfl) (by simp [Value.oneCell']) ?_)
  (refine Sg.ret_cct rfl _ _ rfl rfl _ _ _ _ _ _ (hQ.both _ _).r (hQ.both _ _).l Tryz.underlying54 rfl (by kernel_rfl) Tryz.underlying56 rfl (by kernel_rfl) rfl ⟨?_,Sg.below_both hB (by omega) (by omega) _ _⟩)
  rw [HE.out]
  rfl
 subst hA
 have HE:Hid (R=(⟨id,g,b,0,1,0,false,0,⟨#[]⟩⟩,⟨k0,k1,k2,k3,k4,k5,k6,k7,k8,k9⟩,0)):=Lib.hid (by rw [←HR.out,if_neg (by simp)])
 go_upto_region 6 with (fail)
 have hd:Below W3.heap.size W3 W3.drew:=(Below.refl _ _).drew
 have hLd:=hL.below hd hL.lt
 have hQd:=hQ.below hd hQ.r.lt hQ.l.lt
 have hBd:=hB.trans (hd.mono hB.size)
 clear hd hL hQ hB
 have hQ:=hQd
 have hB:=hBd
 have hlt:=hLd.lt
 clear hQd hBd
 refine wp_region_L_calm (fun w'=>Bk w' gL 56 #[.int .u8 k0,.int .i64 k1,.int .i64 k2,.int .u64 k3,.string k4,.int .u64 k5,.string k6,.string k7,.int .i64 k8,.string k9]) [6] (by kernel_rfl) hLd (fun hHeld=>?_)
 (refine wpAnyL_take0 0 (v:=?_) rfl (by kernel_rfl) (by kernel_rfl) (by kernel_rfl) (by kernel_rfl) (fun _ _ _ h=>h) (fun _=>by assumption) (by rfl) ?_ ?_;rotate_left;· (intro w;go_simp;try with_reducible rfl);try simp only [Act.put,List.setIfInBounds_toArray,List.set_cons_zero,List.set_cons_succ])
 (refine wpAnyL_take0 1 (v:=?_) rfl (by kernel_rfl) (by kernel_rfl) (by kernel_rfl) (by kernel_rfl) (fun _ _ _ h=>h) (fun _=>by assumption) (by rfl) ?_ ?_;rotate_left;· (intro w;go_simp;try with_reducible rfl);try simp only [Act.put,List.setIfInBounds_toArray,List.set_cons_zero,List.set_cons_succ])
 (refine wpAnyL_take0 2 (v:=?_) rfl (by kernel_rfl) (by kernel_rfl) (by kernel_rfl) (by kernel_rfl) (fun _ _ _ h=>h) (fun _=>by assumption) (by rfl) ?_ ?_;rotate_left;· (intro w;go_simp;try with_reducible rfl);try simp only [Act.put,List.setIfInBounds_toArray,List.set_cons_zero,List.set_cons_succ])
 (refine wpAnyL_take0 3 (v:=?_) rfl (by kernel_rfl) (by kernel_rfl) (by kernel_rfl) (by kernel_rfl) (fun _ _ _ h=>h) (fun _=>by assumption) (by rfl) ?_ ?_;rotate_left;· (intro w;go_simp;try with_reducible rfl);try simp only [Act.put,List.setIfInBounds_toArray,List.set_cons_zero,List.set_cons_succ])
 (refine Lst.takeM 6 4 (v:=.agg #[.int .u8 k0,.int .i64 k1,.int .i64 k2,.int .u64 k3,.string k4,.int .u64 k5,.string k6,.string k7,.int .i64 k8,.string k9]) rfl (by kernel_rfl) (by kernel_rfl) (by kernel_rfl) (by kernel_rfl) (by kernel_rfl) (by kernel_rfl) (fun _ _ _ h=>h) (by assumption) (by kernel_rfl) (fun w' hSw=>Sg.exec_row _ _ rfl gL rfl _ _ _ hSw Tryz.underlying56 rfl (by kernel_rfl)) ?_;try simp only [Act.put,List.setIfInBounds_toArray,List.set_cons_zero,List.set_cons_succ])
 (refine wpAnyL_step 5 (by kernel_rfl) rfl (fun K hK=>?_))
 rw [if_pos (by rfl)]
 (with_reducible refine wp_store_row 54 _ _ rfl (w.heap.size+1) #[.string id,.string g,.string b,.int .i64 0,.int .u8 1,.int .i64 0,.bool false,.int .i64 0,.string ⟨#[]⟩] (by kernel_rfl) (by kernel_rfl) 54 _ (Sg.bk hQ.r) (by kernel_rfl) (by kernel_rfl) (by simp [Value.oneCell']) ?_)
 (refine hK.out _ _ (fun hnn=>hLd.row_far (by omega) _) ?_;clear hK K;try simp only [Act.put,List.setIfInBounds_toArray,List.set_cons_zero,List.set_cons_succ])
 (refine wpAnyL_step 6 (by kernel_rfl) rfl (fun K hK=>?_))
 rw [if_pos (by rfl)]
 (with_reducible refine wp_store_row 56 _ _ rfl (w.heap.size+2) #[.int .u8 k0,.int .i64 k1,.int .i64 k2,.int .u64 k3,.string k4,.int .u64 k5,.string k6,.string k7,.int .i64 k8,.string k9] (by kernel_rfl) (by kernel_rfl) 56 _ (Sg.bk (hQ.setR _).l) (by kernel_rfl) (by kernel_rfl) (by simp [Value.oneCell']) ?_)
 (refine hK.out _ _ (fun hnn=>absurd hnn (by decide)) ?_;clear hK K;try simp only [Act.put,List.setIfInBounds_toArray,List.set_cons_zero,List.set_cons_succ])
 (refine wpAnyL_step 7 (by kernel_rfl) rfl (fun K hK=>?_))
 go_simp
 (refine hK.out _ _ (fun hnn=>absurd hnn (by decide)) ?_;clear hK K;try simp only [Act.put,List.setIfInBounds_toArray,List.set_cons_zero,List.set_cons_succ])
 refine wpAnyL_done (by kernel_rfl) ?_ _
 refine NoPanic.normal ?_
 go_wp2_with fail
 (refine Sg.ret_cct rfl _ _ rfl rfl _ _ _ _ _ _ (hQ.both _ _).r (hQ.both _ _).l Tryz.underlying54 rfl (by kernel_rfl) Tryz.underlying56 rfl (by kernel_rfl) rfl ⟨?_,Sg.below_both hB (by omega) (by omega) _ _⟩)
 rw [HE.out]
 rfl
end Go.Proofs.YtogijkhenihaaaaGreatDoor
set_option linter.unusedVariables false
namespace Go.Proofs.YtogijkhenihaaaaGreatDoor
open Go.RowKit
namespace Bd
theorem size:(Tryz.prog.info? 156).map (·.size)=some 2:=by kernel_rfl
theorem lies:liesAt Tryz.prog Tryz.prog.depth 156 (2 / Tryz.prog.cellsOf 156) 0 156 1=true:=by kernel_rfl
theorem byte:(Tryz.prog.info? 5).map (fun i=>(i.zero,i.size,i.bytes))=some (some (.int .u8 0),1,1):=by kernel_rfl
/-- Every other block than the builder's and its buffer's stays. -/
def Oth (e:TypeId) (b:Nat) (w w':World):Prop:=∀ (g:Nat) (cs:Array Value) (T:TypeId) (fr:Nat × Nat),w.heap[g]?=some (.cells cs T fr)→T≠e→g≠b→w'.heap[g]?=some (.cells cs T fr)
theorem Oth.refl (e:TypeId) (b:Nat) (w:World):Oth e b w w:=fun _ _ _ _ h _ _=>h
theorem Oth.trans {e:TypeId} {b:Nat} {u v w:World} (h:Oth e b u v) (k:Oth e b v w):Oth e b u w:=fun g cs T fr hg hT hb=>k g cs T fr (h g cs T fr hg hT hb) hT hb
theorem lt_heap {w:World} {g:Nat} {o:Obj} (h:w.heap[g]?=some o):g<w.heap.size:=by
 rcases Nat.lt_or_ge g w.heap.size with h' | h'
 ·exact h'
 ·simp [Array.getElem?_eq_none h'] at h
theorem Oth.set {e:TypeId} {b:Nat} {u w:World} (h:Oth e b u w) (i:Nat) (x:Value):Oth e b u (w.setCell ⟨b,i,none⟩ x):=fun g cs T fr hg hT hb =>
 (Below.heap_setCell w ⟨b,i,none⟩ x g hb).trans (h g cs T fr hg hT hb)
theorem Oth.alloc {e:TypeId} {b:Nat} {u w:World} (h:Oth e b u w) (o:Obj):Oth e b u (w.alloc o):=fun g cs T fr hg hT hb =>
 (Lib.alloc_old w o g (lt_heap (h g cs T fr hg hT hb))).trans (h g cs T fr hg hT hb)
theorem Oth.grown {e:TypeId} {b B n:Nat} {u w w':World} {v:Value} {xs:List Value} (h:Oth e b u w) (hown:w.ownsRow B e 1 v n xs) (hg':w.grownBy w' v.ownBlock):Oth e b u w':=fun g cs T fr hg hT hb =>
 (hg'.block g (lt_heap (h g cs T fr hg hT hb)) (fun e'=>Lib.ownBlock_ne hown (h g cs T fr hg hT hb) hT e'.symm)).trans (h g cs T fr hg hT hb)
set_option maxHeartbeats 1000000 in
set_option maxRecDepth 100000 in
theorem check_used (b:Nat) (w:World) (h0:w.cell? ⟨b,0,none⟩=some (.pointer (some ⟨b,0,none⟩))) :
  Calls Tryz.prog 159 #[.pointer (some ⟨b,0,none⟩)] w fun e w'=>e=.returned (.tuple #[])∧w'=w:=by
 obtain ⟨j,hj,_⟩:=Option.map_eq_some_iff.1 size
 go_enter Tryz.func159,Tryz.ntmps159
 go_wp2
 rw [Lib.run_neq_ptr_same w _ Tryz.underlying154 hj]
 go_wp2
 go_end0
 exact ⟨rfl,rfl⟩
set_option maxHeartbeats 1000000 in
set_option maxRecDepth 100000 in
theorem check_fresh (b:Nat) (w:World) (h0:w.cell? ⟨b,0,none⟩=some (.pointer none)) (hsh:w.shape? b=some (156,2)) (hfz:w.frozen? ⟨b,0,none⟩=false) :
  Calls Tryz.prog 159 #[.pointer (some ⟨b,0,none⟩)] w fun e w'=>e=.returned (.tuple #[])∧w'=w.setCell ⟨b,0,none⟩ (.pointer (some ⟨b,0,none⟩)):=by
 obtain ⟨j,hj,hjs⟩:=Option.map_eq_some_iff.1 size
 go_enter Tryz.func159,Tryz.ntmps159
 go_wp2
 rw [Lib.run_to_unsafe w ⟨b,0,none⟩ Tryz.underlying154 Tryz.underlying261 hj (by rw [hjs];decide) hsh (Nat.zero_lt_succ 1)]
 simp only [Result.andThen]
 rw [Oper.upon_value]
 go_wp2
 rw [run_callFunc_extern Tryz.func196 (by kernel_rfl) (by kernel_rfl) (by kernel_rfl) (e:=Extern.AbiNoEscape.same) (by kernel_rfl)]
 rw [Lib.run_noEscape]
 simp only [Result.andThen]
 rw [Oper.upon_value]
 go_wp2
 rw [Lib.run_from_unsafe w ⟨b,0,none⟩ Tryz.underlying261 Tryz.underlying154 hj hsh lies]
 simp only [Result.andThen]
 rw [Oper.upon_value]
 go_wp2
 go_end0
 exact ⟨rfl,rfl⟩
theorem check (B b:Nat) (bs:List Value) (w:World) (h:Lib.IsBuilder 156 5 B b bs w) :
  Calls Tryz.prog 159 #[.pointer (some ⟨b,0,none⟩)] w fun e w'=>e=.returned (.tuple #[])∧(Lib.BuilderAt 156 5 B b (.pointer (some ⟨b,0,none⟩)) bs w'∧Below B w w')∧Oth 5 b w w':=by
 rcases h with h | h
 ·refine (check_fresh b w h.cell0 h.shape h.frozen0).mono ?_
  rintro e w' ⟨rfl,rfl⟩
  exact ⟨rfl,⟨h.used _,(Below.refl B w).setCell (p:=⟨b,0,none⟩) h.1 _⟩,(Oth.refl _ _ _).set _ _⟩
 ·refine (check_used b w h.cell0).mono ?_
  rintro e w' ⟨rfl,rfl⟩
  exact ⟨rfl,⟨h,Below.refl B _⟩,Oth.refl _ _ _⟩
set_option maxHeartbeats 2000000 in
set_option maxRecDepth 100000 in
theorem writeString (B b:Nat) (bs:List Value) (s:ByteArray) (w:World) (h:Lib.IsBuilder 156 5 B b bs w) (hlen:bs.length+s.size≤140737488355328) (hBw:B≤w.heap.size) :
  Calls Tryz.prog 87 #[.pointer (some ⟨b,0,none⟩),.string s] w fun e w'=>e=.returned (.tuple #[.int .i64 s.size,.nilIface])∧(Lib.BuilderAt 156 5 B b (.pointer (some ⟨b,0,none⟩)) (bs++Lib.strCells s) w'∧Below B w w')∧Oth 5 b w w':=by
 obtain ⟨i0,hi,hz0,hz1,hz2⟩:=info_parts byte
 go_enter Tryz.func87,Tryz.ntmps87
 go_wp2_with fail
 refine (check B b bs _ h).mono ?_
 rintro e w1 ⟨rfl,⟨h1,hb1⟩,ho1⟩
 obtain ⟨hB,v,hbk,hown,hne⟩:=h1
 have c0:w1.cell? ⟨b,0,none⟩=some (.pointer (some ⟨b,0,none⟩)):=by rw [Lib.cell_of_heap hbk];rfl
 have c1:w1.cell? ⟨b,1,none⟩=some v:=by rw [Lib.cell_of_heap hbk];rfl
 go_wp2_with (at_builtin;refine Lib.wpList_append_own_string _ rfl _ _ 120 9 rfl B 5 i0 Tryz.underlying120 Tryz.underlying9 hi hz0 hz1 hz2 _ _ _ rfl hown s rfl ?c3 ?c4 ?c5 ?_)
 case c3=>unfold maxLen;omega
 case c4=>omega
 case c5=>have:=hb1.size;omega
 intro v' w2 hown' hgrow _
 have hlt:b<w1.heap.size:=by
  rcases Nat.lt_or_ge b w1.heap.size with h' | h'
  ·exact h'
  ·simp [Array.getElem?_eq_none h'] at hbk
 have hb2:w2.heap[b]?=some (.cells #[.pointer (some ⟨b,0,none⟩),v] 156 (0,0)):=by
  rw [hgrow.block b hlt (fun e=>hne e.symm)]
  exact hbk
 have d0:w2.cell? ⟨b,0,none⟩=some (.pointer (some ⟨b,0,none⟩)):=by rw [Lib.cell_of_heap hb2];rfl
 have d1:w2.cell? ⟨b,1,none⟩=some v:=by rw [Lib.cell_of_heap hb2];rfl
 have f1:w2.frozen? ⟨b,1,none⟩=false:=Lib.frozen_of_heap hb2 1
 obtain ⟨ao,n',cap,rfl⟩:∃ ao n' cap,v'=.slice ao n' cap:=by
  rcases hown'.2 with ⟨hv,_⟩ | ⟨g,cap,cur,hv,_⟩
  ·exact ⟨_,_,_,hv⟩
  ·exact ⟨_,_,_,hv⟩
 go_wp2
 go_ret2
 refine ⟨rfl,⟨?_,?_⟩,(ho1.grown hown hgrow).set _ _⟩
 ·exact Lib.BuilderAt.put (T:=156) (e:=5) hB hb2 (bs':=bs++Lib.strCells s) (by simpa [Lib.strCells_length] using hown') (by decide)
 ·exact (hb1.grown hgrow (by have:=hb1.size;omega) (fun k hk=>(hown.lt k hk).1)).setCell (p:=⟨b,1,none⟩) hB _
end Bd
end Go.Proofs.YtogijkhenihaaaaGreatDoor
