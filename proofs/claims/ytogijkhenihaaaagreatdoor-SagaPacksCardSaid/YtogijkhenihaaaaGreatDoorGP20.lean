/- sagadef: found, Steps. No condition but the keywords' table and the ones the theorems state. -/
import Derived.Test.YtogijkhenihaaaaGreatDoorGP18
import Derived.Test.YtogijkhenihaaaaGreatDoorGP01
import Derived.Laws.ResultCell
set_option linter.unusedVariables false
set_option linter.unusedSimpArgs false
namespace Go.Proofs.YtogijkhenihaaaaGreatDoor
open Go.RowKit Go.BigFrame
namespace Sd
open Go.Proofs.YtogijkhenihaaaaGreatDoor.Id Go.Proofs.YtogijkhenihaaaaGreatDoor.Chk Go.Proofs.YtogijkhenihaaaaGreatDoor.Ev
noncomputable def gOf (x:Sch) (g:ByteArray):Sag:=if foundE x g=0 then sag x g else sagZ
noncomputable def pOf (x:Sch) (g:ByteArray):Nat:=if foundE x g=0 then (Prn.print x).1 else 0
theorem sagZ_v (w:World) (b:Nat):SagV w (some b) (.agg #[.string ⟨#[]⟩,.string ⟨#[]⟩,.slice none 0 0]) sagZ:=⟨_,rfl,ERow.nil _ _ _ _ _⟩
theorem sagV_old {w:World} {b B:Nat} {v:Value} {g:Sag} (hb:B≤b) (h:SagV w (some b) v g):SagV w (some B) v g:=by
 obtain ⟨u,e,hs⟩:=h
 exact ⟨u,e,ERow.mono hs (fun _ _ hr=>hr.weak (fun b' e'=>by injection e' with e';exact ⟨b,rfl,by omega⟩)) (fun _ _ h=>h)⟩
/-- Three cells of a block written. -/
theorem set3 {w:World} {b:Nat} {T:TypeId} {x0 x1 x2 y0 y1 y2:Value} (h:Bk w b T #[x0,x1,x2]):Bk (((w.setCell ⟨b,0,none⟩ y0).setCell ⟨b,1,none⟩ y1).setCell ⟨b,2,none⟩ y2) b T #[y0,y1,y2]:=((h.set_ 0 y0).set_ 1 y1).set_ 2 y2
theorem bel3 {w:World} {B b:Nat} {V:World} {y0 y1 y2:Value} (h:Below B V w) (hb:B≤b):Below B V (((w.setCell ⟨b,0,none⟩ y0).setCell ⟨b,1,none⟩ y1).setCell ⟨b,2,none⟩ y2):=((h.setCell (p:=⟨b,0,none⟩) hb _).setCell (p:=⟨b,1,none⟩) hb _).setCell (p:=⟨b,2,none⟩) hb _
theorem sagV_set3 {w:World} {b B:Nat} {T:TypeId} {x0 x1 x2 y0 y1 y2 v:Value} {g:Sag} (hT:T≠184) (h:Bk w b T #[x0,x1,x2]) (hs:SagV w (some B) v g):SagV (((w.setCell ⟨b,0,none⟩ y0).setCell ⟨b,1,none⟩ y1).setCell ⟨b,2,none⟩ y2) (some B) v g:=by
 obtain ⟨u,e,hr⟩:=hs
 have hn:T ∉ [184]:=by simpa using hT
 have k1:Kp B [184] w (w.setCell ⟨b,0,none⟩ y0):=(Only.set h 0 y0).kp B hn
 have k2:Kp B [184] (w.setCell ⟨b,0,none⟩ y0) ((w.setCell ⟨b,0,none⟩ y0).setCell ⟨b,1,none⟩ y1):=(Only.set (h.set_ 0 y0) 1 y1).kp B hn
 have k3:Kp B [184] ((w.setCell ⟨b,0,none⟩ y0).setCell ⟨b,1,none⟩ y1) (((w.setCell ⟨b,0,none⟩ y0).setCell ⟨b,1,none⟩ y1).setCell ⟨b,2,none⟩ y2):=(Only.set ((h.set_ 0 y0).set_ 1 y1) 2 y2).kp B hn
 exact ⟨u,e,ERow.kp hr (k1.trans (k2.trans k3)) (Nat.le_refl _) (by simp) (fun _ _ h=>h)⟩
end Sd
set_option maxRecDepth 100000 in
set_option maxHeartbeats 16000000 in
theorem sfound_any (sv:Value) (x:Id.Sch) (hF:Chk.Fine x) (g:ByteArray) (w:World) (hk:Tk.KW w) (hv:Id.SchV w none sv x) :
  Calls Tryz.prog 75 #[sv,.string g] w fun e w'=>∃ v,e=.returned (.tuple #[v,.int .u64 (Sd.pOf x g:Nat),.int .i64 (Sd.foundE x g:Nat)])∧Below w.heap.size w w'∧Chk.SagV w' (some w.heap.size) v (Sd.gOf x g):=by
 obtain ⟨FE,HFE⟩:∃ F,Hid (Sd.foundE x g=F):=⟨_,Lib.hid rfl⟩
 obtain ⟨FP,HFP⟩:∃ F,Hid (Sd.pOf x g=F):=⟨_,Lib.hid rfl⟩
 obtain ⟨FG,HFG⟩:∃ F,Hid (Sd.gOf x g=F):=⟨_,Lib.hid rfl⟩
 rw [HFE.out,HFP.out,HFG.out]
 unfold Sd.pOf at HFP
 unfold Sd.gOf at HFG
 rw [HFE.out] at HFP HFG
 unfold Sd.foundE at HFE
 obtain ⟨⟨p,pe⟩,HP⟩:∃ q,Hid (Prn.print x=q):=⟨_,Lib.hid rfl⟩
 rw [HP.out] at HFE HFP
 simp only at HFE HFP
 have HF:=Lib.hid hF
 have HKW:=Lib.hid hk
 have HV:=Lib.hid hv
 obtain ⟨A1,n1,c1,A2,n2,c2,A3,n3,c3,rfl,-,-,-⟩:=hv
 clear hF hk
 go_enter Tryz.func75,Tryz.ntmps75
 go_upto_region 1 with (fail)
 refine wp_named (fun V hV=>?_)
 have HL:Hid (Chk.Lx w V #[.string x.name,.slice A1 n1 c1,.slice A2 n2 c2,.slice A3 n3 c3]):=Lib.hid (by subst hV;exact ⟨((Below.refl _ _).alloc (Nat.le_refl _) _).alloc (by simp) _,(Bk.new w _ _).alloc _⟩)
 have HQ:Hid (Bk V (w.heap.size+1) 105 #[.string ⟨#[]⟩,.string ⟨#[]⟩,.slice none 0 0]):=Lib.hid (by subst hV;have h:=Bk.new (w.alloc (.cells #[.string x.name,.slice A1 n1 c1,.slice A2 n2 c2,.slice A3 n3 c3] 28)) 105 #[.string ⟨#[]⟩,.string ⟨#[]⟩,.slice none 0 0];rw [World.size_alloc] at h;exact h)
 clear hV
 obtain ⟨⟨q0,q1,q2,q3⟩,-⟩:=HL.out.box.k4
 go_wp2_with fail
 refine (pPrint_any _ x HF.out _ (HKW.out.below HL.out.bel) (Id.SchV.below HL.out.bel HV.out)).mono ?_
 rw [HP.out]
 rintro e W1 ⟨rfl,hb⟩
 have HL1:=Lib.hid (HL.out.below hb)
 have HQ1:=Lib.hid (HQ.out.below hb HQ.out.lt)
 clear hb q0 q1 q2 q3 HL HQ
 obtain ⟨⟨z0,z1,z2⟩,y0,y1,y2⟩:=HQ1.out.k3
 obtain ⟨⟨q0,q1,q2,q3⟩,-⟩:=HL1.out.box.k4
 by_cases hpe:pe=0
 case neg =>
  have HE:Hid (FE=pe):=Lib.hid (by rw [←HFE.out,if_pos hpe])
  obtain rfl:=HE.out
  have HE2:Hid (FP=0):=Lib.hid (by rw [←HFP.out,if_neg hpe])
  obtain rfl:=HE2.out
  have HE3:Hid (FG=Chk.sagZ):=Lib.hid (by rw [←HFG.out,if_neg hpe])
  obtain rfl:=HE3.out
  have t1:((FE:Int) != 0)=true:=by rw [bne_iff_ne];omega
  have t2:¬(FE:Int)=0:=by omega
  go_wp2_with fail
  clear z0 z1 z2
  obtain ⟨⟨e0,e1,e2⟩,-⟩:=Bk.k3 (Sd.set3 HQ1.out (y0:=.string ⟨#[]⟩) (y1:=.string ⟨#[]⟩) (y2:=.slice none 0 0))
  refine bodyPost_ret (v:=.tuple #[.agg #[.string ⟨#[]⟩,.string ⟨#[]⟩,.slice none 0 0],.int .u64 (0:Nat),.int .i64 (FE:Nat)]) ?_ rfl ⟨_,rfl,Sd.bel3 HL1.out.bel (by omega),Sd.sagZ_v _ _⟩
  rw [res_ctt rfl]
  go_simp
  try rfl
 subst hpe
 rw [if_neg (by simp)] at HFE
 go_wp2_with fail
 refine (csaga_any _ x g (fun r hr=>Nat.le_trans (HF.out.sa r hr).2.1 (by decide)) _ (Id.SchV.below HL1.out.bel HV.out)).mono ?_
 obtain ⟨GO,HGd⟩:∃ GO,Hid (Chk.sagaOf x g=GO):=⟨_,Lib.hid rfl⟩
 rw [HGd.out] at HFE ⊢
 rintro e W2 ⟨u,rfl,hb,hu⟩
 have HSG:Hid (Sd.sag x g=GO.getD Chk.sagZ):=Lib.hid (by unfold Sd.sag;rw [HGd.out])
 rw [HSG.out] at HFG
 obtain ⟨G,HG⟩:∃ G,Hid (GO.getD Chk.sagZ=G):=⟨_,Lib.hid rfl⟩
 rw [HG.out] at hu HFG
 have HS:=Lib.hid (Sd.sagV_old (B:=w.heap.size) (by have:=HL1.out.bel.size;omega) hu)
 obtain ⟨u2,rfl,hu2⟩:=hu
 obtain ⟨A6,n6,c6,rfl⟩:=ERow.is hu2
 clear hu2
 have HL2:=Lib.hid (HL1.out.below hb)
 have HQ2:=Lib.hid (HQ1.out.below hb HQ1.out.lt)
 clear hb q0 q1 q2 q3 z0 z1 z2 y0 y1 y2 HL1 HQ1
 obtain ⟨⟨z0,z1,z2⟩,y0,y1,y2⟩:=HQ2.out.k3
 obtain ⟨⟨q0,q1,q2,q3⟩,-⟩:=HL2.out.box.k4
 obtain ⟨gb,Hgb⟩:∃ gb,Hid (GO.isSome=gb):=⟨_,Lib.hid rfl⟩
 rw [Hgb.out] at HFE ⊢
 cases gb
 ·have HE:Hid (FE=240):=Lib.hid (by rw [←HFE.out];simp)
  obtain rfl:=HE.out
  have HE2:Hid (FP=0):=Lib.hid (by rw [←HFP.out];simp)
  obtain rfl:=HE2.out
  have HE3:Hid (FG=Chk.sagZ):=Lib.hid (by rw [←HFG.out];simp)
  obtain rfl:=HE3.out
  go_wp2_with fail
  clear z0 z1 z2
  have HQ3:=Lib.hid (Sd.set3 HQ2.out (y0:=.string G.name) (y1:=.string G.arg) (y2:=.slice A6 n6 c6))
  have HB3:=Lib.hid (Sd.bel3 HL2.out.bel (b:=w.heap.size+1) (y0:=.string G.name) (y1:=.string G.arg) (y2:=.slice A6 n6 c6) (by omega))
  obtain ⟨⟨e0,e1,e2⟩,-⟩:=Bk.k3 (Sd.set3 HQ3.out (y0:=.string ⟨#[]⟩) (y1:=.string ⟨#[]⟩) (y2:=.slice none 0 0))
  refine bodyPost_ret (v:=.tuple #[.agg #[.string ⟨#[]⟩,.string ⟨#[]⟩,.slice none 0 0],.int .u64 (0:Nat),.int .i64 (240:Nat)]) ?_ rfl ⟨_,rfl,Sd.bel3 HB3.out (by omega),Sd.sagZ_v _ _⟩
  rw [res_ctt rfl]
  go_simp
  try rfl
 ·have HE:Hid (FE=0):=Lib.hid (by rw [←HFE.out];simp)
  obtain rfl:=HE.out
  have HE2:Hid (FP=p):=Lib.hid (by rw [←HFP.out];simp)
  obtain rfl:=HE2.out
  have HE3:Hid (FG=G):=Lib.hid (by rw [←HFG.out];simp)
  obtain rfl:=HE3.out
  have HQ3:=Lib.hid (Sd.set3 HQ2.out (y0:=.string FG.name) (y1:=.string FG.arg) (y2:=.slice A6 n6 c6))
  have HB3:=Lib.hid (Sd.bel3 HL2.out.bel (b:=w.heap.size+1) (y0:=.string FG.name) (y1:=.string FG.arg) (y2:=.slice A6 n6 c6) (by omega))
  have HS3:=Lib.hid (Sd.sagV_set3 (y0:=.string FG.name) (y1:=.string FG.arg) (y2:=.slice A6 n6 c6) (by decide) HQ2.out HS.out)
  obtain ⟨⟨e0,e1,e2⟩,f0,f1,f2⟩:=HQ3.out.k3
  go_wp2_with fail
  clear z0 z1 z2
  have HQ4:=Lib.hid (Sd.set3 HQ3.out (y0:=.string FG.name) (y1:=.string FG.arg) (y2:=.slice A6 n6 c6))
  obtain ⟨⟨e0,e1,e2⟩,-⟩:=HQ4.out.k3
  refine bodyPost_ret (v:=.tuple #[.agg #[.string FG.name,.string FG.arg,.slice A6 n6 c6],.int .u64 (FP:Nat),.int .i64 (0:Nat)]) ?_ rfl ⟨_,rfl,Sd.bel3 HB3.out (by omega),Sd.sagV_set3 (by decide) HQ3.out HS3.out⟩
  rw [res_ctt rfl]
  go_simp
  try rfl
namespace Sd
open Go.Proofs.YtogijkhenihaaaaGreatDoor.Id Go.Proofs.YtogijkhenihaaaaGreatDoor.Chk Go.Proofs.YtogijkhenihaaaaGreatDoor.Ev
theorem gOf_len (x:Sch) (g:ByteArray):(gOf x g).steps.length=(steps x g).1:=by
 unfold gOf steps
 by_cases h:foundE x g=0
 ·rw [if_pos h,if_neg (by simp [h])]
 ·rw [if_neg h,if_pos h]
  rfl
theorem steps_err (x:Sch) (g:ByteArray):(steps x g).2=foundE x g:=by
 unfold steps
 by_cases h:foundE x g=0
 ·rw [if_neg (by simp [h]),h]
 ·rw [if_pos h]
end Sd
set_option maxRecDepth 100000 in
set_option maxHeartbeats 8000000 in
theorem ssteps_any (sv:Value) (x:Id.Sch) (hF:Chk.Fine x) (g:ByteArray) (w:World) (hk:Tk.KW w) (hv:Id.SchV w none sv x) :
  Calls Tryz.prog 24 #[sv,.string g] w fun e w'=>e=.returned (.tuple #[.int .i64 ((Sd.steps x g).1:Nat),.int .i64 ((Sd.steps x g).2:Nat)])∧Below w.heap.size w w':=by
 have hfo:=fun W k v=>sfound_any sv x hF g W k v
 rw [Sd.steps_err,←Sd.gOf_len]
 obtain ⟨G,HG⟩:∃ G,Hid (Sd.gOf x g=G):=⟨_,Lib.hid rfl⟩
 obtain ⟨FE,HFE⟩:∃ F,Hid (Sd.foundE x g=F):=⟨_,Lib.hid rfl⟩
 obtain ⟨FP,HFP⟩:∃ F,Hid (Sd.pOf x g=F):=⟨_,Lib.hid rfl⟩
 rw [HG.out,HFE.out]
 simp only [HG.out,HFE.out,HFP.out] at hfo
 have HFO:=Lib.hid hfo
 clear hfo
 have HKW:=Lib.hid hk
 have HV:=Lib.hid hv
 obtain ⟨A1,n1,c1,A2,n2,c2,A3,n3,c3,rfl,-,-,-⟩:=hv
 clear hk
 go_enter Tryz.func24,Tryz.ntmps24
 go_upto_region 1 with (fail)
 refine wp_named (fun V hV=>?_)
 have HL:Hid (Chk.Lx w V #[.string x.name,.slice A1 n1 c1,.slice A2 n2 c2,.slice A3 n3 c3]):=Lib.hid (by subst hV;exact ⟨(Below.refl _ _).alloc (Nat.le_refl _) _,Bk.new w _ _⟩)
 clear hV
 obtain ⟨⟨q0,q1,q2,q3⟩,-⟩:=HL.out.box.k4
 go_wp2_with fail
 refine (HFO.out _ (HKW.out.below HL.out.bel) (Id.SchV.below HL.out.bel HV.out)).mono ?_
 rintro e W1 ⟨v,rfl,hb,u,rfl,hu⟩
 obtain ⟨A6,n6,c6,rfl⟩:=ERow.is hu
 have HN:Hid (n6=G.steps.length):=Lib.hid (by obtain ⟨_,_,e,_⟩:=ERow.slice hu;injection e)
 have HB:=Lib.hid (HL.out.below hb).bel
 clear hb hu q0 q1 q2 q3
 go_upto_region 2 with (fail)
 refine wp_named (fun V2 hV=>?_)
 obtain ⟨hbV,hqV,-⟩:=fresh_box hV
 obtain ⟨⟨b0,b1,b2⟩,-⟩:=hqV.k3
 have HB2:=Lib.hid (HB.out.trans (hbV.mono HB.out.size))
 clear hV hbV hqV
 go_wp2_with fail
 refine bodyPost_ret (results_tmp2 rfl _ _ _) rfl ⟨by rw [HN.out];rfl,HB2.out⟩
end Go.Proofs.YtogijkhenihaaaaGreatDoor
set_option linter.unusedVariables false
namespace Go.Proofs.YtogijkhenihaaaaGreatDoor
open Go.RowKit
theorem ret_row {P:Program} {fn:Func} {R:Ending→World→Prop} {a:Act} {w:World} {p u:Tmp} {ty:TypeId} (h:fn.results=#[.cell p ty,.tmp u]) (g:Nat) (hp:a.tmps.getD p undef=.pointer (some ⟨g,0,none⟩))
  (t:TypeId) (cs:Array Value) (d:TypeDesc) (hg:Bk w g t cs) (hu:P.underlying ty=some d) (hd:(match d with | .struct _ | .array _ _=>true | _=>false)=true) (hi:(P.info? ty).map (·.size)=some cs.size)
  (hdf:a.defers=[]) (hR:R (.returned (.tuple #[.agg cs,a.tmps.getD u undef])) w):bodyPost P fn R .ret a w:=by
 refine bodyPost_ret (v:=.tuple #[.agg cs,a.tmps.getD u undef]) ?_ hdf hR
 rw [results_cell_tmp h,hp]
 have hl:=run_loadVar_row (P:=P) w g t ty cs (0,0) d hg hu hd hi
 simp only [asAddr,Sem.run_pure,Result.andThen_ok,hl]
end Go.Proofs.YtogijkhenihaaaaGreatDoor
set_option linter.unusedVariables false
set_option linter.unusedSimpArgs false
namespace Go.Proofs.YtogijkhenihaaaaGreatDoor
open Go.RowKit Go.BigFrame
namespace Lst
section
variable {P : Program} {ops : Array Oper} {Q : Exit → Act → World → Prop} {md : Region.Mode} {S : World → Prop} {z : Nat}
/-- Each ahead of z has one behind it, up to z, that waits for it. -/
def lastM (md:Region.Mode) (ops:Array Oper) (z:Nat):Bool :=
 (List.range z).all fun i=>(List.range (z+1)).any fun j=>decide (i<j)&&match ops[j]? with
  | none=>false
  | some o=>o.after.any fun e=>Region.binds md e&&e.on==i
theorem Shut.allM {listed:Array Bool} (h:Shut md ops listed) (hL:lastM md ops z=true) (hz:z∈Region.ready md ops listed):∀ i,i<z→listed.getD i false=true:=by
 unfold lastM at hL
 have key:∀ n i,z - i=n→i<z→listed.getD i false=true:=by
  intro n
  induction n using Nat.strongRecOn with
  | _ n ih =>
   intro i hn hi
   obtain ⟨j,hj,hjj⟩:=List.any_eq_true.1 (List.all_eq_true.1 hL i (List.mem_range.2 hi))
   simp only [Bool.and_eq_true,decide_eq_true_eq] at hjj
   obtain ⟨hij,hjj⟩:=hjj
   have hjz2:j<z+1:=List.mem_range.1 hj
   have hjs:j<ops.size:=by
    obtain ⟨_,o',ho',_⟩:=mem_ready.1 hz
    have:=(Array.getElem?_eq_some_iff.1 ho').1
    omega
   rw [Array.getElem?_eq_getElem hjs] at hjj
   simp only at hjj
   obtain ⟨m,hm,hmm⟩:=Array.any_eq_true.1 hjj
   simp only [Bool.and_eq_true,beq_iff_eq] at hmm
   have hjo:ops[j]?=some ops[j]:=Array.getElem?_eq_getElem hjs
   rw [←hmm.2]
   by_cases hjz:j=z
   ·subst hjz
    obtain ⟨_,o',ho',hall⟩:=mem_ready.1 hz
    rw [hjo] at ho'
    injection ho' with ho'
    subst ho'
    exact hall _ (Array.getElem_mem hm) hmm.1
   ·exact h.2 j _ hjo (ih (z - j) (by omega) j rfl (by omega)) _ (Array.getElem_mem hm) hmm.1
 exact fun i hi=>key _ i rfl hi
theorem firstM {i:Nat} {oi:Oper} {v:Value} (hi:ops[i]?=some oi) (hsel:∀ (j:Nat) (o:Oper) cs b,ops[j]?=some o→o.op≠.select cs b)
  (hQ:∀ c a w,Q (.panic c) (a.put oi.dst v) w→Q (.panic c) a w) (hL:lastM md ops z=true) (hiz:i<z) :
  ∀ (fuel:Nat) (listed:Array Bool) (a:Act) (w:World),
   Shut md ops listed→noneOf [z] listed=true →
   (∀ j oj,ops[j]?=some oj→j≠i→listed.getD j true=false→(∀ e∈oj.after,Region.binds md e=true→e.on≠i)→oi.apart ops oj=true) →
   i∈Region.ready md ops listed→YieldsIf P ops S oi v a→S w →
   wpAnyL P md ops Q S [z] fuel (listed.setIfInBounds i true) (a.put oi.dst v) w→wpAnyL P md ops Q S [z] (fuel+1) listed a w:=by
 intro fuel
 induction fuel with
 | zero =>
  intro listed a w hs hD _ hr hy hS H
  refine ⟨fun h=>(by rw [h] at hr;cases hr),fun j hj=>?_⟩
  by_cases hji:j=i
  ·subst hji;exact hy.wpOp hi hS ⟨fun _=>hS,H⟩
  ·have:=ready_mono hj hji
   rw [H.1] at this
   cases this
 | succ fuel ih =>
  intro listed a w hs hD hfree hr hy hS H
  refine ⟨fun h=>(by rw [h] at hr;cases hr),fun j hj=>?_⟩
  by_cases hji:j=i
  ·subst hji;exact hy.wpOp hi hS ⟨fun _=>hS,H⟩
  ·have h1:=H.2 j (ready_mono hj hji)
   obtain ⟨hjun,oj,hoj,hall⟩:=mem_ready.1 hj
   have hnot:∀ e∈oj.after,Region.binds md e=true→e.on≠i:=fun e he hb heq=>by
    have h1:=hall e he hb
    have h0:=(mem_ready.1 hr).1
    rw [heq] at h1
    rcases Nat.lt_or_ge i listed.size with h' | h'
    ·simp [h'] at h0 h1;rw [h0] at h1;cases h1
    ·simp [Array.getElem?_eq_none h'] at h1
   have h2:=wpOp_putIf hoj (hfree j oj hoj hji hjun hnot) (fun cs b=>hsel i oi cs b hi) (fun cs b=>hsel j oj cs b hoj) hQ hy h1
   have hfree':∀ k ok,ops[k]?=some ok→k≠i→(listed.setIfInBounds j true).getD k true=false →
     (∀ e∈ok.after,Region.binds md e=true→e.on≠i)→oi.apart ops ok=true:=fun k ok hk hki hun hno=>by
    refine hfree k ok hk hki ?_ hno
    by_cases hjk:j=k
    ·subst hjk;exact hjun
    ·rw [getD_set_ne true hjk] at hun;exact hun
   have hiD:i ∉ [z]:=by simp;omega
   have hjD:j ∉ [z]:=by
    intro hjz
    simp at hjz
    subst hjz
    have h1:=Shut.allM hs hL hj i hiz
    have h0:=(mem_ready.1 hr).1
    have hls:i<listed.size:=by rw [hs.1];exact (Array.getElem?_eq_some_iff.1 hi).1
    simp [hls] at h0 h1
    rw [h0] at h1
    cases h1
   have hD':=noneOf_set hD hjD
   refine wpOp_mono (fun a' w' h3=>⟨fun _=>h3.2.1 (noneOf_set (noneOf_set hD hiD) hjD),ih (listed.setIfInBounds j true) a' w' (hs.next hj) hD' hfree' (ready_mono hr (Ne.symm hji)) h3.1 (h3.2.1 (noneOf_set (noneOf_set hD hiD) hjD)) ?_⟩) h2
   rw [Array.setIfInBounds_comm _ _ hji]
   exact h3.2.2
theorem takeM (z i:Nat) {oi:Oper} {v:Value} {fuel:Nat} {listed:Array Bool} {a:Act} {w:World} (hi:ops[i]?=some oi)
  (hs:Region.noSelect ops=true) (hf:Region.free md ops listed i=true) (hr:(Region.ready md ops listed).contains i=true) (hL:lastM md ops z=true) (hz:(decide (i<z)&&noneOf [z] listed)=true) (hsh:shutB md ops listed=true)
  (hQ:∀ c a w,Q (.panic c) (a.put oi.dst v) w→Q (.panic c) a w) (hS:S w) (hw:Region.wanted oi (yielded ops a.tmps)=true) (hy:∀ w,S w→(execOp a.eval oi).run P w=.ok (.value v) w)
  (h:wpAnyL P md ops Q S [z] fuel (listed.setIfInBounds i true) (a.put oi.dst v) w):wpAnyL P md ops Q S [z] (fuel+1) listed a w:=by
 simp only [Bool.and_eq_true,decide_eq_true_eq] at hz
 exact firstM hi (Region.noSelect_spec hs) hQ hL hz.1 fuel listed a w (shut_of hsh) hz.2 (Region.free_spec hi hf) (by simpa using hr) (.inl ⟨hw,hy⟩) hS h
end
end Lst
end Go.Proofs.YtogijkhenihaaaaGreatDoor
set_option linter.unusedVariables false
set_option linter.unusedSimpArgs false
namespace Go.Proofs.YtogijkhenihaaaaGreatDoor
open Go.RowKit Go.BigFrame
namespace Sd
open Go.Proofs.YtogijkhenihaaaaGreatDoor.Id Go.Proofs.YtogijkhenihaaaaGreatDoor.Chk Go.Proofs.YtogijkhenihaaaaGreatDoor.Ev
theorem gOf_steps (x:Sch) (g:ByteArray) (h:foundE x g=0):gOf x g=sag x g:=if_pos h
theorem pOf_ok (x:Sch) (g:ByteArray) (h:foundE x g=0):pOf x g=(Prn.print x).1:=if_pos h
theorem letter_bad {x:Sch} {g id:ByteArray} {i fr:Int} {E:Nat} (h:letE x g id i fr=E) (hE:E≠0):letter x g id i fr=(Letter.zero,E):=by
 unfold letter
 rw [if_pos (by rw [h];exact hE),h]
theorem letter_ok {x:Sch} {g id:ByteArray} {i fr:Int} (h:letE x g id i fr=0):letter x g id i fr=(base x g id i fr,0):=by
 unfold letter
 rw [if_neg (by simp [h])]
end Sd
set_option maxRecDepth 100000 in
set_option maxHeartbeats 16000000 in
theorem sletter_any (sv:Value) (x:Id.Sch) (hF:Chk.Fine x) (g id:ByteArray) (hid:id.size≤100000) (i fr:Int) (w:World) (hk:Tk.KW w) (hv:Id.SchV w none sv x) :
  Calls Tryz.prog 149 #[sv,.string g,.string id,.int .i64 i,.int .i64 fr] w fun e w'=>e=.returned (.tuple #[(Sd.letter x g id i fr).1.val,.int .i64 ((Sd.letter x g id i fr).2:Nat)])∧Below w.heap.size w w':=by
 have hfo:=fun W k v=>sfound_any sv x hF g W k v
 obtain ⟨R,HR⟩:∃ R,Hid (Sd.letter x g id i fr=R):=⟨_,Lib.hid rfl⟩
 rw [HR.out]
 obtain ⟨G,HG⟩:∃ G,Hid (Sd.gOf x g=G):=⟨_,Lib.hid rfl⟩
 obtain ⟨FE,HFE⟩:∃ F,Hid (Sd.foundE x g=F):=⟨_,Lib.hid rfl⟩
 obtain ⟨FP,HFP⟩:∃ F,Hid (Sd.pOf x g=F):=⟨_,Lib.hid rfl⟩
 simp only [HG.out,HFE.out,HFP.out] at hfo
 have HFO:=Lib.hid hfo
 clear hfo
 have HKW:=Lib.hid hk
 have HV:=Lib.hid hv
 obtain ⟨A1,n1,c1,A2,n2,c2,A3,n3,c3,rfl,-,-,-⟩:=hv
 clear hk
 obtain ⟨B,HB⟩:∃ B,Hid (Sd.idL id.data.toList=B):=⟨_,Lib.hid rfl⟩
 go_enter Tryz.func149,Tryz.ntmps149
 go_upto_region 1 with (fail)
 refine wp_named (fun V hV=>?_)
 have HL:Hid (Chk.Lx w V #[.string x.name,.slice A1 n1 c1,.slice A2 n2 c2,.slice A3 n3 c3]):=Lib.hid (by subst hV;exact ⟨((Below.refl _ _).alloc (Nat.le_refl _) _).alloc (by simp) _,(Bk.new w _ _).alloc _⟩)
 have HQ:Hid (Bk V (w.heap.size+1) 56 #[.int .u8 0,.int .i64 0,.int .i64 0,.int .u64 0,.string ⟨#[]⟩,.int .u64 0,.string ⟨#[]⟩,.string ⟨#[]⟩,.int .i64 0,.string ⟨#[]⟩]):=Lib.hid (by subst hV;have h:=Bk.new (w.alloc (.cells #[.string x.name,.slice A1 n1 c1,.slice A2 n2 c2,.slice A3 n3 c3] 28)) 56 #[.int .u8 0,.int .i64 0,.int .i64 0,.int .u64 0,.string ⟨#[]⟩,.int .u64 0,.string ⟨#[]⟩,.string ⟨#[]⟩,.int .i64 0,.string ⟨#[]⟩];rw [World.size_alloc] at h;exact h)
 clear hV
 obtain ⟨⟨q0,q1,q2,q3⟩,-⟩:=HL.out.box.k4
 go_wp2_with fail
 refine (HFO.out _ (HKW.out.below HL.out.bel) (Id.SchV.below HL.out.bel HV.out)).mono ?_
 rintro e W1 ⟨v,rfl,hb,u,rfl,hu⟩
 obtain ⟨A6,n6,c6,rfl⟩:=ERow.is hu
 have HN:Hid (n6=G.steps.length):=Lib.hid (by obtain ⟨_,_,e,_⟩:=ERow.slice hu;injection e)
 have HM:Hid (n6≤9223372036854775807):=Lib.hid (by obtain ⟨_,_,e,_,_⟩:=ERow.slice hu;injection e;omega)
 have HB1:=Lib.hid (HL.out.below hb).bel
 have HQ1:=Lib.hid (HQ.out.below hb HQ.out.lt)
 have HU:Hid (ERow W1 none 184 3 Id.StpE (.slice A6 n6 c6) G.steps):=Lib.hid (ERow.mono hu (fun _ _ hr=>hr.weak (fun b' e=>by cases e)) (fun _ _ h=>h))
 clear hb hu q0 q1 q2 q3 HL HQ HFO
 go_upto_region 2 with (fail)
 refine wp_named (fun V2 hV=>?_)
 obtain ⟨hbV,hqV,-⟩:=fresh_box hV
 obtain ⟨⟨b0,b1,b2⟩,-⟩:=hqV.k3
 have hB:=HB1.out.trans (hbV.mono HB1.out.size)
 have hQ:=HQ1.out.below hbV HQ1.out.lt
 have HU2:=Lib.hid (ERow.below HU.out hbV Id.StpE.kp)
 clear hV hbV HQ1 HB1 HU
 by_cases hf0:FE=0
 case neg =>
  have HE:Hid (R=(Ev.Letter.zero,FE)):=Lib.hid (by rw [←HR.out];exact Sd.letter_bad (by unfold Sd.letE;rw [if_pos (by rw [HFE.out];exact hf0),HFE.out]) hf0)
  have t1:((FE:Int) != 0)=true:=by rw [bne_iff_ne];omega
  have t2:¬(FE:Int)=0:=by omega
  go_wp2_with (refine wpList_store_row rfl _ _ _ rfl _ _ rfl rfl _ _ hQ (by kernel_rfl) rfl (by simp [Value.oneCell']) ?_)
  (refine ret_row rfl _ rfl _ _ _ (hQ.row _) Tryz.underlying56 rfl (by kernel_rfl) rfl ⟨?_,below_row hB (by omega) _⟩)
  rw [HE.out]
  rfl
 subst hf0
 go_wp2_with fail
 refine (sid_any id hid _).mono ?_
 rw [HB.out]
 rintro e w1 ⟨rfl,hb⟩
 have hx:=hB.trans (hb.mono hB.size)
 clear hB
 have hB:=hx
 have hx:=hQ.below hb hQ.lt
 clear hQ
 have hQ:=hx
 have HU3:=Lib.hid (ERow.below HU2.out hb Id.StpE.kp)
 have HQ3:=Lib.hid (hqV.below hb hqV.lt)
 clear hx hb HU2 hqV b0 b1 b2
 by_cases hbad:B=false∨fr<0∨4≤fr
 case pos =>
  have HE:Hid (R=(Ev.Letter.zero,1)):=Lib.hid (by rw [←HR.out];exact Sd.letter_bad (by unfold Sd.letE;rw [HFE.out,if_neg (by simp),HB.out,if_pos hbad]) (by decide))
  rcases hbad with rfl | hi | hi
  ·go_wp2_with (refine wpList_store_row rfl _ _ _ rfl _ _ rfl rfl _ _ hQ (by kernel_rfl) rfl (by simp [Value.oneCell']) ?_)
   (refine ret_row rfl _ rfl _ _ _ (hQ.row _) Tryz.underlying56 rfl (by kernel_rfl) rfl ⟨?_,below_row hB (by omega) _⟩)
   rw [HE.out]
   rfl
  ·cases B
   all_goals
    go_wp2_with (refine wpList_store_row rfl _ _ _ rfl _ _ rfl rfl _ _ hQ (by kernel_rfl) rfl (by simp [Value.oneCell']) ?_)
    (refine ret_row rfl _ rfl _ _ _ (hQ.row _) Tryz.underlying56 rfl (by kernel_rfl) rfl ⟨?_,below_row hB (by omega) _⟩)
    rw [HE.out]
    rfl
  ·have hi0:¬fr<0:=by omega
   cases B
   all_goals
    go_wp2_with (refine wpList_store_row rfl _ _ _ rfl _ _ rfl rfl _ _ hQ (by kernel_rfl) rfl (by simp [Value.oneCell']) ?_)
    (refine ret_row rfl _ rfl _ _ _ (hQ.row _) Tryz.underlying56 rfl (by kernel_rfl) rfl ⟨?_,below_row hB (by omega) _⟩)
    rw [HE.out]
    rfl
 have hB1:B=true:=by
  cases B
  ·exact absurd (.inl rfl) hbad
  ·rfl
 subst hB1
 have hf0:¬fr<0:=by omega
 have hf4:¬4≤fr:=by omega
 have HNB:=Lib.hid hbad
 clear hbad
 go_upto_region 6 with (fail)
 obtain ⟨⟨b0,b1,b2⟩,-⟩:=HQ3.out.k3
 by_cases hbad:i<0∨(n6:Int)≤i
 case pos =>
  have HE:Hid (R=(Ev.Letter.zero,241)):=Lib.hid (by
   rw [←HR.out]
   exact Sd.letter_bad (by unfold Sd.letE;rw [HFE.out,if_neg (by simp),HB.out,if_neg HNB.out,if_pos (by rw [←Sd.gOf_steps x g HFE.out,HG.out,←HN.out];exact hbad)]) (by decide))
  rcases hbad with hi | hi
  ·go_wp2_with (refine wpList_store_row rfl _ _ _ rfl _ _ rfl rfl _ _ hQ (by kernel_rfl) rfl (by simp [Value.oneCell']) ?_)
   (refine ret_row rfl _ rfl _ _ _ (hQ.row _) Tryz.underlying56 rfl (by kernel_rfl) rfl ⟨?_,below_row hB (by omega) _⟩)
   rw [HE.out]
   rfl
  ·by_cases hi0:i<0
   all_goals
    go_wp2_with (refine wpList_store_row rfl _ _ _ rfl _ _ rfl rfl _ _ hQ (by kernel_rfl) rfl (by simp [Value.oneCell']) ?_)
    (refine ret_row rfl _ rfl _ _ _ (hQ.row _) Tryz.underlying56 rfl (by kernel_rfl) rfl ⟨?_,below_row hB (by omega) _⟩)
    rw [HE.out]
    rfl
 have hi0:¬i<0:=by omega
 have hin:¬(n6:Int)≤i:=by omega
 have HE:Hid (R=(Sd.base x g id i fr,0)):=Lib.hid (by
  rw [←HR.out]
  exact Sd.letter_ok (by unfold Sd.letE;rw [HFE.out,if_neg (by simp),HB.out,if_neg HNB.out,if_neg (by rw [←Sd.gOf_steps x g HFE.out,HG.out,←HN.out];exact hbad)]))
 go_upto_region 8 with (fail)
 clear hbad
 obtain ⟨k,rfl⟩:=Int.eq_ofNat_of_zero_le (show 0≤i by omega)
 have hka:k<G.steps.length:=by rw [←HN.out];omega
 have k1:(k:Int)<(n6:Int):=by omega
 have k2:k<n6:=by omega
 have hmx:=HM.out
 obtain ⟨gb,off,cs,rfl,-,he,hc⟩:=ERow.get HU3.out hka (by omega)
 obtain ⟨st,Hst⟩:∃ st,Hid (G.steps[k]=st):=⟨_,Lib.hid rfl⟩
 rw [Hst.out] at he
 obtain ⟨ss,sm,sa⟩:=st
 have hce:cs=[.string ss,.string sm,.int .i64 sa]:=he
 subst hce
 have a0:=hc 0 _ rfl
 have a1:=hc 1 _ rfl
 have a2:=hc 2 _ rfl
 simp only [Nat.add_zero] at a0
 clear he hc
 go_upto_region 9 with (fail)
 refine wp_named (fun V3 hV=>?_)
 obtain ⟨hbV,hqV,-⟩:=fresh_box hV
 have hd:Below V3.heap.size V3 V3.drew:=(Below.refl _ _).drew
 have hbd:=hbV.trans (hd.mono hbV.size)
 have hlt:=hQ.lt
 have hS:=And.intro (hB.trans (hbd.mono hB.size)) (And.intro (hQ.below hbd hlt) (hqV.below hd hqV.lt))
 obtain ⟨gS,HgS⟩:∃ n,Hid (w1.heap.size=n):=⟨_,Lib.hid rfl⟩
 rw [HgS.out] at hS hlt ⊢
 clear hbV hqV hV hd hbd a0 a1 a2 b0 b1 b2 hB hQ hx HU3 HQ3
 have hkey:=fun W=>skey_any id hid k false W
 obtain ⟨KB,HKB⟩:∃ n,Hid (Sd.keyB id k false=n):=⟨_,Lib.hid rfl⟩
 rw [HKB.out] at hkey
 have HKEY:=Lib.hid hkey
 clear hkey
 refine wp_region_L_calm (fun w'=>Below w.heap.size w w'∧Bk w' (w.heap.size+1) 56 _∧Bk w' gS 184 _) [12] (by kernel_rfl) hS (fun hHeld=>?_)
 (refine wpAnyL_take0 0 (v:=?_) rfl (by kernel_rfl) (by kernel_rfl) (by kernel_rfl) (by kernel_rfl) (fun _ _ _ h=>h) (fun _=>by assumption) (by kernel_rfl) ?_ ?_;rotate_left;· (intro w;go_simp;try with_reducible rfl);try simp only [Act.put,List.setIfInBounds_toArray,List.set_cons_zero,List.set_cons_succ])
 (refine wpAnyL_take0 1 (v:=?_) rfl (by kernel_rfl) (by kernel_rfl) (by kernel_rfl) (by kernel_rfl) (fun _ _ _ h=>h) (fun _=>by assumption) (by kernel_rfl) ?_ ?_;rotate_left;· (intro w;go_simp;try with_reducible rfl);try simp only [Act.put,List.setIfInBounds_toArray,List.set_cons_zero,List.set_cons_succ])
 (refine Lst.takeM 12 2 (v:=?_) rfl (by kernel_rfl) (by kernel_rfl) (by kernel_rfl) (by kernel_rfl) (by kernel_rfl) (by kernel_rfl) (fun _ _ _ h=>h) (by assumption) (by kernel_rfl) ?_ ?_;rotate_left;· (intro w hSw;obtain ⟨e0,e1,e2⟩:=(Bk.k3 hSw.2.2).1;go_simp;try with_reducible rfl);try simp only [Act.put,List.setIfInBounds_toArray,List.set_cons_zero,List.set_cons_succ])
 (refine wpAnyL_take0 3 (v:=?_) rfl (by kernel_rfl) (by kernel_rfl) (by kernel_rfl) (by kernel_rfl) (fun _ _ _ h=>h) (fun _=>by assumption) (by kernel_rfl) ?_ ?_;rotate_left;· (intro w;go_simp;try with_reducible rfl);try simp only [Act.put,List.setIfInBounds_toArray,List.set_cons_zero,List.set_cons_succ])
 (refine wpAnyL_take0 4 (v:=?_) rfl (by kernel_rfl) (by kernel_rfl) (by kernel_rfl) (by kernel_rfl) (fun _ _ _ h=>h) (fun _=>by assumption) (by kernel_rfl) ?_ ?_;rotate_left;· (intro w;go_simp;try with_reducible rfl);try simp only [Act.put,List.setIfInBounds_toArray,List.set_cons_zero,List.set_cons_succ])
 (refine wpAnyL_take0 6 (v:=?_) rfl (by kernel_rfl) (by kernel_rfl) (by kernel_rfl) (by kernel_rfl) (fun _ _ _ h=>h) (fun _=>by assumption) (by kernel_rfl) ?_ ?_;rotate_left;· (intro w;go_simp;try with_reducible rfl);try simp only [Act.put,List.setIfInBounds_toArray,List.set_cons_zero,List.set_cons_succ])
 (refine wpAnyL_take0 7 (v:=?_) rfl (by kernel_rfl) (by kernel_rfl) (by kernel_rfl) (by kernel_rfl) (fun _ _ _ h=>h) (fun _=>by assumption) (by kernel_rfl) ?_ ?_;rotate_left;· (intro w;go_simp;try with_reducible rfl);try simp only [Act.put,List.setIfInBounds_toArray,List.set_cons_zero,List.set_cons_succ])
 (refine Lst.takeM 12 8 (v:=?_) rfl (by kernel_rfl) (by kernel_rfl) (by kernel_rfl) (by kernel_rfl) (by kernel_rfl) (by kernel_rfl) (fun _ _ _ h=>h) (by assumption) (by kernel_rfl) ?_ ?_;rotate_left;· (intro w hSw;obtain ⟨e0,e1,e2⟩:=(Bk.k3 hSw.2.2).1;go_simp;try with_reducible rfl);try simp only [Act.put,List.setIfInBounds_toArray,List.set_cons_zero,List.set_cons_succ])
 (refine wpAnyL_take0 9 (v:=?_) rfl (by kernel_rfl) (by kernel_rfl) (by kernel_rfl) (by kernel_rfl) (fun _ _ _ h=>h) (fun _=>by assumption) (by kernel_rfl) ?_ ?_;rotate_left;· (intro w;go_simp;try with_reducible rfl);try simp only [Act.put,List.setIfInBounds_toArray,List.set_cons_zero,List.set_cons_succ])
 (refine Lst.takeM 12 10 (v:=?_) rfl (by kernel_rfl) (by kernel_rfl) (by kernel_rfl) (by kernel_rfl) (by kernel_rfl) (by kernel_rfl) (fun _ _ _ h=>h) (by assumption) (by kernel_rfl) ?_ ?_;rotate_left;· (intro w hSw;obtain ⟨e0,e1,e2⟩:=(Bk.k3 hSw.2.2).1;go_simp;try with_reducible rfl);try simp only [Act.put,List.setIfInBounds_toArray,List.set_cons_zero,List.set_cons_succ])
 (refine wpAnyL_step 5 (by kernel_rfl) rfl (fun K hK=>?_))
 go_simp
 refine (HKEY.out _).mono ?_
 rintro e X ⟨rfl,hb⟩
 have hS2:=And.intro (hS.1.trans (hb.mono hS.1.size)) (And.intro (hS.2.1.below hb hS.2.1.lt) (hS.2.2.below hb hS.2.2.lt))
 (refine hK.out _ _ (fun hnn=>hS2) ?_;clear hK K;try simp only [Act.put,List.setIfInBounds_toArray,List.set_cons_zero,List.set_cons_succ])
 (refine wpAnyL_take0 11 (v:=?_) rfl (by kernel_rfl) (by kernel_rfl) (by kernel_rfl) (by kernel_rfl) (fun _ _ _ h=>h) (fun _=>by assumption) (by kernel_rfl) ?_ ?_;rotate_left;· (intro w;go_simp;try with_reducible rfl);try simp only [Act.put,List.setIfInBounds_toArray,List.set_cons_zero,List.set_cons_succ])
 (refine wpAnyL_step 12 (by kernel_rfl) rfl (fun K hK=>?_))
 rw [if_pos (by rfl)]
 have hB:=hS2.1
 have hQ:=hS2.2.1
 refine wp_store_row _ _ _ rfl (w.heap.size+1) #[.int .u8 0,.int .i64 fr,.int .i64 sa,.int .u64 0,.string KB,.int .u64 FP,.string ss,.string sm,.int .i64 0,.string ⟨#[]⟩] (by rfl) (by rfl) _ _ hQ (by kernel_rfl) rfl (by simp [Value.oneCell']) ?_
 (refine hK.out _ _ (fun hnn=>absurd hnn (by decide)) ?_;clear hK K;try simp only [Act.put,List.setIfInBounds_toArray,List.set_cons_zero,List.set_cons_succ])
 (refine wpAnyL_step 13 (by kernel_rfl) rfl (fun K hK=>?_))
 go_simp
 (refine hK.out _ _ (fun hnn=>absurd hnn (by decide)) ?_;clear hK K;try simp only [Act.put,List.setIfInBounds_toArray,List.set_cons_zero,List.set_cons_succ])
 refine wpAnyL_done (by kernel_rfl) ?_ _
 refine NoPanic.normal ?_
 have HQF:=Lib.hid (hQ.row #[.int .u8 0,.int .i64 fr,.int .i64 sa,.int .u64 0,.string KB,.int .u64 FP,.string ss,.string sm,.int .i64 0,.string ⟨#[]⟩])
 have HBF:=Lib.hid (below_row hB (g:=w.heap.size+1) (by omega) #[.int .u8 0,.int .i64 fr,.int .i64 sa,.int .u64 0,.string KB,.int .u64 FP,.string ss,.string sm,.int .i64 0,.string ⟨#[]⟩])
 clear hHeld hS hS2 hB hQ hb
 go_wp2_with fail
 refine ret_row rfl _ rfl _ _ _ HQF.out Tryz.underlying56 rfl (by kernel_rfl) rfl ⟨?_,HBF.out⟩
 have HB2:Hid ((Sd.base x g id k fr).val=.agg #[.int .u8 0,.int .i64 fr,.int .i64 sa,.int .u64 0,.string KB,.int .u64 FP,.string ss,.string sm,.int .i64 0,.string ⟨#[]⟩]):=Lib.hid (by
  have hst:Sd.stp x g (k:Int)=⟨ss,sm,sa⟩:=by
   unfold Sd.stp
   rw [←Sd.gOf_steps x g HFE.out,HG.out,Int.toNat_natCast,List.getD_eq_getElem?_getD,List.getElem?_eq_getElem hka,Option.getD_some,Hst.out]
  have hp:(Prn.print x).1=FP:=by rw [←Sd.pOf_ok x g HFE.out,HFP.out]
  unfold Sd.base Ev.Letter.val
  rw [hst,hp,HKB.out]
  rfl)
 rw [HE.out]
 simp only
 rw [HB2.out]
 rfl
end Go.Proofs.YtogijkhenihaaaaGreatDoor
