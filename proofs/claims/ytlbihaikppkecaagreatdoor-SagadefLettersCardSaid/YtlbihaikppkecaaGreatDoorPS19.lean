/- sagadef, plain: a saga's steps, calls and cancellings. No condition. -/
import Derived.Test.YtlbihaikppkecaaGreatDoorPS02
import Derived.Test.YtlbihaikppkecaaGreatDoorPS04
import Derived.Test.YtlbihaikppkecaaGreatDoorPS18
import Derived.Test.YtlbihaikppkecaaGreatDoorPS16
import Derived.Test.YtlbihaikppkecaaGreatDoorPS01
import Derived.Laws.ResultCell
set_option linter.unusedVariables false
set_option linter.unusedSimpArgs false
namespace Go.Proofs.YtlbihaikppkecaaGreatDoor
namespace Sd
open Go.Proofs.YtlbihaikppkecaaGreatDoor.Id Go.Proofs.YtlbihaikppkecaaGreatDoor.Chk Go.Proofs.YtlbihaikppkecaaGreatDoor.Ev
theorem nil_empty:(⟨#[]⟩:ByteArray).toList.isEmpty=true:=by decide +kernel
noncomputable def foundE (x:Sch) (g:ByteArray):Nat:=if (Prn.print x).2≠0 then (Prn.print x).2 else if (sagaOf x g).isSome=true then 0 else 240
def sag (x:Sch) (g:ByteArray):Sag:=(sagaOf x g).getD sagZ
noncomputable def steps (x:Sch) (g:ByteArray):Nat × Nat:=if foundE x g≠0 then (0,foundE x g) else ((sag x g).steps.length,0)
noncomputable def letE (x:Sch) (g id:ByteArray) (i fr:Int):Nat:=if foundE x g≠0 then foundE x g else if idL id.data.toList=false∨fr<0∨4≤fr then 1 else if i<0∨((sag x g).steps.length:Int)≤i then 241 else 0
def stp (x:Sch) (g:ByteArray) (i:Int):Stp:=(sag x g).steps.getD i.toNat ⟨⟨#[]⟩,⟨#[]⟩,0⟩
noncomputable def base (x:Sch) (g id:ByteArray) (i fr:Int):Letter:=⟨0,fr,(stp x g i).at_,0,keyB id i false,(Prn.print x).1,(stp x g i).service,(stp x g i).method,0,ByteArray.empty⟩
noncomputable def letter (x:Sch) (g id:ByteArray) (i fr:Int):Letter × Nat:=if letE x g id i fr≠0 then (Letter.zero,letE x g id i fr) else (base x g id i fr,0)
def undoOf (x:Sch) (l:Letter):ByteArray:=((meth x l.svc l.mth).getD mthZ).undo
noncomputable def call (x:Sch) (g id:ByteArray) (i:Int) (back:Bool) (fr:Int) (body:ByteArray):Letter × Nat :=
 if letE x g id i fr≠0 then (Letter.zero,letE x g id i fr)
 else if back=false then ({ base x g id i fr with kind:=1,body:=body },0)
 else if (undoOf x (base x g id i fr)).toList.isEmpty=true then (Letter.zero,133)
 else ({ base x g id i fr with kind:=1,body:=body,mth:=undoOf x (base x g id i fr),key:=keyB id i true },0)
noncomputable def cancel (x:Sch) (g id:ByteArray) (i fr:Int):Letter × Nat:=if letE x g id i fr≠0 then (Letter.zero,letE x g id i fr) else ({ base x g id i fr with kind:=3 },0)
theorem letE_ok {x:Sch} {g id:ByteArray} {i fr:Int} (h:letE x g id i fr=0):foundE x g=0∧idL id.data.toList=true∧0≤fr∧fr<4∧0≤i∧i<((sag x g).steps.length:Int):=by
 unfold letE at h
 split at h
 ·rename_i h1;exact absurd h h1
 ·rename_i h1
  split at h
  ·cases h
  ·rename_i h2
   split at h
   ·cases h
   ·rename_i h3
    refine ⟨by omega,?_,by omega,by omega,by omega,by omega⟩
    by_cases h4:idL id.data.toList=true
    ·exact h4
    ·exact absurd (.inl (by simpa using h4)) h2
theorem found_ok {x:Sch} {g:ByteArray} (h:foundE x g=0):(Prn.print x).2=0∧(sagaOf x g).isSome=true∧sag x g∈x.sagas:=by
 unfold foundE at h
 split at h
 ·rename_i h1;exact absurd h h1
 ·rename_i h1
  split at h
  ·rename_i h2
   refine ⟨by omega,h2,?_⟩
   obtain ⟨s,hs⟩:=Option.isSome_iff_exists.1 h2
   unfold sag
   rw [hs]
   exact List.mem_of_find?_eq_some hs
  ·cases h
theorem print_right {x:Sch} (h:(Prn.print x).2=0):Right x:=by
 unfold Prn.print at h
 split at h
 ·rename_i h1;exact absurd h h1
 ·rename_i h1
  have h2:(Prn.text x).2=0:=by omega
  unfold Prn.text at h2
  split at h2
  ·rename_i h3;exact absurd h2 h3
  ·rename_i h3
   exact check_ok (by omega)
theorem meth_names {x:Sch} (hR:Right x) {a b:ByteArray} {m:Mth} (h:meth x a b=some m):Tk.isName a=true∧Tk.isName b=true:=by
 have hn:=(right_iff.1 hR).1
 unfold meth at h
 split at h
 ·cases h
 ·rename_i v hv
  have hvm:=List.mem_of_find?_eq_some hv
  have hvn:v.name.toList=a.toList:=by simpa using List.find?_some hv
  have hmm:=List.mem_of_find?_eq_some h
  have hmn:m.name.toList=b.toList:=by simpa using List.find?_some h
  have e1:=Tk.text_eq hvn
  have e2:=Tk.text_eq hmn
  subst e1 e2
  have hin:∀ t∈namesV v,t∈namesT x:=fun t ht=>by
   unfold namesT
   exact List.mem_cons_of_mem _ (List.mem_append_right _ (List.mem_append_left _ (List.mem_flatMap.2 ⟨v,hvm,ht⟩)))
  refine ⟨hn (nm v.name) (hin _ (by unfold namesV;exact List.mem_cons_self)),hn (nm m.name) (hin _ ?_)⟩
  unfold namesV
  exact List.mem_cons_of_mem _ (List.mem_flatMap.2 ⟨m,hmm,by simp [namesM]⟩)
theorem step_at {x:Sch} (hR:Right x) {g:Sag} (hg:g∈x.sagas) {k:Nat} (hk:k<g.steps.length):0≤g.steps[k].at_∧g.steps[k].at_<4:=by
 obtain ⟨_,_,_,_,_,_,_,_,hs,_⟩:=right_iff.1 hR
 have hz:(g.steps[k],k)∈g.steps.zipIdx:=by
  rw [List.mem_iff_getElem]
  exact ⟨k,by rw [List.length_zipIdx];exact hk,by rw [List.getElem_zipIdx,Nat.zero_add]⟩
 have h1:=hs (stepOk x g.arg g.steps[k],nth g.name k) (List.mem_flatMap.2 ⟨g,hg,List.mem_flatMap.2 ⟨_,hz,by simp [stepsP]⟩⟩)
 simp only at h1
 unfold stepOk at h1
 split at h1
 ·cases h1
 ·unfold stepOf at h1
  simp only [Bool.and_eq_true,decide_eq_true_eq] at h1
  exact ⟨h1.1.2,h1.2⟩
theorem name_ne {w:ByteArray} (h:Tk.isName w=true):w.toList.isEmpty=false:=by
 cases he:w.toList.isEmpty with
 | false=>rfl
 | true =>
  exfalso
  have e:w=⟨#[]⟩:=Tk.text_eq (by rw [List.isEmpty_iff.1 he];exact (List.isEmpty_iff.1 nil_empty).symm)
  subst e
  revert h
  decide +kernel
theorem keyB_size {id:ByteArray} {i:Int} {b:Bool} (h1:idL id.data.toList=true) (h2:0≤i) (h3:i<8):1≤(keyB id i b).size∧(keyB id i b).size≤64:=by
 have h4:=key_len (a:=id.data.toList) (i:=i) (x:=b)
 have h5:keyL id.data.toList i b≠[]:=by
  intro e
  rcases key_none.1 e with h | h | h
  ·rw [h1] at h;cases h
  ·omega
  ·omega
 have h6:=List.length_pos_iff.2 h5
 have e:(keyB id i b).size=(keyL id.data.toList i b).length:=by
  show (keyL id.data.toList i b).toArray.size=_
  simp
 omega
theorem steps_le {x:Sch} (hR:Right x) {g:Sag} (hg:g∈x.sagas):g.steps.length≤8:=by
 have hc:=(right_iff.1 hR).2.1 (decide (1≤(g.steps.length:Int))&&decide ((g.steps.length:Int)≤8),g.name) (by
  unfold countsT
  exact List.mem_cons_of_mem _ (List.mem_append_right _ (List.mem_append_right _ (List.mem_flatMap.2 ⟨g,hg,by simp [countsG]⟩))))
 simp only [Bool.and_eq_true,decide_eq_true_eq] at hc
 omega
/-- What is known of a step that can be called. -/
structure Good (x:Sch) (g id:ByteArray) (i fr:Int):Prop where
 rt:Right x
 idok:idL id.data.toList=true
 f0:0≤fr
 f4:fr<4
 i0:0≤i
 i8:i<8
 a0:0≤(stp x g i).at_
 a4:(stp x g i).at_<4
 m:∃ m,meth x (stp x g i).service (stp x g i).method=some m∧(i+1<((sag x g).steps.length:Int)→m.undo.toList.isEmpty=false)
theorem good_of {x:Sch} {g id:ByteArray} {i fr:Int} (h:letE x g id i fr=0):Good x g id i fr:=by
 obtain ⟨h1,h2,h3,h4,h5,h6⟩:=letE_ok h
 obtain ⟨f1,f2,f3⟩:=found_ok h1
 have hR:=print_right f1
 have hk:i.toNat<(sag x g).steps.length:=by omega
 have hst:stp x g i=(sag x g).steps[i.toNat]:=by
  unfold stp
  rw [List.getD_eq_getElem?_getD,List.getElem?_eq_getElem hk,Option.getD_some]
 have h8:=steps_le hR f3
 obtain ⟨a0,a4⟩:=step_at hR f3 hk
 obtain ⟨m,hm,_,hu⟩:=right_step hR f3 hk
 refine ⟨hR,h2,h3,h4,h5,by omega,by rw [hst];exact a0,by rw [hst];exact a4,m,by rw [hst];exact hm,fun hlt=>?_⟩
 obtain ⟨u,hum,_⟩:=hu (by omega)
 exact name_ne (meth_names hR hum).2
theorem right_call {l:Letter} (h1:0≤l.from_∧l.from_<4) (h2:0≤l.to_∧l.to_<4) (h3:1≤l.key.size∧l.key.size≤64) (h4:l.body.size≤4096) (h5:l.kind=1∨(l.kind=3∧l.body.toList.isEmpty=true)) (h6:Tk.isName l.svc=true) (h7:Tk.isName l.mth=true) (h8:l.code=0):right l=true:=by
 unfold Ev.right peer
 have hk:l.kind=1∨l.kind=3:=by rcases h5 with h | h;exact .inl h;exact .inr h.1
 rw [if_pos hk,h6,h7]
 simp only [Bool.and_eq_true,Bool.or_eq_true,decide_eq_true_eq]
 refine ⟨⟨⟨⟨⟨⟨h1.1,h1.2⟩,⟨h2.1,h2.2⟩⟩,h3.1⟩,h3.2⟩,h4⟩,⟨⟨⟨trivial,trivial⟩,h8⟩,?_⟩⟩
 rcases h5 with h | h
 ·exact .inl h
 ·exact .inr h.2
theorem call_right {x:Sch} {g id:ByteArray} {i fr:Int} {body:ByteArray} (h:Good x g id i fr) (hb:body.size≤500):right { base x g id i fr with kind:=1,body:=body }=true∧right { base x g id i fr with kind:=3 }=true:=by
 obtain ⟨m,hm,_⟩:=h.m
 obtain ⟨n1,n2⟩:=meth_names h.rt hm
 have hk:=keyB_size (b:=false) h.idok h.i0 h.i8
 exact ⟨right_call ⟨h.f0,h.f4⟩ ⟨h.a0,h.a4⟩ hk (by show body.size≤4096;omega) (.inl rfl) n1 n2 rfl,right_call ⟨h.f0,h.f4⟩ ⟨h.a0,h.a4⟩ hk (by show (0:Nat)≤4096;omega) (.inr ⟨rfl,nil_empty⟩) n1 n2 rfl⟩
theorem undo_right {x:Sch} {g id:ByteArray} {i fr:Int} {body:ByteArray} (h:Good x g id i fr) (hb:body.size≤500) (hu:(undoOf x (base x g id i fr)).toList.isEmpty=false):right { base x g id i fr with kind:=1,body:=body,mth:=undoOf x (base x g id i fr),key:=keyB id i true }=true:=by
 obtain ⟨m,hm,hul⟩:=h.m
 obtain ⟨n1,n2⟩:=meth_names h.rt hm
 have hk:=keyB_size (b:=true) h.idok h.i0 h.i8
 have hum:Tk.isName (undoOf x (base x g id i fr))=true:=by
  have e:undoOf x (base x g id i fr)=m.undo:=by
   unfold undoOf
   show ((meth x (stp x g i).service (stp x g i).method).getD mthZ).undo=_
   rw [hm]
   rfl
  rw [e] at hu ⊢
  obtain ⟨v,hv,hvn,hmv⟩:=meth_mem hm
  have h3:=(right_iff.1 h.rt).2.2.2.2.2.2.1 (m.undo.toList.isEmpty||undoOk x v.name m,Chk.part v.name m.name) (List.mem_flatMap.2 ⟨v,hv,List.mem_flatMap.2 ⟨m,hmv,by simp [undosM]⟩⟩)
  simp only [hu,Bool.false_or] at h3
  unfold undoOk at h3
  split at h3
  ·cases h3
  ·rename_i u hum
   exact (meth_names h.rt hum).2
 exact right_call ⟨h.f0,h.f4⟩ ⟨h.a0,h.a4⟩ hk (by show body.size≤4096;omega) (.inl rfl) n1 hum rfl
theorem undo_last {x:Sch} {g id:ByteArray} {i fr:Int} (h:letE x g id i fr=0) (hu:(undoOf x (base x g id i fr)).toList.isEmpty=true):i=((sag x g).steps.length:Int) - 1:=by
 obtain ⟨h1,h2,h3,h4,h5,h6⟩:=letE_ok h
 obtain ⟨m,hm,hul⟩:=(good_of h).m
 have e:undoOf x (base x g id i fr)=m.undo:=by
  unfold undoOf
  show ((meth x (stp x g i).service (stp x g i).method).getD mthZ).undo=_
  rw [hm]
  rfl
 rw [e] at hu
 by_cases hlt:i+1<((sag x g).steps.length:Int)
 ·rw [hul hlt] at hu
  cases hu
 ·omega
end Sd
end Go.Proofs.YtlbihaikppkecaaGreatDoor
set_option linter.unusedVariables false
set_option linter.unusedSimpArgs false
namespace Go.Proofs.YtlbihaikppkecaaGreatDoor
open Go.RowKit Go.BigFrame
namespace Sd
open Go.Proofs.YtlbihaikppkecaaGreatDoor.Id Go.Proofs.YtlbihaikppkecaaGreatDoor.Chk Go.Proofs.YtlbihaikppkecaaGreatDoor.Ev
noncomputable def gOf (x:Sch) (g:ByteArray):Sag:=if foundE x g=0 then sag x g else sagZ
noncomputable def pOf (x:Sch) (g:ByteArray):Nat:=if foundE x g=0 then (Prn.print x).1 else 0
theorem sagZ_v (w:World) (b:Nat):SagV w (some b) (.agg #[.string ⟨#[]⟩,.string ⟨#[]⟩,.slice none 0 0]) sagZ:=⟨_,rfl,ERow.nil _ _ _ _ _⟩
theorem sagV_old {w:World} {b B:Nat} {v:Value} {g:Sag} (hb:B≤b) (h:SagV w (some b) v g):SagV w (some B) v g:=by
 obtain ⟨u,e,hs⟩:=h
 exact ⟨u,e,ERow.mono hs (fun _ _ hr=>hr.weak (fun b' e'=>by injection e' with e';exact ⟨b,rfl,by omega⟩)) (fun _ _ h=>h)⟩
/-- Three cells of a block written. -/
theorem set3 {w:World} {b:Nat} {T:TypeId} {x0 x1 x2 y0 y1 y2:Value} (h:Bk w b T #[x0,x1,x2]):Bk (((w.setCell ⟨b,0,none⟩ y0).setCell ⟨b,1,none⟩ y1).setCell ⟨b,2,none⟩ y2) b T #[y0,y1,y2]:=((h.set_ 0 y0).set_ 1 y1).set_ 2 y2
theorem bel3 {w:World} {B b:Nat} {V:World} {y0 y1 y2:Value} (h:Below B V w) (hb:B≤b):Below B V (((w.setCell ⟨b,0,none⟩ y0).setCell ⟨b,1,none⟩ y1).setCell ⟨b,2,none⟩ y2):=((h.setCell (p:=⟨b,0,none⟩) hb _).setCell (p:=⟨b,1,none⟩) hb _).setCell (p:=⟨b,2,none⟩) hb _
theorem sagV_set3 {w:World} {b B:Nat} {T:TypeId} {x0 x1 x2 y0 y1 y2 v:Value} {g:Sag} (hT:T≠85) (h:Bk w b T #[x0,x1,x2]) (hs:SagV w (some B) v g):SagV (((w.setCell ⟨b,0,none⟩ y0).setCell ⟨b,1,none⟩ y1).setCell ⟨b,2,none⟩ y2) (some B) v g:=by
 obtain ⟨u,e,hr⟩:=hs
 have hn:T ∉ [85]:=by simpa using hT
 have k1:Kp B [85] w (w.setCell ⟨b,0,none⟩ y0):=(Only.set h 0 y0).kp B hn
 have k2:Kp B [85] (w.setCell ⟨b,0,none⟩ y0) ((w.setCell ⟨b,0,none⟩ y0).setCell ⟨b,1,none⟩ y1):=(Only.set (h.set_ 0 y0) 1 y1).kp B hn
 have k3:Kp B [85] ((w.setCell ⟨b,0,none⟩ y0).setCell ⟨b,1,none⟩ y1) (((w.setCell ⟨b,0,none⟩ y0).setCell ⟨b,1,none⟩ y1).setCell ⟨b,2,none⟩ y2):=(Only.set ((h.set_ 0 y0).set_ 1 y1) 2 y2).kp B hn
 exact ⟨u,e,ERow.kp hr (k1.trans (k2.trans k3)) (Nat.le_refl _) (by simp) (fun _ _ h=>h)⟩
end Sd
set_option maxRecDepth 100000 in
set_option maxHeartbeats 16000000 in
theorem sfound_any (sv:Value) (x:Id.Sch) (hF:Chk.Fine x) (g:ByteArray) (w:World) (hk:Tk.KW w) (hv:Id.SchV w none sv x) :
  Calls Tryz.prog 26 #[sv,.string g] w fun e w'=>∃ v,e=.returned (.tuple #[v,.int .u64 (Sd.pOf x g:Nat),.int .i64 (Sd.foundE x g:Nat)])∧Below w.heap.size w w'∧Chk.SagV w' (some w.heap.size) v (Sd.gOf x g):=by
 obtain ⟨FE,HFE⟩:∃ F,Hid (Sd.foundE x g=F):=⟨_,Lib.hid rfl⟩
 obtain ⟨FP,HFP⟩:∃ F,Hid (Sd.pOf x g=F):=⟨_,Lib.hid rfl⟩
 obtain ⟨FG,HFG⟩:∃ F,Hid (Sd.gOf x g=F):=⟨_,Lib.hid rfl⟩
 rw [HFE.out,HFP.out,HFG.out]
 unfold Sd.pOf at HFP
 unfold Sd.gOf at HFG
 rw [HFE.out] at HFP HFG
 unfold Sd.foundE at HFE
 obtain ⟨⟨p,pe⟩,HP⟩:∃ q,Hid (Prn.print x=q):=⟨_,Lib.hid rfl⟩
 rw [HP.out] at HFE HFP
 simp only at HFE HFP
 have HF:=Lib.hid hF
 have HKW:=Lib.hid hk
 have HV:=Lib.hid hv
 obtain ⟨A1,n1,c1,A2,n2,c2,A3,n3,c3,rfl,-,-,-⟩:=hv
 clear hF hk
 go_enter Tryz.func26,Tryz.ntmps26
 go_upto_region 1 with (fail)
 refine wp_named (fun V hV=>?_)
 have HL:Hid (Chk.Lx w V #[.string x.name,.slice A1 n1 c1,.slice A2 n2 c2,.slice A3 n3 c3]):=Lib.hid (by subst hV;exact ⟨((Below.refl _ _).alloc (Nat.le_refl _) _).alloc (by simp) _,(Bk.new w _ _).alloc _⟩)
 have HQ:Hid (Bk V (w.heap.size+1) 62 #[.string ⟨#[]⟩,.string ⟨#[]⟩,.slice none 0 0]):=Lib.hid (by subst hV;have h:=Bk.new (w.alloc (.cells #[.string x.name,.slice A1 n1 c1,.slice A2 n2 c2,.slice A3 n3 c3] 33)) 62 #[.string ⟨#[]⟩,.string ⟨#[]⟩,.slice none 0 0];rw [World.size_alloc] at h;exact h)
 clear hV
 obtain ⟨⟨q0,q1,q2,q3⟩,-⟩:=HL.out.box.k4
 go_wp2_with fail
 refine (pPrint_any _ x HF.out _ (HKW.out.below HL.out.bel) (Id.SchV.below HL.out.bel HV.out)).mono ?_
 rw [HP.out]
 rintro e W1 ⟨rfl,hb⟩
 have HL1:=Lib.hid (HL.out.below hb)
 have HQ1:=Lib.hid (HQ.out.below hb HQ.out.lt)
 clear hb q0 q1 q2 q3 HL HQ
 obtain ⟨⟨z0,z1,z2⟩,y0,y1,y2⟩:=HQ1.out.k3
 obtain ⟨⟨q0,q1,q2,q3⟩,-⟩:=HL1.out.box.k4
 by_cases hpe:pe=0
 case neg =>
  have HE:Hid (FE=pe):=Lib.hid (by rw [←HFE.out,if_pos hpe])
  obtain rfl:=HE.out
  have HE2:Hid (FP=0):=Lib.hid (by rw [←HFP.out,if_neg hpe])
  obtain rfl:=HE2.out
  have HE3:Hid (FG=Chk.sagZ):=Lib.hid (by rw [←HFG.out,if_neg hpe])
  obtain rfl:=HE3.out
  have t1:((FE:Int) != 0)=true:=by rw [bne_iff_ne];omega
  have t2:¬(FE:Int)=0:=by omega
  go_wp2_with fail
  clear z0 z1 z2
  obtain ⟨⟨e0,e1,e2⟩,-⟩:=Bk.k3 (Sd.set3 HQ1.out (y0:=.string ⟨#[]⟩) (y1:=.string ⟨#[]⟩) (y2:=.slice none 0 0))
  refine bodyPost_ret (v:=.tuple #[.agg #[.string ⟨#[]⟩,.string ⟨#[]⟩,.slice none 0 0],.int .u64 (0:Nat),.int .i64 (FE:Nat)]) ?_ rfl ⟨_,rfl,Sd.bel3 HL1.out.bel (by omega),Sd.sagZ_v _ _⟩
  rw [res_ctt rfl]
  go_simp
  try rfl
 subst hpe
 rw [if_neg (by simp)] at HFE
 go_wp2_with fail
 refine (csaga_any _ x g (fun r hr=>Nat.le_trans (HF.out.sa r hr).2.1 (by decide)) _ (Id.SchV.below HL1.out.bel HV.out)).mono ?_
 obtain ⟨GO,HGd⟩:∃ GO,Hid (Chk.sagaOf x g=GO):=⟨_,Lib.hid rfl⟩
 rw [HGd.out] at HFE ⊢
 rintro e W2 ⟨u,rfl,hb,hu⟩
 have HSG:Hid (Sd.sag x g=GO.getD Chk.sagZ):=Lib.hid (by unfold Sd.sag;rw [HGd.out])
 rw [HSG.out] at HFG
 obtain ⟨G,HG⟩:∃ G,Hid (GO.getD Chk.sagZ=G):=⟨_,Lib.hid rfl⟩
 rw [HG.out] at hu HFG
 have HS:=Lib.hid (Sd.sagV_old (B:=w.heap.size) (by have:=HL1.out.bel.size;omega) hu)
 obtain ⟨u2,rfl,hu2⟩:=hu
 obtain ⟨A6,n6,c6,rfl⟩:=ERow.is hu2
 clear hu2
 have HL2:=Lib.hid (HL1.out.below hb)
 have HQ2:=Lib.hid (HQ1.out.below hb HQ1.out.lt)
 clear hb q0 q1 q2 q3 z0 z1 z2 y0 y1 y2 HL1 HQ1
 obtain ⟨⟨z0,z1,z2⟩,y0,y1,y2⟩:=HQ2.out.k3
 obtain ⟨⟨q0,q1,q2,q3⟩,-⟩:=HL2.out.box.k4
 obtain ⟨gb,Hgb⟩:∃ gb,Hid (GO.isSome=gb):=⟨_,Lib.hid rfl⟩
 rw [Hgb.out] at HFE ⊢
 cases gb
 ·have HE:Hid (FE=240):=Lib.hid (by rw [←HFE.out];simp)
  obtain rfl:=HE.out
  have HE2:Hid (FP=0):=Lib.hid (by rw [←HFP.out];simp)
  obtain rfl:=HE2.out
  have HE3:Hid (FG=Chk.sagZ):=Lib.hid (by rw [←HFG.out];simp)
  obtain rfl:=HE3.out
  go_wp2_with fail
  clear z0 z1 z2
  have HQ3:=Lib.hid (Sd.set3 HQ2.out (y0:=.string G.name) (y1:=.string G.arg) (y2:=.slice A6 n6 c6))
  have HB3:=Lib.hid (Sd.bel3 HL2.out.bel (b:=w.heap.size+1) (y0:=.string G.name) (y1:=.string G.arg) (y2:=.slice A6 n6 c6) (by omega))
  obtain ⟨⟨e0,e1,e2⟩,-⟩:=Bk.k3 (Sd.set3 HQ3.out (y0:=.string ⟨#[]⟩) (y1:=.string ⟨#[]⟩) (y2:=.slice none 0 0))
  refine bodyPost_ret (v:=.tuple #[.agg #[.string ⟨#[]⟩,.string ⟨#[]⟩,.slice none 0 0],.int .u64 (0:Nat),.int .i64 (240:Nat)]) ?_ rfl ⟨_,rfl,Sd.bel3 HB3.out (by omega),Sd.sagZ_v _ _⟩
  rw [res_ctt rfl]
  go_simp
  try rfl
 ·have HE:Hid (FE=0):=Lib.hid (by rw [←HFE.out];simp)
  obtain rfl:=HE.out
  have HE2:Hid (FP=p):=Lib.hid (by rw [←HFP.out];simp)
  obtain rfl:=HE2.out
  have HE3:Hid (FG=G):=Lib.hid (by rw [←HFG.out];simp)
  obtain rfl:=HE3.out
  have HQ3:=Lib.hid (Sd.set3 HQ2.out (y0:=.string FG.name) (y1:=.string FG.arg) (y2:=.slice A6 n6 c6))
  have HB3:=Lib.hid (Sd.bel3 HL2.out.bel (b:=w.heap.size+1) (y0:=.string FG.name) (y1:=.string FG.arg) (y2:=.slice A6 n6 c6) (by omega))
  have HS3:=Lib.hid (Sd.sagV_set3 (y0:=.string FG.name) (y1:=.string FG.arg) (y2:=.slice A6 n6 c6) (by decide) HQ2.out HS.out)
  obtain ⟨⟨e0,e1,e2⟩,f0,f1,f2⟩:=HQ3.out.k3
  go_wp2_with fail
  clear z0 z1 z2
  have HQ4:=Lib.hid (Sd.set3 HQ3.out (y0:=.string FG.name) (y1:=.string FG.arg) (y2:=.slice A6 n6 c6))
  obtain ⟨⟨e0,e1,e2⟩,-⟩:=HQ4.out.k3
  refine bodyPost_ret (v:=.tuple #[.agg #[.string FG.name,.string FG.arg,.slice A6 n6 c6],.int .u64 (FP:Nat),.int .i64 (0:Nat)]) ?_ rfl ⟨_,rfl,Sd.bel3 HB3.out (by omega),Sd.sagV_set3 (by decide) HQ3.out HS3.out⟩
  rw [res_ctt rfl]
  go_simp
  try rfl
namespace Sd
open Go.Proofs.YtlbihaikppkecaaGreatDoor.Id Go.Proofs.YtlbihaikppkecaaGreatDoor.Chk Go.Proofs.YtlbihaikppkecaaGreatDoor.Ev
theorem gOf_len (x:Sch) (g:ByteArray):(gOf x g).steps.length=(steps x g).1:=by
 unfold gOf steps
 by_cases h:foundE x g=0
 ·rw [if_pos h,if_neg (by simp [h])]
 ·rw [if_neg h,if_pos h]
  rfl
theorem steps_err (x:Sch) (g:ByteArray):(steps x g).2=foundE x g:=by
 unfold steps
 by_cases h:foundE x g=0
 ·rw [if_neg (by simp [h]),h]
 ·rw [if_pos h]
end Sd
set_option maxRecDepth 100000 in
set_option maxHeartbeats 8000000 in
theorem ssteps_any (sv:Value) (x:Id.Sch) (hF:Chk.Fine x) (g:ByteArray) (w:World) (hk:Tk.KW w) (hv:Id.SchV w none sv x) :
  Calls Tryz.prog 15 #[sv,.string g] w fun e w'=>e=.returned (.tuple #[.int .i64 ((Sd.steps x g).1:Nat),.int .i64 ((Sd.steps x g).2:Nat)])∧Below w.heap.size w w':=by
 have hfo:=fun W k v=>sfound_any sv x hF g W k v
 rw [Sd.steps_err,←Sd.gOf_len]
 obtain ⟨G,HG⟩:∃ G,Hid (Sd.gOf x g=G):=⟨_,Lib.hid rfl⟩
 obtain ⟨FE,HFE⟩:∃ F,Hid (Sd.foundE x g=F):=⟨_,Lib.hid rfl⟩
 obtain ⟨FP,HFP⟩:∃ F,Hid (Sd.pOf x g=F):=⟨_,Lib.hid rfl⟩
 rw [HG.out,HFE.out]
 simp only [HG.out,HFE.out,HFP.out] at hfo
 have HFO:=Lib.hid hfo
 clear hfo
 have HKW:=Lib.hid hk
 have HV:=Lib.hid hv
 obtain ⟨A1,n1,c1,A2,n2,c2,A3,n3,c3,rfl,-,-,-⟩:=hv
 clear hk
 go_enter Tryz.func15,Tryz.ntmps15
 go_upto_region 1 with (fail)
 refine wp_named (fun V hV=>?_)
 have HL:Hid (Chk.Lx w V #[.string x.name,.slice A1 n1 c1,.slice A2 n2 c2,.slice A3 n3 c3]):=Lib.hid (by subst hV;exact ⟨(Below.refl _ _).alloc (Nat.le_refl _) _,Bk.new w _ _⟩)
 clear hV
 obtain ⟨⟨q0,q1,q2,q3⟩,-⟩:=HL.out.box.k4
 go_wp2_with fail
 refine (HFO.out _ (HKW.out.below HL.out.bel) (Id.SchV.below HL.out.bel HV.out)).mono ?_
 rintro e W1 ⟨v,rfl,hb,u,rfl,hu⟩
 obtain ⟨A6,n6,c6,rfl⟩:=ERow.is hu
 have HN:Hid (n6=G.steps.length):=Lib.hid (by obtain ⟨_,_,e,_⟩:=ERow.slice hu;injection e)
 have HB:=Lib.hid (HL.out.below hb).bel
 clear hb hu q0 q1 q2 q3
 go_upto_region 2 with (fail)
 refine wp_named (fun V2 hV=>?_)
 obtain ⟨hbV,hqV,-⟩:=fresh_box hV
 obtain ⟨⟨b0,b1,b2⟩,-⟩:=hqV.k3
 have HB2:=Lib.hid (HB.out.trans (hbV.mono HB.out.size))
 clear hV hbV hqV
 go_wp2_with fail
 refine bodyPost_ret (results_tmp2 rfl _ _ _) rfl ⟨by rw [HN.out];rfl,HB2.out⟩
end Go.Proofs.YtlbihaikppkecaaGreatDoor
set_option linter.unusedVariables false
namespace Go.Proofs.YtlbihaikppkecaaGreatDoor
open Go.RowKit
theorem ret_row {P:Program} {fn:Func} {R:Ending→World→Prop} {a:Act} {w:World} {p u:Tmp} {ty:TypeId} (h:fn.results=#[.cell p ty,.tmp u]) (g:Nat) (hp:a.tmps.getD p undef=.pointer (some ⟨g,0,none⟩))
  (t:TypeId) (cs:Array Value) (d:TypeDesc) (hg:Bk w g t cs) (hu:P.underlying ty=some d) (hd:(match d with | .struct _ | .array _ _=>true | _=>false)=true) (hi:(P.info? ty).map (·.size)=some cs.size)
  (hdf:a.defers=[]) (hR:R (.returned (.tuple #[.agg cs,a.tmps.getD u undef])) w):bodyPost P fn R .ret a w:=by
 refine bodyPost_ret (v:=.tuple #[.agg cs,a.tmps.getD u undef]) ?_ hdf hR
 rw [results_cell_tmp h,hp]
 have hl:=run_loadVar_row (P:=P) w g t ty cs (0,0) d hg hu hd hi
 simp only [asAddr,Sem.run_pure,Result.andThen_ok,hl]
end Go.Proofs.YtlbihaikppkecaaGreatDoor
set_option linter.unusedVariables false
set_option linter.unusedSimpArgs false
namespace Go.Proofs.YtlbihaikppkecaaGreatDoor
open Go.RowKit Go.BigFrame
namespace Lst
section
variable {P : Program} {ops : Array Oper} {Q : Exit → Act → World → Prop} {md : Region.Mode} {S : World → Prop} {z : Nat}
/-- Each ahead of z has one behind it, up to z, that waits for it. -/
def lastM (md:Region.Mode) (ops:Array Oper) (z:Nat):Bool :=
 (List.range z).all fun i=>(List.range (z+1)).any fun j=>decide (i<j)&&match ops[j]? with
  | none=>false
  | some o=>o.after.any fun e=>Region.binds md e&&e.on==i
theorem Shut.allM {listed:Array Bool} (h:Shut md ops listed) (hL:lastM md ops z=true) (hz:z∈Region.ready md ops listed):∀ i,i<z→listed.getD i false=true:=by
 unfold lastM at hL
 have key:∀ n i,z - i=n→i<z→listed.getD i false=true:=by
  intro n
  induction n using Nat.strongRecOn with
  | _ n ih =>
   intro i hn hi
   obtain ⟨j,hj,hjj⟩:=List.any_eq_true.1 (List.all_eq_true.1 hL i (List.mem_range.2 hi))
   simp only [Bool.and_eq_true,decide_eq_true_eq] at hjj
   obtain ⟨hij,hjj⟩:=hjj
   have hjz2:j<z+1:=List.mem_range.1 hj
   have hjs:j<ops.size:=by
    obtain ⟨_,o',ho',_⟩:=mem_ready.1 hz
    have:=(Array.getElem?_eq_some_iff.1 ho').1
    omega
   rw [Array.getElem?_eq_getElem hjs] at hjj
   simp only at hjj
   obtain ⟨m,hm,hmm⟩:=Array.any_eq_true.1 hjj
   simp only [Bool.and_eq_true,beq_iff_eq] at hmm
   have hjo:ops[j]?=some ops[j]:=Array.getElem?_eq_getElem hjs
   rw [←hmm.2]
   by_cases hjz:j=z
   ·subst hjz
    obtain ⟨_,o',ho',hall⟩:=mem_ready.1 hz
    rw [hjo] at ho'
    injection ho' with ho'
    subst ho'
    exact hall _ (Array.getElem_mem hm) hmm.1
   ·exact h.2 j _ hjo (ih (z - j) (by omega) j rfl (by omega)) _ (Array.getElem_mem hm) hmm.1
 exact fun i hi=>key _ i rfl hi
theorem firstM {i:Nat} {oi:Oper} {v:Value} (hi:ops[i]?=some oi) (hsel:∀ (j:Nat) (o:Oper) cs b,ops[j]?=some o→o.op≠.select cs b)
  (hQ:∀ c a w,Q (.panic c) (a.put oi.dst v) w→Q (.panic c) a w) (hL:lastM md ops z=true) (hiz:i<z) :
  ∀ (fuel:Nat) (listed:Array Bool) (a:Act) (w:World),
   Shut md ops listed→noneOf [z] listed=true →
   (∀ j oj,ops[j]?=some oj→j≠i→listed.getD j true=false→(∀ e∈oj.after,Region.binds md e=true→e.on≠i)→oi.apart ops oj=true) →
   i∈Region.ready md ops listed→YieldsIf P ops S oi v a→S w →
   wpAnyL P md ops Q S [z] fuel (listed.setIfInBounds i true) (a.put oi.dst v) w→wpAnyL P md ops Q S [z] (fuel+1) listed a w:=by
 intro fuel
 induction fuel with
 | zero =>
  intro listed a w hs hD _ hr hy hS H
  refine ⟨fun h=>(by rw [h] at hr;cases hr),fun j hj=>?_⟩
  by_cases hji:j=i
  ·subst hji;exact hy.wpOp hi hS ⟨fun _=>hS,H⟩
  ·have:=ready_mono hj hji
   rw [H.1] at this
   cases this
 | succ fuel ih =>
  intro listed a w hs hD hfree hr hy hS H
  refine ⟨fun h=>(by rw [h] at hr;cases hr),fun j hj=>?_⟩
  by_cases hji:j=i
  ·subst hji;exact hy.wpOp hi hS ⟨fun _=>hS,H⟩
  ·have h1:=H.2 j (ready_mono hj hji)
   obtain ⟨hjun,oj,hoj,hall⟩:=mem_ready.1 hj
   have hnot:∀ e∈oj.after,Region.binds md e=true→e.on≠i:=fun e he hb heq=>by
    have h1:=hall e he hb
    have h0:=(mem_ready.1 hr).1
    rw [heq] at h1
    rcases Nat.lt_or_ge i listed.size with h' | h'
    ·simp [h'] at h0 h1;rw [h0] at h1;cases h1
    ·simp [Array.getElem?_eq_none h'] at h1
   have h2:=wpOp_putIf hoj (hfree j oj hoj hji hjun hnot) (fun cs b=>hsel i oi cs b hi) (fun cs b=>hsel j oj cs b hoj) hQ hy h1
   have hfree':∀ k ok,ops[k]?=some ok→k≠i→(listed.setIfInBounds j true).getD k true=false →
     (∀ e∈ok.after,Region.binds md e=true→e.on≠i)→oi.apart ops ok=true:=fun k ok hk hki hun hno=>by
    refine hfree k ok hk hki ?_ hno
    by_cases hjk:j=k
    ·subst hjk;exact hjun
    ·rw [getD_set_ne true hjk] at hun;exact hun
   have hiD:i ∉ [z]:=by simp;omega
   have hjD:j ∉ [z]:=by
    intro hjz
    simp at hjz
    subst hjz
    have h1:=Shut.allM hs hL hj i hiz
    have h0:=(mem_ready.1 hr).1
    have hls:i<listed.size:=by rw [hs.1];exact (Array.getElem?_eq_some_iff.1 hi).1
    simp [hls] at h0 h1
    rw [h0] at h1
    cases h1
   have hD':=noneOf_set hD hjD
   refine wpOp_mono (fun a' w' h3=>⟨fun _=>h3.2.1 (noneOf_set (noneOf_set hD hiD) hjD),ih (listed.setIfInBounds j true) a' w' (hs.next hj) hD' hfree' (ready_mono hr (Ne.symm hji)) h3.1 (h3.2.1 (noneOf_set (noneOf_set hD hiD) hjD)) ?_⟩) h2
   rw [Array.setIfInBounds_comm _ _ hji]
   exact h3.2.2
theorem takeM (z i:Nat) {oi:Oper} {v:Value} {fuel:Nat} {listed:Array Bool} {a:Act} {w:World} (hi:ops[i]?=some oi)
  (hs:Region.noSelect ops=true) (hf:Region.free md ops listed i=true) (hr:(Region.ready md ops listed).contains i=true) (hL:lastM md ops z=true) (hz:(decide (i<z)&&noneOf [z] listed)=true) (hsh:shutB md ops listed=true)
  (hQ:∀ c a w,Q (.panic c) (a.put oi.dst v) w→Q (.panic c) a w) (hS:S w) (hw:Region.wanted oi (yielded ops a.tmps)=true) (hy:∀ w,S w→(execOp a.eval oi).run P w=.ok (.value v) w)
  (h:wpAnyL P md ops Q S [z] fuel (listed.setIfInBounds i true) (a.put oi.dst v) w):wpAnyL P md ops Q S [z] (fuel+1) listed a w:=by
 simp only [Bool.and_eq_true,decide_eq_true_eq] at hz
 exact firstM hi (Region.noSelect_spec hs) hQ hL hz.1 fuel listed a w (shut_of hsh) hz.2 (Region.free_spec hi hf) (by simpa using hr) (.inl ⟨hw,hy⟩) hS h
end
end Lst
end Go.Proofs.YtlbihaikppkecaaGreatDoor
