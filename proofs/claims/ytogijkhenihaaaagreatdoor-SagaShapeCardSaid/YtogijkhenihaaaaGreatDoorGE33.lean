/- SagaShape: the law's walk (printed by gen_sgi.py). No condition but the keywords' table and what the card opens. -/
import Derived.Test.YtogijkhenihaaaaGreatDoorGE32
set_option linter.unusedVariables false
set_option linter.unusedSimpArgs false
namespace Go.Proofs.YtogijkhenihaaaaGreatDoor
open Go.RowKit Go.BigFrame
namespace Sg
open Go.Proofs.YtogijkhenihaaaaGreatDoor.Id Go.Proofs.YtogijkhenihaaaaGreatDoor.Chk Go.Proofs.YtogijkhenihaaaaGreatDoor.Ev Go.Proofs.YtogijkhenihaaaaGreatDoor.Sd
/-- A row read of cells known one by one. -/
theorem run_cells {P:Program} (w:World) (g off:Nat) (ty:TypeId) (part:Array Value) (d:TypeDesc) (hp:∀ (j:Nat) (v:Value),part.toList[j]?=some v→w.cell? ⟨g,off+j,none⟩=some v)
  (hu:P.underlying ty=some d) (hd:(match d with | .struct _ | .array _ _=>true | _=>false)=true) (hi:(P.info? ty).map (·.size)=some part.size) :
  (loadVar ty ⟨g,off,none⟩).run P w=.ok (.agg part) w:=by
 have hl:(loadCells ⟨g,off,none⟩ part.toList.length).run P w=.ok part.toList.toArray w :=
  run_loadCells_list (P:=P) w ⟨g,off,none⟩ part.toList (fun j v hv=>by
   have hadd:(⟨g,off,none⟩:Addr).add j=⟨g,off+j,none⟩:=by unfold Addr.add;split <;> simp_all
   rw [hadd]
   exact hp j v hv)
 cases hq:P.info? ty with
 | none=>simp [hq] at hi
 | some i =>
  have hs:i.size=part.size:=by simpa [hq] using hi
  have hagg:(isAgg ty).run P w=.ok true w:=by
   unfold isAgg
   rw [Sem.run_bind,run_underlying hu w]
   cases d <;> simp_all
  simp only [Array.length_toList,Array.toArray_toList] at hl
  simp [loadVar,Sem.run_bind,hagg,sizeOf,typeInfo,hq,hs,hl]
theorem exec_cells {P:Program} {w:World} {o:Oper} {ev:Operand→Value} (ty:TypeId) (x:Operand) (ho:o.op=.load ty x) (g off:Nat) (hx:ev x=.pointer (some ⟨g,off,none⟩)) (part:Array Value) (d:TypeDesc)
  (hp:∀ (j:Nat) (v:Value),part.toList[j]?=some v→w.cell? ⟨g,off+j,none⟩=some v)
  (hu:P.underlying ty=some d) (hd:(match d with | .struct _ | .array _ _=>true | _=>false)=true) (hi:(P.info? ty).map (·.size)=some part.size):(execOp ev o).run P w=.ok (.value (.agg part)) w:=by
 unfold execOp
 simp only [ho,hx,Instr.loadAt,Instr.sureAddr,Sem.run_bind,Sem.run_pure,Result.andThen_ok,Sg.run_cells (P:=P) w g off ty part d hp hu hd hi]
/-- The law's boxes, and a letter's. -/
structure Ex (w V:World) (gR:Nat) (S R:Array Value) (gX:Nat) (LX:Array Value):Prop where
 eb:Eb w V gR S R
 l:Bk V gX 56 LX
 lt:gR<gX
theorem Ex.below {w V V':World} {gR gX:Nat} {S R LX:Array Value} (h:Ex w V gR S R gX LX) (hb:Below V.heap.size V V'):Ex w V' gR S R gX LX:=⟨h.eb.below hb,h.l.below hb h.l.lt,h.lt⟩
theorem Er.fillB {w V:World} {gR gB:Nat} {S R:Array Value} (h:Er w V gR S R none (some gB)) (c:Array Value):Ex w (V.setRow gB c) gR S R gB c:=by
 obtain ⟨b1,b2⟩:=h.b gB rfl
 exact ⟨h.eb.far b2 c,b1.row c,b2⟩
/-- And two more: a run's and a letter's. -/
structure Ey (w V:World) (gR:Nat) (S R:Array Value) (gX:Nat) (LX:Array Value) (gA:Nat) (RA LA:Array Value):Prop where
 ex:Ex w V gR S R gX LX
 q:Two V gA (gA+1) RA LA
 lt:gX<gA
theorem Ey.below {w V V':World} {gR gX gA:Nat} {S R LX RA LA:Array Value} (h:Ey w V gR S R gX LX gA RA LA) (hb:Below V.heap.size V V'):Ey w V' gR S R gX LX gA RA LA:=⟨h.ex.below hb,h.q.below hb h.q.r.lt h.q.l.lt,h.lt⟩
theorem Ey.both {w V:World} {gR gX gA:Nat} {S R LX RA LA:Array Value} (h:Ey w V gR S R gX LX gA RA LA) (c c':Array Value):Ey w ((V.setRow gA c).setRow (gA+1) c') gR S R gX LX gA c c':=by
 have h1:=h.lt
 have h2:=h.ex.lt
 exact ⟨⟨(h.ex.eb.far (by omega) _).far (by omega) _,(h.ex.l.row_far (by omega) _).row_far (by omega) _,h2⟩,h.q.both _ _,h1⟩
theorem Ey.start {w V:World} {gR gX:Nat} {S R LX:Array Value} (h:Ex w V gR S R gX LX) (c c':Array Value):Ey w ((((V.alloc (.cells zrun 54)).alloc (.cells #[.int .u8 0,.int .i64 0,.int .i64 0,.int .u64 0,.string ⟨#[]⟩,.int .u64 0,.string ⟨#[]⟩,.string ⟨#[]⟩,.int .i64 0,.string ⟨#[]⟩] 56)).setRow V.heap.size c).setRow (V.heap.size+1) c') gR S R gX LX V.heap.size c c':=by
 have hf:=Two.fresh V
 have h0:Ey w ((V.alloc (.cells zrun 54)).alloc (.cells #[.int .u8 0,.int .i64 0,.int .i64 0,.int .u64 0,.string ⟨#[]⟩,.int .u64 0,.string ⟨#[]⟩,.string ⟨#[]⟩,.int .i64 0,.string ⟨#[]⟩] 56)) gR S R gX LX V.heap.size zrun #[.int .u8 0,.int .i64 0,.int .i64 0,.int .u64 0,.string ⟨#[]⟩,.int .u64 0,.string ⟨#[]⟩,.string ⟨#[]⟩,.int .i64 0,.string ⟨#[]⟩]:=⟨h.below hf.2,hf.1,h.l.lt⟩
 exact h0.both c c'
theorem back_arg {x:Sch} {r:Run} {fr why:Int}:(back x r fr why).1.arg=r.arg:=back_same.2.2
theorem settle_arg {A:Sch→ByteArray→ByteArray→Nat} {x:Sch} {r:Run} {fr:Int} {l:Letter}:(settle A x r fr l).1.arg=r.arg:=by
 unfold settle
 split
 ·split
  ·exact back_arg
  ·rfl
 ·rfl
theorem stop_arg {A:Sch→ByteArray→ByteArray→Nat} {x:Sch} {r:Run} {fr:Int} (h:(stopR A x r fr).2.2=0):(stopR A x r fr).1.arg=r.arg:=by
 unfold stopR at h ⊢
 split at h
 ·cases h
 ·rename_i h1
  rw [if_neg h1]
  split at h
  ·cases h
  ·rename_i h2
   rw [if_neg h2]
   split at h
   ·cases h
   ·rename_i h3
    rw [if_neg h3]
/-- Bounds of what is done and undone. -/
theorem ShI.bounds {A:Sch→ByteArray→ByteArray→Nat} {x:Sch} {g id:ByteArray} {n:Int} {r:Run} {D U:Int} (h:ShI A x g id n r D U) (hn:n=((steps x g).1:Int)):0≤U∧U≤n∧0≤D∧D≤n:=by
 obtain ⟨hU,s1,s2,s3,s4⟩:=h.sh
 obtain ⟨-,-,-,-,q1,q5⟩:=h.rt.ph
 have a0:=h.rt.a0
 have an:=h.rt.an
 rw [h.sg,←hn] at an
 have hp:r.phase=1∨r.phase=2∨r.phase=3∨r.phase=4∨r.phase=5:=by omega
 rcases hp with e | e | e | e | e
 ·obtain ⟨d1,d2⟩:=s1 e;omega
 ·obtain ⟨d1,d2⟩:=s2 (.inl e);omega
 ·obtain ⟨d1,d2⟩:=s3 e;omega
 ·obtain ⟨d1,d2⟩:=s4 e;omega
 ·obtain ⟨d1,d2⟩:=s2 (.inr e);omega
end Sg
set_option maxRecDepth 100000 in
set_option maxHeartbeats 64000000 in
theorem sagaShape_walk (sv:Value) (x:Id.Sch) (name id arg:ByteArray) (most:Int) (lv:Value) (ls:List Sg.Wd) (w0:World) (hv0:Id.SchV w0 none sv x) (hn1:name.size≤maxLen) (hn2:id.size≤maxLen) (hn3:arg.size≤maxLen) (hmw:(Lit.int .i64 most).wf=true) (hl0:Sg.Wds w0 lv ls) (w:World) (hww:w0=w) (hk:Tk.KW w) :
  Calls Tryz.prog 6 #[sv,.string name,.string id,.string arg,.int .i64 most,lv] w fun e w'=>e=.returned (.bool true)∧Below w.heap.size w w':=by
 subst hww
 have HKW:=Lib.hid hk
 have HV:=Lib.hid hv0
 have HLS:=Lib.hid hl0
 obtain ⟨A1,n1,c1,A2,n2,c2,A3,n3,c3,rfl,-,-,-⟩:=hv0
 obtain ⟨AL,nL,cL,rfl⟩:=ERow.is hl0
 have HNL:Hid (nL=ls.length∧nL≤9223372036854775807):=Lib.hid (by obtain ⟨_,_,e,h1,h2,_⟩:=ERow.slice hl0;injection e with _ e _;exact ⟨e,by omega⟩)
 clear hk hl0 hmw hn1 hn2 hn3
 go_enter Tryz.func6,Tryz.ntmps6
 go_upto_region 1 with (fail)
 refine wp_named (fun V hV=>?_)
 have HL:=Lib.hid (Chk.Lx.start hV)
 clear hV
 obtain ⟨⟨q0,q1,q2,q3⟩,-⟩:=HL.out.box.k4
 have hg:=sggreat_any _ x ⟨id,name,arg,0,0,0,false,0,⟨#[]⟩⟩ Ev.Letter.zero V (Id.SchV.below HL.out.bel HV.out)
 unfold Sg.Run.val Sg.Run.cells Ev.Letter.zero Ev.Letter.val at hg
 simp only [Int.cast_ofNat_Int] at hg
 have HG:=Lib.hid hg
 clear hg
 go_wp2_with fail
 refine HG.out.mono ?_
 rintro e W1 ⟨gb,rfl,hb,hf⟩
 have HL1:=Lib.hid (HL.out.below hb)
 clear hb q0 q1 q2 q3 HL HG
 cases gb with
 | true =>
  go_wp2_with fail
  refine (wakes25_any _ (HKW.out.below HL1.out.bel)).mono ?_
  rintro e Wk ⟨rfl,hb⟩
  have hbk:=HL1.out.bel.trans (hb.mono (HL1.out.bel).size)
  clear hb
  go_wp2_with fail
  go_ret
  exact ⟨rfl,hbk⟩
 | false =>
  have HFR:=Lib.hid (hf rfl)
  clear hf
  by_cases hlen:(200:Int)<(nL:Int)
  case pos =>
   go_wp2_with fail
   refine (wakes25_any _ (HKW.out.below HL1.out.bel)).mono ?_
   rintro e Wk ⟨rfl,hb⟩
   have hbk:=HL1.out.bel.trans (hb.mono (HL1.out.bel).size)
   clear hb
   go_wp2_with fail
   go_ret
   exact ⟨rfl,hbk⟩
  have HFI:Hid (Chk.Fine x):=Lib.hid HFR.out.x.fine
  have HID:Hid (id.size≤100000):=Lib.hid (Nat.le_trans HFR.out.id (by decide))
  have HAG:Hid (arg.size≤1000000):=Lib.hid (Nat.le_trans HFR.out.ag (by decide))
  have HLEN:Hid (nL≤200):=Lib.hid (by omega)
  obtain ⟨⟨q0,q1,q2,q3⟩,-⟩:=HL1.out.box.k4
  have hco:=sgbegin_any _ x HFI.out name id HID.out 0 arg HAG.out W1 (HKW.out.below HL1.out.bel) (Id.SchV.below HL1.out.bel HV.out)
  have hbo:=Sg.begin_ok (A:=Sg.argE) (x:=x) (g:=name) (id:=id) (b:=arg) (fr:=0)
  obtain ⟨⟨⟨m0,m1,m2,m3,m4,m5,m6,m7,m8⟩,⟨k0,k1,k2,k3,k4,k5,k6,k7,k8,k9⟩,BE⟩,HQQ⟩:∃ q:Sg.Run × Ev.Letter × Nat,Hid (Sg.begin_ Sg.argE x name id 0 arg=q):=⟨_,Lib.hid rfl⟩
  rw [HQQ.out] at hco hbo
  unfold Sg.out3V Sg.Run.val Sg.Run.cells Ev.Letter.val at hco
  have HCO:=Lib.hid hco
  have HBO:=Lib.hid hbo
  clear hco hbo
  go_wp2_with fail
  refine HCO.out.mono ?_
  rintro e W2 ⟨rfl,hb⟩
  have HL2:=Lib.hid (HL1.out.below hb)
  clear hb HCO q0 q1 q2 q3 HL1
  have hFr:=Sg.Two.fresh W2
  have hQ:=hFr.1
  (have hq1:=hQ.r;have hq2:=(hQ.setR #[.string m0,.string m1,.string m2,.int .i64 m3,.int .u8 (m4:Nat),.int .i64 m5,.bool m6,.int .i64 m7,.string m8]).l;unfold Bk at hq1 hq2)
  go_upto_region 4 with (refine wpList_store_row rfl _ _ _ rfl _ _ rfl rfl _ _ (by with_reducible assumption) (by kernel_rfl) (by rfl) (by simp [Value.oneCell']) ?_)
  refine wp_named (fun V4 hV=>?_)
  obtain ⟨gR,HgR⟩:∃ n,Hid (W2.heap.size=n):=⟨_,Lib.hid rfl⟩
  have hX:Sg.Eb w0 V4 gR #[.string x.name,.slice A1 n1 c1,.slice A2 n2 c2,.slice A3 n3 c3] #[.string m0,.string m1,.string m2,.int .i64 m3,.int .u8 (m4:Nat),.int .i64 m5,.bool m6,.int .i64 m7,.string m8]:=by
   have hb:Below W2.heap.size W2 V4:=by rw [hV];exact Sg.below_both hFr.2 (Nat.le_refl _) (by omega) _ _
   have hlt:=HL2.out.box.lt
   rw [←HgR.out]
   exact ⟨HL2.out.bel.trans (hb.mono HL2.out.bel.size),HL2.out.box.below hb hlt,by rw [hV];exact (hQ.both _ _).r,hlt⟩
  clear hV hq1 hq2 hQ hFr HL2
  rw [HgR.out]
  by_cases hE:BE=0
  case neg =>
   have t1:((BE:Int) != 0)=true:=by rw [bne_iff_ne];omega
   have t2:¬(BE:Int)=0:=by omega
   go_wp2_with fail
   refine (wakes25_any _ (HKW.out.below hX.bel)).mono ?_
   rintro e Wk ⟨rfl,hb⟩
   have hbk:=hX.bel.trans (hb.mono (hX.bel).size)
   clear hb
   go_wp2_with fail
   go_ret
   exact ⟨rfl,hbk⟩
  obtain ⟨hr0,hrt⟩:=HBO.out hE
  have HRT:=Lib.hid hrt
  have hr0:=hr0.symm
  simp only [Sg.Run.mk.injEq] at hr0
  obtain ⟨rfl,rfl,rfl,rfl,rfl,rfl,rfl,rfl,rfl⟩:=hr0
  subst hE
  clear hrt HBO HQQ
  simp only [Int.cast_ofNat_Int] at hX ⊢
  obtain ⟨N,HN⟩:∃ N,Hid ((Sd.steps x name).1=N):=⟨_,Lib.hid rfl⟩
  obtain ⟨NE,HNE⟩:∃ N,Hid ((Sd.steps x name).2=N):=⟨_,Lib.hid rfl⟩
  have HNS:Hid (N≤1000):=Lib.hid (by rw [←HN.out];exact Sg.steps_small HFI.out name)
  obtain ⟨⟨q0,q1,q2,q3⟩,-⟩:=hX.s.k4
  go_wp2_with fail
  refine (ssteps_any _ x HFI.out name _ (HKW.out.below hX.bel) (Id.SchV.below hX.bel HV.out)).mono ?_
  rw [HN.out,HNE.out]
  rintro e W6 ⟨rfl,hb⟩
  have hX6:=hX.below hb
  clear hX hb q0 q1 q2 q3
  go_wp2_with fail
  have HSH0:Hid (Sg.ShI Sg.argE x name id N ⟨id,name,arg,0,1,0,false,0,⟨#[]⟩⟩ 0 0):=Lib.hid (Sg.sh_start HRT.out)
  have HX6:=Lib.hid hX6
  have HNI:Hid ((N:Int)=((Sd.steps x name).1:Int)):=Lib.hid (by rw [HN.out])
  clear hX6
  go_loopw [20,18,19] (fun iv dv uv wr=>∃ (k:Nat) (D U:Int) (r:Sg.Run),k≤nL∧iv=.int .i64 k∧dv=.int .i64 D∧uv=.int .i64 U∧Hid (r.arg=arg)∧Hid (Sg.ShI Sg.argE x name id N r D U)∧Hid (Sg.Eb w0 wr gR #[.string x.name,.slice A1 n1 c1,.slice A2 n2 c2,.slice A3 n3 c3] r.cells)) (fun iv _ _ _=>nL - (intOf iv).toNat)
  case atStart=>exact ⟨0,0,0,_,by omega,rfl,rfl,rfl,Lib.hid rfl,HSH0,HX6⟩
  case round =>
   obtain ⟨k,D,U,⟨i,sg,ag,a,p,t,st,y,va⟩,hk,rfl,rfl,rfl,HRA,HSH,HX⟩:=hrel
   obtain ⟨Z,rfl⟩:∃ wo:World,wo=wr:=⟨_,rfl⟩
   by_cases hlt:k<nL
   case neg =>
    have h1:¬(k:Int)<(nL:Int):=by omega
    obtain ⟨e3,e4,e5⟩:=Sg.sh_end HSH.out HNI.out
    have x4:=HX.out.r.cell 4
    unfold Sg.Run.cells at x4
    simp only [List.getElem?_toArray,List.getElem?_cons_zero,List.getElem?_cons_succ] at x4 e3 e4 e5
    by_cases hp3:p=3
    case pos =>
     obtain ⟨d1,d2⟩:=e3 hp3
     subst hp3
     subst d1 d2
     clear e3 e4 e5
     have x4:_=some (Value.int .u8 3):=x4
     go_wp2_with fail
     refine (wakes25_any _ (HKW.out.below HX.out.bel)).mono ?_
     rintro e Wk ⟨rfl,hb⟩
     have hbk:=HX.out.bel.trans (hb.mono (HX.out.bel).size)
     clear hb
     go_wp2_with fail
     go_ret
     exact ⟨rfl,hbk⟩
    by_cases hp4:p=4
    case pos =>
     obtain ⟨d1,d2⟩:=e4 hp4
     subst hp4
     subst d1
     clear e3 e4 e5
     have x4:_=some (Value.int .u8 4):=x4
     go_wp2_with fail
     refine (wakes25_any _ (HKW.out.below HX.out.bel)).mono ?_
     rintro e Wk ⟨rfl,hb⟩
     have hbk:=HX.out.bel.trans (hb.mono (HX.out.bel).size)
     clear hb
     go_wp2_with fail
     go_ret
     exact ⟨rfl,hbk⟩
    obtain ⟨d1,d2,d3⟩:=e5 hp3 hp4
    clear e3 e4 e5
    have v3:((p:Int)==3)=false:=by rw [beq_eq_false_iff_ne];omega
    have v4:((p:Int)==4)=false:=by rw [beq_eq_false_iff_ne];omega
    by_cases hp1:p=1
    case pos =>
     have d4:U=0:=d3.resolve_left (by simp [hp1])
     subst hp1
     subst d4
     clear d3
     have x4:_=some (Value.int .u8 1):=x4
     go_wp2_with fail
     refine (wakes25_any _ (HKW.out.below HX.out.bel)).mono ?_
     rintro e Wk ⟨rfl,hb⟩
     have hbk:=HX.out.bel.trans (hb.mono (HX.out.bel).size)
     clear hb
     go_wp2_with fail
     go_ret
     exact ⟨rfl,hbk⟩
    have v1:((p:Int) != 1)=true:=by rw [bne_iff_ne];omega
    clear d3
    go_wp2_with fail
    refine (wakes25_any _ (HKW.out.below HX.out.bel)).mono ?_
    rintro e Wk ⟨rfl,hb⟩
    have hbk:=HX.out.bel.trans (hb.mono (HX.out.bel).size)
    clear hb
    go_wp2_with fail
    go_ret
    exact ⟨rfl,hbk⟩
   have h1:(k:Int)<(nL:Int):=by omega
   go_upto_region 11 with (fail)
   have hkl:k<ls.length:=by rw [←HNL.out.1];exact hlt
   have hnl:=HNL.out.2
   obtain ⟨gb,off,cs,rfl,-,he,hc⟩:=ERow.get HLS.out hkl (by decide)
   obtain ⟨⟨qd,qc,qk,qy⟩,Hword⟩:∃ c,Hid (ls[k]=c):=⟨_,Lib.hid rfl⟩
   rw [Hword.out] at he
   have hce:cs=[.int .i64 qd,.int .i64 qc,.int .u8 (qk:Nat),.string qy]:=he
   subst hce
   have HC0:Hid (∀ (j:Nat) (v:Value),(#[.int .i64 qd,.int .i64 qc,.int .u8 (qk:Nat),.string qy]:Array Value).toList[j]?=some v→w0.cell? ⟨gb,off+k * 4+j,none⟩=some v):=Lib.hid (fun j v hv=>hc j v hv)
   have b0:=hc 0 _ rfl
   simp only [Nat.add_zero] at b0
   have hgb:gb<w0.heap.size:=block_lt_of_cell b0
   have HDA:Hid (∀ w',Below w0.heap.size w0 w'→∀ (j:Nat) (v:Value),(#[.int .i64 qd,.int .i64 qc,.int .u8 (qk:Nat),.string qy]:Array Value).toList[j]?=some v→w'.cell? ⟨gb,off+k * 4+j,none⟩=some v):=Lib.hid (fun w' hw' j v hv=>(hw'.cell (p:=⟨gb,off+k * 4+j,none⟩) hgb).trans (HC0.out j v hv))
   clear he hc Hword b0 hkl
   have a3:=HDA.out _ HX.out.bel 3 _ rfl
   have a0:=HDA.out _ HX.out.bel 0 _ rfl
   simp only [Nat.add_zero] at a0
   by_cases hkey:(5000:Int)<(qy.size:Int)
   case pos =>
    go_wp2_with fail
    refine (wakes25_any _ (HKW.out.below HX.out.bel)).mono ?_
    rintro e Wk ⟨rfl,hb⟩
    have hbk:=HX.out.bel.trans (hb.mono (HX.out.bel).size)
    clear hb
    go_wp2_with fail
    go_ret
    exact ⟨rfl,hbk⟩
   go_upto_region 13 with (fail)
   have HID2:Hid (i.size≤100000):=Lib.hid (by have h:=HSH.out.ni;simp only at h;rw [h];exact HID.out)
   have HAG2:Hid (ag.size≤1000000):=Lib.hid (by have h:=HRA.out;simp only at h;rw [h];exact HAG.out)
   have HIE:Hid (i=id):=Lib.hid HSH.out.ni
   by_cases hd1:qd=1
   case pos =>
    as_aux_lemma =>
     have t1:((qd:Int)==1)=true:=by rw [beq_iff_eq];exact hd1
     clear hd1
     have hco:=sgstop_any _ x HFI.out ⟨i,sg,ag,a,p,t,st,y,va⟩ HID2.out HAG2.out 0 Z (HKW.out.below HX.out.bel) (Id.SchV.below HX.out.bel HV.out)
     have hso:=Sg.stop_round (A:=Sg.argE) (x:=x) (g:=name) (id:=id) HSH.out
     have hsa:=Sg.stop_arg (A:=Sg.argE) (x:=x) (r:=⟨i,sg,ag,a,p,t,st,y,va⟩) (fr:=0)
     obtain ⟨⟨⟨m0,m1,m2,m3,m4,m5,m6,m7,m8⟩,⟨k0,k1,k2,k3,k4,k5,k6,k7,k8,k9⟩,SE⟩,HQQ⟩:∃ q:Sg.Run × Ev.Letter × Nat,Hid (Sg.stopR Sg.argE x ⟨i,sg,ag,a,p,t,st,y,va⟩ 0=q):=⟨_,Lib.hid rfl⟩
     rw [HQQ.out] at hco hso hsa
     unfold Sg.out3V Sg.Run.val Sg.Run.cells Ev.Letter.val at hco
     have HCO:=Lib.hid hco
     have HSO:=Lib.hid hso
     have HSA:=Lib.hid hsa
     clear hco hso hsa
     have hS:=HX.out.s
     have hL:=HX.out.r
     unfold Sg.Run.cells at hL
     simp only at hL
     go_wp2_with (first | (refine wpList_load_row rfl _ _ rfl _ rfl _ _ _ _ (Sg.bk hS) Tryz.underlying28 rfl (by kernel_rfl) ?_) | (refine wpList_load_row rfl _ _ rfl _ rfl _ _ _ _ (Sg.bk hL) Tryz.underlying54 rfl (by kernel_rfl) ?_))
     refine HCO.out.mono ?_
     rintro e W5 ⟨rfl,hb⟩
     have hX5:=HX.out.below hb
     clear hb HCO hS hL
     have hFr:=Sg.Two.fresh W5
     have hQ:=hFr.1
     (have hq1:=hQ.r;have hq2:=(hQ.setR #[.string m0,.string m1,.string m2,.int .i64 m3,.int .u8 (m4:Nat),.int .i64 m5,.bool m6,.int .i64 m7,.string m8]).l;unfold Bk at hq1 hq2)
     go_upto_region 15 with (refine wpList_store_row rfl _ _ _ rfl _ _ rfl rfl _ _ (by with_reducible assumption) (by kernel_rfl) (by rfl) (by simp [Value.oneCell']) ?_)
     refine wp_named (fun V15 hV=>?_)
     obtain ⟨gA,HgA⟩:∃ n,Hid (W5.heap.size=n):=⟨_,Lib.hid rfl⟩
     have hY:Sg.Eb w0 V15 gR #[.string x.name,.slice A1 n1 c1,.slice A2 n2 c2,.slice A3 n3 c3] #[.string i,.string sg,.string ag,.int .i64 a,.int .u8 (p:Nat),.int .i64 t,.bool st,.int .i64 y,.string va]∧Sg.Two V15 gA (gA+1) #[.string m0,.string m1,.string m2,.int .i64 m3,.int .u8 (m4:Nat),.int .i64 m5,.bool m6,.int .i64 m7,.string m8] #[.int .u8 k0,.int .i64 k1,.int .i64 k2,.int .u64 k3,.string k4,.int .u64 k5,.string k6,.string k7,.int .i64 k8,.string k9]∧gR<gA:=by
      have hb:Below W5.heap.size W5 V15:=by rw [hV];exact Sg.below_both hFr.2 (Nat.le_refl _) (by omega) _ _
      have hlt:=hX5.r.lt
      rw [←HgA.out]
      exact ⟨hX5.below hb,by rw [hV];exact hQ.both _ _,hlt⟩
     clear hV hq1 hq2 hQ hFr hX5
     rw [HgA.out]
     obtain ⟨hE,hQ,hgA⟩:=hY
     have wkk:IntKind.i64.wrap ((k:Int)+1)=(k:Int)+1:=by have:=HLEN.out;rw [IntKind.wrap_i64];omega
     by_cases hse:SE=0
     case neg =>
      have t2:((SE:Int)==0)=false:=by rw [beq_eq_false_iff_ne];omega
      have t3:¬(SE:Int)=0:=by omega
      go_wp2_with fail
      go_roundw
      case rel=>exact ⟨k+1,D,U,_,by omega,by go_num,rfl,rfl,HRA,HSH,Lib.hid hE⟩
      case measure=>simp [intOf];omega
     obtain ⟨s1,s2,s3⟩:=HSO.out hse
     have HSH2:=Lib.hid s3
     have HRA2:Hid (m2=arg):=Lib.hid ((HSA.out hse).trans HRA.out)
     try simp only at s1 s2
     subst hse
     have HKY:Hid (Sd.keyB id a false=k4):=Lib.hid s2.symm
     subst s1
     clear s2 s3 HSO HSA
     have hky:=fun W=>skey_any id HID.out a false W
     simp only [HKY.out] at hky
     go_upto_region 16 with (fail)
     have dR3:=fun (w':World) (hb:Bl V15 w')=>(hE.r.below hb hE.r.lt).cell 3
     have dL0:=fun (w':World) (hb:Bl V15 w')=>(hQ.l.below hb hQ.l.lt).cell 0
     have dL4:=fun (w':World) (hb:Bl V15 w')=>(hQ.l.below hb hQ.l.lt).cell 4
     simp only [List.getElem?_toArray,List.getElem?_cons_zero,List.getElem?_cons_succ] at dR3 dL0 dL4
     have hKy:=fun (w':World) (hb:Bl V15 w')=>calls_bl hb (hky w')
     refine wp_region_bl V15 (by kernel_rfl) (by kernel_rfl) (Bl.refl _) ?_
     repeat (first | go_big_quiet_step ((intro hb;(go_at_call 29;exact hKy _ hb))) | (refine wpQuiet_step (fun K hK=>?_);rw [if_pos (by rfl)];refine Lst.load_cell _ _ rfl _ rfl _ (by assumption) _ Tryz.underlying9 rfl ?_;go_simp;refine hK _ ?_;clear hK K) | (refine wpQuiet_step (fun K hK=>?_);rw [if_pos (by rfl)];refine Lst.load_cell _ _ rfl _ rfl _ (by assumption) _ Tryz.underlying3 rfl ?_;go_simp;refine hK _ ?_;clear hK K) | (refine wpQuiet_step (fun K hK=>?_);rw [if_pos (by rfl)];refine Lst.load_cell _ _ rfl _ rfl _ (by assumption) _ Tryz.underlying5 rfl ?_;go_simp;refine hK _ ?_;clear hK K) | (refine wpQuiet_step (fun K hK=>?_);go_simp;refine ⟨_,fun _ _=>rfl,hK _ ?_⟩;clear hK K))
     refine wpQuiet_nil ?_
     intro W6 hW6
     have hE2:=hE.below hW6
     have hQ2:=hQ.below hW6 hQ.r.lt hQ.l.lt
     clear hE hQ dR3 dL0 dL4 hKy hky hW6
     have hla:=Sg.bk hQ2.r
     have hlr:=Sg.bk hE2.r
     go_wp2_with (first | (refine wpList_load_row rfl _ _ rfl _ rfl _ _ _ _ hla Tryz.underlying54 rfl (by kernel_rfl) ?_) | (refine wpList_store_row rfl _ _ _ rfl _ _ rfl rfl _ _ (by with_reducible assumption) (by kernel_rfl) (by rfl) (by simp [Value.oneCell']) ?_))
     go_roundw
     case rel=>exact ⟨k+1,D,U,⟨m0,m1,m2,m3,m4,m5,m6,m7,m8⟩,by omega,by go_num,rfl,rfl,HRA2,HSH2,Lib.hid (hE2.setR _)⟩
     case measure=>simp [intOf];omega
   have t1:((qd:Int)==1)=false:=by rw [beq_eq_false_iff_ne];exact hd1
   go_upto_region 19 with (fail)
   clear a0 a3 t1
   have hlet:=fun W=>sgletter_any ⟨i,sg,ag,a,p,t,st,y,va⟩ HID2.out qd qc qk qy W
   obtain ⟨⟨l0,l1,l2,l3,l4,l5,l6,l7,l8,l9⟩,HLW⟩:∃ l:Ev.Letter,Hid (Sg.wordL ⟨i,sg,ag,a,p,t,st,y,va⟩ qd qc qk qy=l):=⟨_,Lib.hid rfl⟩
   simp only [HLW.out] at hlet
   unfold Sg.Run.val Sg.Run.cells Ev.Letter.val at hlet
   simp only at hlet
   have HLET:=Lib.hid hlet
   clear hlet
   go_cut [24] (fun u wx=>∃ gX,u=.pointer (some ⟨gX,0,none⟩)∧Hid (Sg.Ex w0 wx gR #[.string x.name,.slice A1 n1 c1,.slice A2 n2 c2,.slice A3 n3 c3] #[.string i,.string sg,.string ag,.int .i64 a,.int .u8 (p:Nat),.int .i64 t,.bool st,.int .i64 y,.string va] gX #[.int .u8 l0,.int .i64 l1,.int .i64 l2,.int .u64 l3,.string l4,.int .u64 l5,.string l6,.string l7,.int .i64 l8,.string l9]))
   case first =>
    have hd:Below Z.heap.size Z Z.drew:=(Below.refl _ _).drew
    have hS:Sg.Er w0 Z.drew gR #[.string x.name,.slice A1 n1 c1,.slice A2 n2 c2,.slice A3 n3 c3] #[.string i,.string sg,.string ag,.int .i64 a,.int .u8 (p:Nat),.int .i64 t,.bool st,.int .i64 y,.string va] none none:=⟨HX.out.below hd,(fun g e=>by cases e),(fun g e=>by cases e)⟩
    have hS0:=hS.eb
    clear hd
    refine wp_region_L_calm (fun w'=>Sg.Eb w0 w' gR #[.string x.name,.slice A1 n1 c1,.slice A2 n2 c2,.slice A3 n3 c3] #[.string i,.string sg,.string ag,.int .i64 a,.int .u8 (p:Nat),.int .i64 t,.bool st,.int .i64 y,.string va]) [7] (by kernel_rfl) hS0 (fun hHeld=>?_)
    (refine Lst.takeM 7 0 (v:=.agg #[.string i,.string sg,.string ag,.int .i64 a,.int .u8 (p:Nat),.int .i64 t,.bool st,.int .i64 y,.string va]) rfl (by kernel_rfl) (by kernel_rfl) (by kernel_rfl) (by kernel_rfl) (by kernel_rfl) (by kernel_rfl) (fun _ _ _ h=>h) (by assumption) (by kernel_rfl) (fun w' hSw=>Sg.exec_row _ _ rfl gR rfl _ _ _ hSw.r Tryz.underlying54 rfl (by kernel_rfl)) ?_;try simp only [Act.put,List.setIfInBounds_toArray,List.set_cons_zero,List.set_cons_succ])
    (refine wpAnyL_take0 1 (v:=?_) rfl (by kernel_rfl) (by kernel_rfl) (by kernel_rfl) (by kernel_rfl) (fun _ _ _ h=>h) (fun _=>by assumption) (by rfl) ?_ ?_;rotate_left;· (intro w;go_simp;try with_reducible rfl);try simp only [Act.put,List.setIfInBounds_toArray,List.set_cons_zero,List.set_cons_succ])
    (refine wpAnyL_take0 2 (v:=?_) rfl (by kernel_rfl) (by kernel_rfl) (by kernel_rfl) (by kernel_rfl) (fun _ _ _ h=>h) (fun _=>by assumption) (by rfl) ?_ ?_;rotate_left;· (intro w;go_simp;try with_reducible rfl);try simp only [Act.put,List.setIfInBounds_toArray,List.set_cons_zero,List.set_cons_succ])
    (refine wpAnyL_take0 3 (v:=?_) rfl (by kernel_rfl) (by kernel_rfl) (by kernel_rfl) (by kernel_rfl) (fun _ _ _ h=>h) (fun _=>by assumption) (by rfl) ?_ ?_;rotate_left;· (intro w;go_simp;try with_reducible rfl);try simp only [Act.put,List.setIfInBounds_toArray,List.set_cons_zero,List.set_cons_succ])
    (refine Lst.takeM 7 4 (v:=.agg #[.int .i64 qd,.int .i64 qc,.int .u8 (qk:Nat),.string qy]) rfl (by kernel_rfl) (by kernel_rfl) (by kernel_rfl) (by kernel_rfl) (by kernel_rfl) (by kernel_rfl) (fun _ _ _ h=>h) (by assumption) (by kernel_rfl) (fun w' hSw=>Sg.exec_cells _ _ rfl gb (off+k * 4) rfl _ _ (HDA.out _ hSw.bel) Tryz.underlying67 rfl (by kernel_rfl)) ?_;try simp only [Act.put,List.setIfInBounds_toArray,List.set_cons_zero,List.set_cons_succ])
    clear hHeld hS0
    refine Lst.two 5 6 (by kernel_rfl) rfl rfl (fun K hK=>?_) (fun K hK=>?_)
    ·(go_simp;refine (HLET.out _).mono ?_;rintro e X ⟨rfl,hb⟩;have hn:=hS.below hb;(refine hK.out _ _ (fun hnn=>hn.eb) ?_;clear hK K;try simp only [Act.put,List.setIfInBounds_toArray,List.set_cons_zero,List.set_cons_succ]);clear hb hS;have hS:=hn;clear hn)
     refine wpAnyL_step 6 (by kernel_rfl) rfl (fun K hK=>?_)
     (go_simp;have hn:=hS.allocB;(try simp only [World.size_alloc] at hn);(refine hK.out _ _ (fun hnn=>hn.eb) ?_;clear hK K;try simp only [Act.put,List.setIfInBounds_toArray,List.set_cons_zero,List.set_cons_succ]);clear hS;have hS:=hn;clear hn)
     obtain ⟨hBk,hlB⟩:=hS.b _ rfl
     (refine wpAnyL_step 7 (by kernel_rfl) rfl (fun K hK=>?_))
     rw [if_pos (by rfl)]
     with_reducible refine wp_store_row 56 _ _ rfl _ #[.int .u8 l0,.int .i64 l1,.int .i64 l2,.int .u64 l3,.string l4,.int .u64 l5,.string l6,.string l7,.int .i64 l8,.string l9] (by kernel_rfl) (by kernel_rfl) 56 _ (Sg.bk hBk) (by kernel_rfl) (by kernel_rfl) (by simp [Value.oneCell']) ?_
     (refine hK.out _ _ (fun hnn=>absurd hnn (by decide)) ?_;clear hK K;try simp only [Act.put,List.setIfInBounds_toArray,List.set_cons_zero,List.set_cons_succ])
     refine wpAnyL_done (by kernel_rfl) ?_ _
     refine NoPanic.normal ?_
     go_wp2_with fail
     go_meet
     case rel=>exact ⟨_,rfl,Lib.hid (hS.fillB #[.int .u8 l0,.int .i64 l1,.int .i64 l2,.int .u64 l3,.string l4,.int .u64 l5,.string l6,.string l7,.int .i64 l8,.string l9])⟩
    ·(go_simp;have hn:=hS.allocB;(try simp only [World.size_alloc] at hn);(refine hK.out _ _ (fun hnn=>hn.eb) ?_;clear hK K;try simp only [Act.put,List.setIfInBounds_toArray,List.set_cons_zero,List.set_cons_succ]);clear hS;have hS:=hn;clear hn)
     refine wpAnyL_step 5 (by kernel_rfl) rfl (fun K hK=>?_)
     (go_simp;refine (HLET.out _).mono ?_;rintro e X ⟨rfl,hb⟩;have hn:=hS.below hb;(refine hK.out _ _ (fun hnn=>hn.eb) ?_;clear hK K;try simp only [Act.put,List.setIfInBounds_toArray,List.set_cons_zero,List.set_cons_succ]);clear hb hS;have hS:=hn;clear hn)
     obtain ⟨hBk,hlB⟩:=hS.b _ rfl
     (refine wpAnyL_step 7 (by kernel_rfl) rfl (fun K hK=>?_))
     rw [if_pos (by rfl)]
     with_reducible refine wp_store_row 56 _ _ rfl _ #[.int .u8 l0,.int .i64 l1,.int .i64 l2,.int .u64 l3,.string l4,.int .u64 l5,.string l6,.string l7,.int .i64 l8,.string l9] (by kernel_rfl) (by kernel_rfl) 56 _ (Sg.bk hBk) (by kernel_rfl) (by kernel_rfl) (by simp [Value.oneCell']) ?_
     (refine hK.out _ _ (fun hnn=>absurd hnn (by decide)) ?_;clear hK K;try simp only [Act.put,List.setIfInBounds_toArray,List.set_cons_zero,List.set_cons_succ])
     refine wpAnyL_done (by kernel_rfl) ?_ _
     refine NoPanic.normal ?_
     go_wp2_with fail
     go_meet
     case rel=>exact ⟨_,rfl,Lib.hid (hS.fillB #[.int .u8 l0,.int .i64 l1,.int .i64 l2,.int .u64 l3,.string l4,.int .u64 l5,.string l6,.string l7,.int .i64 l8,.string l9])⟩
   case rest =>
    obtain ⟨gX,rfl,HE⟩:=hcut
    obtain ⟨Y,rfl⟩:∃ wo:World,wo=wc:=⟨_,rfl⟩
    clear HLET HX
    have hco:=sgreply_any _ x HFI.out ⟨i,sg,ag,a,p,t,st,y,va⟩ HID2.out HAG2.out 0 most ⟨l0,l1,l2,l3,l4,l5,l6,l7,l8,l9⟩ Y (HKW.out.below HE.out.eb.bel) (Id.SchV.below HE.out.eb.bel HV.out)
    have hro:=Sg.reply_round (most:=most) (l:=(⟨l0,l1,l2,l3,l4,l5,l6,l7,l8,l9⟩:Ev.Letter)) HSH.out HNI.out
    have hsm:=Sg.reply_same (A:=Sg.argE) (x:=x) (r:=⟨i,sg,ag,a,p,t,st,y,va⟩) (fr:=0) (most:=most) (l:=(⟨l0,l1,l2,l3,l4,l5,l6,l7,l8,l9⟩:Ev.Letter))
    obtain ⟨⟨⟨m0,m1,m2,m3,m4,m5,m6,m7,m8⟩,⟨k0,k1,k2,k3,k4,k5,k6,k7,k8,k9⟩,cl,tk⟩,HQQ⟩:∃ q:Sg.Run × Ev.Letter × Bool × Bool,Hid (Sg.reply Sg.argE x ⟨i,sg,ag,a,p,t,st,y,va⟩ 0 most ⟨l0,l1,l2,l3,l4,l5,l6,l7,l8,l9⟩=q):=⟨_,Lib.hid rfl⟩
    rw [HQQ.out] at hco hro hsm
    unfold Sg.outV Sg.Run.val Sg.Run.cells Ev.Letter.val at hco
    try simp only at hco
    try simp only at hro
    try simp only at hsm
    have HCO:=Lib.hid hco
    have HRO:=Lib.hid hro
    have HSM:=Lib.hid hsm
    clear hco hro hsm
    have hS:=HE.out.eb.s
    have hL:=HE.out.eb.r
    have hT:=HE.out.l
    go_wp2_with (first | (refine wpList_load_row rfl _ _ rfl _ rfl _ _ _ _ (Sg.bk hS) Tryz.underlying28 rfl (by kernel_rfl) ?_) | (refine wpList_load_row rfl _ _ rfl _ rfl _ _ _ _ (Sg.bk hL) Tryz.underlying54 rfl (by kernel_rfl) ?_) | (refine wpList_load_row rfl _ _ rfl _ rfl _ _ _ _ (Sg.bk hT) Tryz.underlying56 rfl (by kernel_rfl) ?_))
    refine HCO.out.mono ?_
    rintro e W6 ⟨rfl,hb⟩
    have hE6:=HE.out.below hb
    clear hb HCO hS hL hT HE
    have hFr:=Sg.Two.fresh W6
    have hQ:=hFr.1
    (have hq1:=hQ.r;have hq2:=(hQ.setR #[.string m0,.string m1,.string m2,.int .i64 m3,.int .u8 (m4:Nat),.int .i64 m5,.bool m6,.int .i64 m7,.string m8]).l;unfold Bk at hq1 hq2)
    go_upto_region 21 with (refine wpList_store_row rfl _ _ _ rfl _ _ rfl rfl _ _ (by with_reducible assumption) (by kernel_rfl) (by rfl) (by simp [Value.oneCell']) ?_)
    refine wp_named (fun V21 hV=>?_)
    have hY:=Sg.Ey.start hE6 #[.string m0,.string m1,.string m2,.int .i64 m3,.int .u8 (m4:Nat),.int .i64 m5,.bool m6,.int .i64 m7,.string m8] #[.int .u8 k0,.int .i64 k1,.int .i64 k2,.int .u64 k3,.string k4,.int .u64 k5,.string k6,.string k7,.int .i64 k8,.string k9]
    rw [←hV] at hY
    clear hV hq1 hq2 hQ hFr hE6
    obtain ⟨gA,HgA⟩:∃ n,Hid (W6.heap.size=n):=⟨_,Lib.hid rfl⟩
    rw [HgA.out] at hY ⊢
    have wkk:IntKind.i64.wrap ((k:Int)+1)=(k:Int)+1:=by have:=HLEN.out;rw [IntKind.wrap_i64];omega
    rcases HRO.out with e | ⟨ht,hck,hz,hnz⟩
    ·have e:=e.symm
     unfold Ev.Letter.zero at e
     simp only [Prod.mk.injEq,Sg.Run.mk.injEq,Ev.Letter.mk.injEq] at e
     obtain ⟨⟨rfl,rfl,rfl,rfl,rfl,rfl,rfl,rfl,rfl⟩,⟨rfl,rfl,rfl,rfl,rfl,rfl,rfl,rfl,rfl,rfl⟩,rfl,rfl⟩:=e
     simp only [Int.cast_ofNat_Int] at hY
     clear HRO HSM HQQ
     have hco:=sgsettle_any _ x HFI.out ⟨i,sg,ag,a,p,t,st,y,va⟩ HID2.out HAG2.out 0 ⟨l0,l1,l2,l3,l4,l5,l6,l7,l8,l9⟩ V21 (HKW.out.below hY.ex.eb.bel) (Id.SchV.below hY.ex.eb.bel HV.out)
     have hro:=Sg.settle_round (l:=(⟨l0,l1,l2,l3,l4,l5,l6,l7,l8,l9⟩:Ev.Letter)) HSH.out HNI.out
     have hsm:=Sg.settle_arg (A:=Sg.argE) (x:=x) (r:=⟨i,sg,ag,a,p,t,st,y,va⟩) (fr:=0) (l:=(⟨l0,l1,l2,l3,l4,l5,l6,l7,l8,l9⟩:Ev.Letter))
     obtain ⟨⟨⟨m0,m1,m2,m3,m4,m5,m6,m7,m8⟩,⟨k0,k1,k2,k3,k4,k5,k6,k7,k8,k9⟩,cl,tk⟩,HQQ⟩:∃ q:Sg.Run × Ev.Letter × Bool × Bool,Hid (Sg.settle Sg.argE x ⟨i,sg,ag,a,p,t,st,y,va⟩ 0 ⟨l0,l1,l2,l3,l4,l5,l6,l7,l8,l9⟩=q):=⟨_,Lib.hid rfl⟩
     rw [HQQ.out] at hco hro hsm
     unfold Sg.outV Sg.Run.val Sg.Run.cells Ev.Letter.val at hco
     try simp only at hco
     try simp only at hro
     try simp only at hsm
     have HCO:=Lib.hid hco
     have HRO:=Lib.hid hro
     have HSM:=Lib.hid hsm
     clear hco hro hsm
     have hS:=hY.ex.eb.s
     have hL:=hY.ex.eb.r
     have hT:=hY.ex.l
     go_wp2_with (first | (refine wpList_load_row rfl _ _ rfl _ rfl _ _ _ _ (Sg.bk hS) Tryz.underlying28 rfl (by kernel_rfl) ?_) | (refine wpList_load_row rfl _ _ rfl _ rfl _ _ _ _ (Sg.bk hL) Tryz.underlying54 rfl (by kernel_rfl) ?_) | (refine wpList_load_row rfl _ _ rfl _ rfl _ _ _ _ (Sg.bk hT) Tryz.underlying56 rfl (by kernel_rfl) ?_))
     refine HCO.out.mono ?_
     rintro e W28 ⟨rfl,hb⟩
     have hY2:=hY.below hb
     clear hb HCO hS hL hT hY
     have hQ:=hY2.q
     (have hq1:=hQ.r;have hq2:=(hQ.setR #[.string m0,.string m1,.string m2,.int .i64 m3,.int .u8 (m4:Nat),.int .i64 m5,.bool m6,.int .i64 m7,.string m8]).l;unfold Bk at hq1 hq2)
     go_upto_region 29 with (refine wpList_store_row rfl _ _ _ rfl _ _ rfl rfl _ _ (by with_reducible assumption) (by kernel_rfl) (by rfl) (by simp [Value.oneCell']) ?_)
     refine wp_named (fun V29 hV=>?_)
     have hY:=hY2.both #[.string m0,.string m1,.string m2,.int .i64 m3,.int .u8 (m4:Nat),.int .i64 m5,.bool m6,.int .i64 m7,.string m8] #[.int .u8 k0,.int .i64 k1,.int .i64 k2,.int .u64 k3,.string k4,.int .u64 k5,.string k6,.string k7,.int .i64 k8,.string k9]
     rw [←hV] at hY
     clear hV hq1 hq2 hQ hY2
     rcases HRO.out with e | ⟨hck,hsh⟩
     ·have e:=e.symm
      unfold Ev.Letter.zero at e
      simp only [Prod.mk.injEq,Sg.Run.mk.injEq,Ev.Letter.mk.injEq] at e
      obtain ⟨⟨rfl,rfl,rfl,rfl,rfl,rfl,rfl,rfl,rfl⟩,⟨rfl,rfl,rfl,rfl,rfl,rfl,rfl,rfl,rfl,rfl⟩,rfl,rfl⟩:=e
      as_aux_lemma =>
       simp only [Int.cast_ofNat_Int] at hY
       have HSHn:=HSH
       have HRAn:=HRA
       have hla:=hY.q.r
       have hlr:=hY.ex.eb.r
       have z4:=hY.q.l.cell 0
       simp only [List.getElem?_toArray,List.getElem?_cons_zero,List.getElem?_cons_succ] at z4
       go_upto_region 31 with (first | (refine Sg.list_load_rowG (by kernel_rfl) _ _ rfl _ rfl _ _ _ hla Tryz.underlying54 rfl (by kernel_rfl) ?_) | (refine Sg.list_load_rowG (by kernel_rfl) _ _ rfl _ rfl _ _ _ hlr Tryz.underlying54 rfl (by kernel_rfl) ?_))
       clear z4 hla hlr
       have hla:=Sg.bk hY.q.r
       have hlr:=Sg.bk hY.ex.eb.r
       go_upto_region 32 with (first | (refine wpList_load_row rfl _ _ rfl _ rfl _ _ _ _ hla Tryz.underlying54 rfl (by kernel_rfl) ?_) | (refine wpList_store_row rfl _ _ _ rfl _ _ rfl rfl _ _ (by with_reducible assumption) (by kernel_rfl) (by rfl) (by simp [Value.oneCell']) ?_))
       refine wp_named (fun V32 hV=>?_)
       have hE:=hY.ex.eb.setR #[.string i,.string sg,.string ag,.int .i64 a,.int .u8 (p:Nat),.int .i64 t,.bool st,.int .i64 y,.string va]
       have hQl:=hY.q.l.row_far (g':=gR) (by have:=hY.lt;have:=hY.ex.lt;omega) #[.string i,.string sg,.string ag,.int .i64 a,.int .u8 (p:Nat),.int .i64 t,.bool st,.int .i64 y,.string va]
       rw [←hV] at hE hQl
       clear hY hla hlr hV
       have hro:=sgright_any _ x HFI.out ⟨i,sg,ag,a,p,t,st,y,va⟩ (by have h:=HSHn.out.ni;simp only at h;rw [h];exact HID.out) (by rw [HRAn.out];exact HAG.out) V32 (HKW.out.below hE.bel) (Id.SchV.below hE.bel HV.out)
       rw [Sg.rightB_yes HSHn.out.rt] at hro
       unfold Sg.Run.val Sg.Run.cells at hro
       simp only at hro
       have HRO2:=Lib.hid hro
       clear hro
       have hS:=hE.s
       have hL:=hE.r
       go_wp2_with (first | (refine wpList_load_row rfl _ _ rfl _ rfl _ _ _ _ (Sg.bk hS) Tryz.underlying28 rfl (by kernel_rfl) ?_) | (refine wpList_load_row rfl _ _ rfl _ rfl _ _ _ _ (Sg.bk hL) Tryz.underlying54 rfl (by kernel_rfl) ?_))
       refine HRO2.out.mono ?_
       rintro e W33 ⟨rfl,hb⟩
       have hE3:=hE.below hb
       have hQ3:=hQl.below hb hQl.lt
       clear hb HRO2 hS hL hE hQl
       go_upto_region 34 with (fail)
       refine wp_region_bl W33 (by kernel_rfl) (by kernel_rfl) (Bl.refl _) ?_
       repeat (first | go_big_quiet_step (fail) | (refine wpQuiet_step (fun K hK=>?_);go_simp;refine ⟨_,fun _ _=>rfl,hK _ ?_⟩;clear hK K))
       refine wpQuiet_nil ?_
       intro W34 hW
       have hE4:=hE3.below hW
       clear hE3 hQ3 hW
       go_wp2_with fail
       go_roundw
       case rel=>exact ⟨k+1,_,_,⟨i,sg,ag,a,p,t,st,y,va⟩,by omega,by go_num,rfl,rfl,HRAn,HSHn,Lib.hid hE4⟩
       case measure=>simp [intOf];omega
     ·have ht:=hck.1
      try simp only at ht
      subst ht
      have HCK:=Lib.hid hck
      have HSHn:=Lib.hid hsh
      have HRAn:Hid (m2=arg):=Lib.hid (HSM.out.trans HRA.out)
      clear hck hsh HRO HSM
      as_aux_lemma =>
       have hcl:(cl=true∧k0=1)∨(cl=false∧k0=0):=by
        cases cl with
        | true=>exact .inl ⟨rfl,(HCK.out.2.1 rfl).1⟩
        | false=>exact .inr ⟨rfl,HCK.out.2.2 rfl⟩
       rcases hcl with ⟨rfl,rfl⟩ | ⟨rfl,rfl⟩
       all_goals
        simp only [Int.cast_ofNat_Int] at hY
        have z4:=hY.q.l.cell 0
        simp only [List.getElem?_toArray,List.getElem?_cons_zero,List.getElem?_cons_succ] at z4
        go_upto_region 31 with (fail)
        clear z4
        have hla:=Sg.bk hY.q.r
        have hlr:=Sg.bk hY.ex.eb.r
        go_upto_region 32 with (first | (refine wpList_load_row rfl _ _ rfl _ rfl _ _ _ _ hla Tryz.underlying54 rfl (by kernel_rfl) ?_) | (refine wpList_store_row rfl _ _ _ rfl _ _ rfl rfl _ _ (by with_reducible assumption) (by kernel_rfl) (by rfl) (by simp [Value.oneCell']) ?_))
        refine wp_named (fun V32 hV=>?_)
        have hE:=hY.ex.eb.setR #[.string m0,.string m1,.string m2,.int .i64 m3,.int .u8 (m4:Nat),.int .i64 m5,.bool m6,.int .i64 m7,.string m8]
        have hQl:=hY.q.l.row_far (g':=gR) (by have:=hY.lt;have:=hY.ex.lt;omega) #[.string m0,.string m1,.string m2,.int .i64 m3,.int .u8 (m4:Nat),.int .i64 m5,.bool m6,.int .i64 m7,.string m8]
        rw [←hV] at hE hQl
        clear hY hla hlr hV
        have hro:=sgright_any _ x HFI.out ⟨m0,m1,m2,m3,m4,m5,m6,m7,m8⟩ (by have h:=HSHn.out.ni;simp only at h;rw [h];exact HID.out) (by rw [HRAn.out];exact HAG.out) V32 (HKW.out.below hE.bel) (Id.SchV.below hE.bel HV.out)
        rw [Sg.rightB_yes HSHn.out.rt] at hro
        unfold Sg.Run.val Sg.Run.cells at hro
        simp only at hro
        have HRO2:=Lib.hid hro
        clear hro
        have hS:=hE.s
        have hL:=hE.r
        go_wp2_with (first | (refine wpList_load_row rfl _ _ rfl _ rfl _ _ _ _ (Sg.bk hS) Tryz.underlying28 rfl (by kernel_rfl) ?_) | (refine wpList_load_row rfl _ _ rfl _ rfl _ _ _ _ (Sg.bk hL) Tryz.underlying54 rfl (by kernel_rfl) ?_))
        refine HRO2.out.mono ?_
        rintro e W33 ⟨rfl,hb⟩
        have hE3:=hE.below hb
        have hQ3:=hQl.below hb hQl.lt
        clear hb HRO2 hS hL hE hQl
       ·have hkw:k4=Sg.waits ⟨m0,m1,m2,m3,m4,m5,m6,m7,m8⟩:=(HCK.out.2.1 rfl).2
        obtain ⟨P2,HP2⟩:∃ b,Hid (decide (m4=2)=b):=⟨_,Lib.hid rfl⟩
        have hky:=fun W=>skey_any id HID.out m3 P2 W
        have HKY:Hid (Sd.keyB id m3 P2=k4):=Lib.hid (by
         rw [hkw,←HP2.out]
         have h:=HSHn.out.ni
         simp only at h
         unfold Sg.waits
         rw [h])
        simp only [HKY.out] at hky
        have hpb:((m4:Int)==2)=P2:=by rw [←HP2.out,Bool.eq_iff_iff,beq_iff_eq,decide_eq_true_eq];omega
        clear hkw
        go_upto_region 34 with (fail)
        have dR3:=fun (w':World) (hb:Bl W33 w')=>(hE3.r.below hb hE3.r.lt).cell 3
        have dR4:=fun (w':World) (hb:Bl W33 w')=>(hE3.r.below hb hE3.r.lt).cell 4
        have dL4:=fun (w':World) (hb:Bl W33 w')=>(hQ3.below hb hQ3.lt).cell 4
        simp only [List.getElem?_toArray,List.getElem?_cons_zero,List.getElem?_cons_succ] at dR3 dR4 dL4
        have hKy:=fun (w':World) (hb:Bl W33 w')=>calls_bl hb (hky w')
        refine wp_region_bl W33 (by kernel_rfl) (by kernel_rfl) (Bl.refl _) ?_
        repeat (first | go_big_quiet_step ((intro hb;(go_at_call 29;exact hKy _ hb))) | (refine wpQuiet_step (fun K hK=>?_);rw [if_pos (by rfl)];refine Lst.load_cell _ _ rfl _ rfl _ (by assumption) _ Tryz.underlying9 rfl ?_;go_simp;refine hK _ ?_;clear hK K) | (refine wpQuiet_step (fun K hK=>?_);rw [if_pos (by rfl)];refine Lst.load_cell _ _ rfl _ rfl _ (by assumption) _ Tryz.underlying3 rfl ?_;go_simp;refine hK _ ?_;clear hK K) | (refine wpQuiet_step (fun K hK=>?_);rw [if_pos (by rfl)];refine Lst.load_cell _ _ rfl _ rfl _ (by assumption) _ Tryz.underlying5 rfl ?_;go_simp;refine hK _ ?_;clear hK K) | (refine wpQuiet_step (fun K hK=>?_);go_simp;refine ⟨_,fun _ _=>rfl,hK _ ?_⟩;clear hK K))
        refine wpQuiet_nil ?_
        intro W34 hW
        have hE4:=hE3.below hW
        clear hE3 hQ3 dR3 dR4 dL4 hKy hky hpb hW
        go_wp2_with fail
        go_roundw
        case rel=>exact ⟨k+1,_,_,⟨m0,m1,m2,m3,m4,m5,m6,m7,m8⟩,by omega,by go_num,rfl,rfl,HRAn,HSHn,Lib.hid hE4⟩
        case measure=>simp [intOf];omega
       ·go_upto_region 34 with (fail)
        refine wp_region_bl W33 (by kernel_rfl) (by kernel_rfl) (Bl.refl _) ?_
        repeat (first | go_big_quiet_step (fail) | (refine wpQuiet_step (fun K hK=>?_);go_simp;refine ⟨_,fun _ _=>rfl,hK _ ?_⟩;clear hK K))
        refine wpQuiet_nil ?_
        intro W34 hW
        have hE4:=hE3.below hW
        clear hE3 hQ3 hW
        go_wp2_with fail
        go_roundw
        case rel=>exact ⟨k+1,_,_,⟨m0,m1,m2,m3,m4,m5,m6,m7,m8⟩,by omega,by go_num,rfl,rfl,HRAn,HSHn,Lib.hid hE4⟩
        case measure=>simp [intOf];omega
    ·have HCK:=Lib.hid hck
     have HRAn:Hid (m2=arg):=Lib.hid (HSM.out.2.2.trans HRA.out)
     try simp only at ht
     subst ht
     have y8:=hY.ex.l.cell 8
     simp only [List.getElem?_toArray,List.getElem?_cons_zero,List.getElem?_cons_succ] at y8
     have HHZ:=Lib.hid hz
     have HHN:=Lib.hid hnz
     clear hck hz hnz HRO HSM
     by_cases hc:l8=0
     case neg =>
      have HSHn:=Lib.hid (HHN.out hc)
      have hcb:((l8:Int)==0)=false:=by rw [beq_eq_false_iff_ne];exact hc
      clear hc HHZ HHN
      go_upto_region 29 with (fail)
      clear y8 hcb
      as_aux_lemma =>
       have hcl:(cl=true∧k0=1)∨(cl=false∧k0=0):=by
        cases cl with
        | true=>exact .inl ⟨rfl,(HCK.out.2.1 rfl).1⟩
        | false=>exact .inr ⟨rfl,HCK.out.2.2 rfl⟩
       rcases hcl with ⟨rfl,rfl⟩ | ⟨rfl,rfl⟩
       all_goals
        simp only [Int.cast_ofNat_Int] at hY
        have z4:=hY.q.l.cell 0
        simp only [List.getElem?_toArray,List.getElem?_cons_zero,List.getElem?_cons_succ] at z4
        go_upto_region 31 with (fail)
        clear z4
        have hla:=Sg.bk hY.q.r
        have hlr:=Sg.bk hY.ex.eb.r
        go_upto_region 32 with (first | (refine wpList_load_row rfl _ _ rfl _ rfl _ _ _ _ hla Tryz.underlying54 rfl (by kernel_rfl) ?_) | (refine wpList_store_row rfl _ _ _ rfl _ _ rfl rfl _ _ (by with_reducible assumption) (by kernel_rfl) (by rfl) (by simp [Value.oneCell']) ?_))
        refine wp_named (fun V32 hV=>?_)
        have hE:=hY.ex.eb.setR #[.string m0,.string m1,.string m2,.int .i64 m3,.int .u8 (m4:Nat),.int .i64 m5,.bool m6,.int .i64 m7,.string m8]
        have hQl:=hY.q.l.row_far (g':=gR) (by have:=hY.lt;have:=hY.ex.lt;omega) #[.string m0,.string m1,.string m2,.int .i64 m3,.int .u8 (m4:Nat),.int .i64 m5,.bool m6,.int .i64 m7,.string m8]
        rw [←hV] at hE hQl
        clear hY hla hlr hV
        have hro:=sgright_any _ x HFI.out ⟨m0,m1,m2,m3,m4,m5,m6,m7,m8⟩ (by have h:=HSHn.out.ni;simp only at h;rw [h];exact HID.out) (by rw [HRAn.out];exact HAG.out) V32 (HKW.out.below hE.bel) (Id.SchV.below hE.bel HV.out)
        rw [Sg.rightB_yes HSHn.out.rt] at hro
        unfold Sg.Run.val Sg.Run.cells at hro
        simp only at hro
        have HRO2:=Lib.hid hro
        clear hro
        have hS:=hE.s
        have hL:=hE.r
        go_wp2_with (first | (refine wpList_load_row rfl _ _ rfl _ rfl _ _ _ _ (Sg.bk hS) Tryz.underlying28 rfl (by kernel_rfl) ?_) | (refine wpList_load_row rfl _ _ rfl _ rfl _ _ _ _ (Sg.bk hL) Tryz.underlying54 rfl (by kernel_rfl) ?_))
        refine HRO2.out.mono ?_
        rintro e W33 ⟨rfl,hb⟩
        have hE3:=hE.below hb
        have hQ3:=hQl.below hb hQl.lt
        clear hb HRO2 hS hL hE hQl
       ·have hkw:k4=Sg.waits ⟨m0,m1,m2,m3,m4,m5,m6,m7,m8⟩:=(HCK.out.2.1 rfl).2
        obtain ⟨P2,HP2⟩:∃ b,Hid (decide (m4=2)=b):=⟨_,Lib.hid rfl⟩
        have hky:=fun W=>skey_any id HID.out m3 P2 W
        have HKY:Hid (Sd.keyB id m3 P2=k4):=Lib.hid (by
         rw [hkw,←HP2.out]
         have h:=HSHn.out.ni
         simp only at h
         unfold Sg.waits
         rw [h])
        simp only [HKY.out] at hky
        have hpb:((m4:Int)==2)=P2:=by rw [←HP2.out,Bool.eq_iff_iff,beq_iff_eq,decide_eq_true_eq];omega
        clear hkw
        go_upto_region 34 with (fail)
        have dR3:=fun (w':World) (hb:Bl W33 w')=>(hE3.r.below hb hE3.r.lt).cell 3
        have dR4:=fun (w':World) (hb:Bl W33 w')=>(hE3.r.below hb hE3.r.lt).cell 4
        have dL4:=fun (w':World) (hb:Bl W33 w')=>(hQ3.below hb hQ3.lt).cell 4
        simp only [List.getElem?_toArray,List.getElem?_cons_zero,List.getElem?_cons_succ] at dR3 dR4 dL4
        have hKy:=fun (w':World) (hb:Bl W33 w')=>calls_bl hb (hky w')
        refine wp_region_bl W33 (by kernel_rfl) (by kernel_rfl) (Bl.refl _) ?_
        repeat (first | go_big_quiet_step ((intro hb;(go_at_call 29;exact hKy _ hb))) | (refine wpQuiet_step (fun K hK=>?_);rw [if_pos (by rfl)];refine Lst.load_cell _ _ rfl _ rfl _ (by assumption) _ Tryz.underlying9 rfl ?_;go_simp;refine hK _ ?_;clear hK K) | (refine wpQuiet_step (fun K hK=>?_);rw [if_pos (by rfl)];refine Lst.load_cell _ _ rfl _ rfl _ (by assumption) _ Tryz.underlying3 rfl ?_;go_simp;refine hK _ ?_;clear hK K) | (refine wpQuiet_step (fun K hK=>?_);rw [if_pos (by rfl)];refine Lst.load_cell _ _ rfl _ rfl _ (by assumption) _ Tryz.underlying5 rfl ?_;go_simp;refine hK _ ?_;clear hK K) | (refine wpQuiet_step (fun K hK=>?_);go_simp;refine ⟨_,fun _ _=>rfl,hK _ ?_⟩;clear hK K))
        refine wpQuiet_nil ?_
        intro W34 hW
        have hE4:=hE3.below hW
        clear hE3 hQ3 dR3 dR4 dL4 hKy hky hpb hW
        go_wp2_with fail
        go_roundw
        case rel=>exact ⟨k+1,_,_,⟨m0,m1,m2,m3,m4,m5,m6,m7,m8⟩,by omega,by go_num,rfl,rfl,HRAn,HSHn,Lib.hid hE4⟩
        case measure=>simp [intOf];omega
       ·go_upto_region 34 with (fail)
        refine wp_region_bl W33 (by kernel_rfl) (by kernel_rfl) (Bl.refl _) ?_
        repeat (first | go_big_quiet_step (fail) | (refine wpQuiet_step (fun K hK=>?_);go_simp;refine ⟨_,fun _ _=>rfl,hK _ ?_⟩;clear hK K))
        refine wpQuiet_nil ?_
        intro W34 hW
        have hE4:=hE3.below hW
        clear hE3 hQ3 hW
        go_wp2_with fail
        go_roundw
        case rel=>exact ⟨k+1,_,_,⟨m0,m1,m2,m3,m4,m5,m6,m7,m8⟩,by omega,by go_num,rfl,rfl,HRAn,HSHn,Lib.hid hE4⟩
        case measure=>simp [intOf];omega
     have hcb:((l8:Int)==0)=true:=by rw [beq_iff_eq];exact hc
     have x3:=hY.ex.eb.r.cell 3
     have x4:=hY.ex.eb.r.cell 4
     simp only [List.getElem?_toArray,List.getElem?_cons_zero,List.getElem?_cons_succ] at x3 x4
     have hbd:=HSH.out.bounds HNI.out
     have hns:=HNS.out
     rcases HHZ.out hc with ⟨e1,e2,hsh⟩ | ⟨e1,e2,hsh⟩
     ·have HSHn:=Lib.hid hsh
      try simp only at e1 e2
      subst e1
      subst e2
      have x4:_=some (Value.int .u8 1):=x4
      have wD:IntKind.i64.wrap (a+1)=a+1:=by rw [IntKind.wrap_i64];omega
      clear hc HHZ HHN hsh hbd hns
      go_upto_region 29 with (fail)
      clear y8 hcb x3 x4 wD
      as_aux_lemma =>
       have hcl:(cl=true∧k0=1)∨(cl=false∧k0=0):=by
        cases cl with
        | true=>exact .inl ⟨rfl,(HCK.out.2.1 rfl).1⟩
        | false=>exact .inr ⟨rfl,HCK.out.2.2 rfl⟩
       rcases hcl with ⟨rfl,rfl⟩ | ⟨rfl,rfl⟩
       all_goals
        simp only [Int.cast_ofNat_Int] at hY
        have z4:=hY.q.l.cell 0
        simp only [List.getElem?_toArray,List.getElem?_cons_zero,List.getElem?_cons_succ] at z4
        go_upto_region 31 with (fail)
        clear z4
        have hla:=Sg.bk hY.q.r
        have hlr:=Sg.bk hY.ex.eb.r
        go_upto_region 32 with (first | (refine wpList_load_row rfl _ _ rfl _ rfl _ _ _ _ hla Tryz.underlying54 rfl (by kernel_rfl) ?_) | (refine wpList_store_row rfl _ _ _ rfl _ _ rfl rfl _ _ (by with_reducible assumption) (by kernel_rfl) (by rfl) (by simp [Value.oneCell']) ?_))
        refine wp_named (fun V32 hV=>?_)
        have hE:=hY.ex.eb.setR #[.string m0,.string m1,.string m2,.int .i64 m3,.int .u8 (m4:Nat),.int .i64 m5,.bool m6,.int .i64 m7,.string m8]
        have hQl:=hY.q.l.row_far (g':=gR) (by have:=hY.lt;have:=hY.ex.lt;omega) #[.string m0,.string m1,.string m2,.int .i64 m3,.int .u8 (m4:Nat),.int .i64 m5,.bool m6,.int .i64 m7,.string m8]
        rw [←hV] at hE hQl
        clear hY hla hlr hV
        have hro:=sgright_any _ x HFI.out ⟨m0,m1,m2,m3,m4,m5,m6,m7,m8⟩ (by have h:=HSHn.out.ni;simp only at h;rw [h];exact HID.out) (by rw [HRAn.out];exact HAG.out) V32 (HKW.out.below hE.bel) (Id.SchV.below hE.bel HV.out)
        rw [Sg.rightB_yes HSHn.out.rt] at hro
        unfold Sg.Run.val Sg.Run.cells at hro
        simp only at hro
        have HRO2:=Lib.hid hro
        clear hro
        have hS:=hE.s
        have hL:=hE.r
        go_wp2_with (first | (refine wpList_load_row rfl _ _ rfl _ rfl _ _ _ _ (Sg.bk hS) Tryz.underlying28 rfl (by kernel_rfl) ?_) | (refine wpList_load_row rfl _ _ rfl _ rfl _ _ _ _ (Sg.bk hL) Tryz.underlying54 rfl (by kernel_rfl) ?_))
        refine HRO2.out.mono ?_
        rintro e W33 ⟨rfl,hb⟩
        have hE3:=hE.below hb
        have hQ3:=hQl.below hb hQl.lt
        clear hb HRO2 hS hL hE hQl
       ·have hkw:k4=Sg.waits ⟨m0,m1,m2,m3,m4,m5,m6,m7,m8⟩:=(HCK.out.2.1 rfl).2
        obtain ⟨P2,HP2⟩:∃ b,Hid (decide (m4=2)=b):=⟨_,Lib.hid rfl⟩
        have hky:=fun W=>skey_any id HID.out m3 P2 W
        have HKY:Hid (Sd.keyB id m3 P2=k4):=Lib.hid (by
         rw [hkw,←HP2.out]
         have h:=HSHn.out.ni
         simp only at h
         unfold Sg.waits
         rw [h])
        simp only [HKY.out] at hky
        have hpb:((m4:Int)==2)=P2:=by rw [←HP2.out,Bool.eq_iff_iff,beq_iff_eq,decide_eq_true_eq];omega
        clear hkw
        go_upto_region 34 with (fail)
        have dR3:=fun (w':World) (hb:Bl W33 w')=>(hE3.r.below hb hE3.r.lt).cell 3
        have dR4:=fun (w':World) (hb:Bl W33 w')=>(hE3.r.below hb hE3.r.lt).cell 4
        have dL4:=fun (w':World) (hb:Bl W33 w')=>(hQ3.below hb hQ3.lt).cell 4
        simp only [List.getElem?_toArray,List.getElem?_cons_zero,List.getElem?_cons_succ] at dR3 dR4 dL4
        have hKy:=fun (w':World) (hb:Bl W33 w')=>calls_bl hb (hky w')
        refine wp_region_bl W33 (by kernel_rfl) (by kernel_rfl) (Bl.refl _) ?_
        repeat (first | go_big_quiet_step ((intro hb;(go_at_call 29;exact hKy _ hb))) | (refine wpQuiet_step (fun K hK=>?_);rw [if_pos (by rfl)];refine Lst.load_cell _ _ rfl _ rfl _ (by assumption) _ Tryz.underlying9 rfl ?_;go_simp;refine hK _ ?_;clear hK K) | (refine wpQuiet_step (fun K hK=>?_);rw [if_pos (by rfl)];refine Lst.load_cell _ _ rfl _ rfl _ (by assumption) _ Tryz.underlying3 rfl ?_;go_simp;refine hK _ ?_;clear hK K) | (refine wpQuiet_step (fun K hK=>?_);rw [if_pos (by rfl)];refine Lst.load_cell _ _ rfl _ rfl _ (by assumption) _ Tryz.underlying5 rfl ?_;go_simp;refine hK _ ?_;clear hK K) | (refine wpQuiet_step (fun K hK=>?_);go_simp;refine ⟨_,fun _ _=>rfl,hK _ ?_⟩;clear hK K))
        refine wpQuiet_nil ?_
        intro W34 hW
        have hE4:=hE3.below hW
        clear hE3 hQ3 dR3 dR4 dL4 hKy hky hpb hW
        go_wp2_with fail
        go_roundw
        case rel=>exact ⟨k+1,_,_,⟨m0,m1,m2,m3,m4,m5,m6,m7,m8⟩,by omega,by go_num,rfl,rfl,HRAn,HSHn,Lib.hid hE4⟩
        case measure=>simp [intOf];omega
       ·go_upto_region 34 with (fail)
        refine wp_region_bl W33 (by kernel_rfl) (by kernel_rfl) (Bl.refl _) ?_
        repeat (first | go_big_quiet_step (fail) | (refine wpQuiet_step (fun K hK=>?_);go_simp;refine ⟨_,fun _ _=>rfl,hK _ ?_⟩;clear hK K))
        refine wpQuiet_nil ?_
        intro W34 hW
        have hE4:=hE3.below hW
        clear hE3 hQ3 hW
        go_wp2_with fail
        go_roundw
        case rel=>exact ⟨k+1,_,_,⟨m0,m1,m2,m3,m4,m5,m6,m7,m8⟩,by omega,by go_num,rfl,rfl,HRAn,HSHn,Lib.hid hE4⟩
        case measure=>simp [intOf];omega
     ·have HSHn:=Lib.hid hsh
      try simp only at e1 e2
      subst e1
      have x4:_=some (Value.int .u8 2):=x4
      have wD:IntKind.i64.wrap (D - 1)=D - 1:=by rw [IntKind.wrap_i64];omega
      have wE:IntKind.i64.wrap (D - 1 - U)=D - 1 - U:=by rw [IntKind.wrap_i64];omega
      have wU:IntKind.i64.wrap (U+1)=U+1:=by rw [IntKind.wrap_i64];omega
      have eab:((a:Int)==D - 1 - U)=true:=by rw [beq_iff_eq];exact e2
      clear hc HHZ HHN hsh hbd hns e2
      go_upto_region 29 with (fail)
      clear y8 hcb x3 x4 wD wE wU eab
      as_aux_lemma =>
       have hcl:(cl=true∧k0=1)∨(cl=false∧k0=0):=by
        cases cl with
        | true=>exact .inl ⟨rfl,(HCK.out.2.1 rfl).1⟩
        | false=>exact .inr ⟨rfl,HCK.out.2.2 rfl⟩
       rcases hcl with ⟨rfl,rfl⟩ | ⟨rfl,rfl⟩
       all_goals
        simp only [Int.cast_ofNat_Int] at hY
        have z4:=hY.q.l.cell 0
        simp only [List.getElem?_toArray,List.getElem?_cons_zero,List.getElem?_cons_succ] at z4
        go_upto_region 31 with (fail)
        clear z4
        have hla:=Sg.bk hY.q.r
        have hlr:=Sg.bk hY.ex.eb.r
        go_upto_region 32 with (first | (refine wpList_load_row rfl _ _ rfl _ rfl _ _ _ _ hla Tryz.underlying54 rfl (by kernel_rfl) ?_) | (refine wpList_store_row rfl _ _ _ rfl _ _ rfl rfl _ _ (by with_reducible assumption) (by kernel_rfl) (by rfl) (by simp [Value.oneCell']) ?_))
        refine wp_named (fun V32 hV=>?_)
        have hE:=hY.ex.eb.setR #[.string m0,.string m1,.string m2,.int .i64 m3,.int .u8 (m4:Nat),.int .i64 m5,.bool m6,.int .i64 m7,.string m8]
        have hQl:=hY.q.l.row_far (g':=gR) (by have:=hY.lt;have:=hY.ex.lt;omega) #[.string m0,.string m1,.string m2,.int .i64 m3,.int .u8 (m4:Nat),.int .i64 m5,.bool m6,.int .i64 m7,.string m8]
        rw [←hV] at hE hQl
        clear hY hla hlr hV
        have hro:=sgright_any _ x HFI.out ⟨m0,m1,m2,m3,m4,m5,m6,m7,m8⟩ (by have h:=HSHn.out.ni;simp only at h;rw [h];exact HID.out) (by rw [HRAn.out];exact HAG.out) V32 (HKW.out.below hE.bel) (Id.SchV.below hE.bel HV.out)
        rw [Sg.rightB_yes HSHn.out.rt] at hro
        unfold Sg.Run.val Sg.Run.cells at hro
        simp only at hro
        have HRO2:=Lib.hid hro
        clear hro
        have hS:=hE.s
        have hL:=hE.r
        go_wp2_with (first | (refine wpList_load_row rfl _ _ rfl _ rfl _ _ _ _ (Sg.bk hS) Tryz.underlying28 rfl (by kernel_rfl) ?_) | (refine wpList_load_row rfl _ _ rfl _ rfl _ _ _ _ (Sg.bk hL) Tryz.underlying54 rfl (by kernel_rfl) ?_))
        refine HRO2.out.mono ?_
        rintro e W33 ⟨rfl,hb⟩
        have hE3:=hE.below hb
        have hQ3:=hQl.below hb hQl.lt
        clear hb HRO2 hS hL hE hQl
       ·have hkw:k4=Sg.waits ⟨m0,m1,m2,m3,m4,m5,m6,m7,m8⟩:=(HCK.out.2.1 rfl).2
        obtain ⟨P2,HP2⟩:∃ b,Hid (decide (m4=2)=b):=⟨_,Lib.hid rfl⟩
        have hky:=fun W=>skey_any id HID.out m3 P2 W
        have HKY:Hid (Sd.keyB id m3 P2=k4):=Lib.hid (by
         rw [hkw,←HP2.out]
         have h:=HSHn.out.ni
         simp only at h
         unfold Sg.waits
         rw [h])
        simp only [HKY.out] at hky
        have hpb:((m4:Int)==2)=P2:=by rw [←HP2.out,Bool.eq_iff_iff,beq_iff_eq,decide_eq_true_eq];omega
        clear hkw
        go_upto_region 34 with (fail)
        have dR3:=fun (w':World) (hb:Bl W33 w')=>(hE3.r.below hb hE3.r.lt).cell 3
        have dR4:=fun (w':World) (hb:Bl W33 w')=>(hE3.r.below hb hE3.r.lt).cell 4
        have dL4:=fun (w':World) (hb:Bl W33 w')=>(hQ3.below hb hQ3.lt).cell 4
        simp only [List.getElem?_toArray,List.getElem?_cons_zero,List.getElem?_cons_succ] at dR3 dR4 dL4
        have hKy:=fun (w':World) (hb:Bl W33 w')=>calls_bl hb (hky w')
        refine wp_region_bl W33 (by kernel_rfl) (by kernel_rfl) (Bl.refl _) ?_
        repeat (first | go_big_quiet_step ((intro hb;(go_at_call 29;exact hKy _ hb))) | (refine wpQuiet_step (fun K hK=>?_);rw [if_pos (by rfl)];refine Lst.load_cell _ _ rfl _ rfl _ (by assumption) _ Tryz.underlying9 rfl ?_;go_simp;refine hK _ ?_;clear hK K) | (refine wpQuiet_step (fun K hK=>?_);rw [if_pos (by rfl)];refine Lst.load_cell _ _ rfl _ rfl _ (by assumption) _ Tryz.underlying3 rfl ?_;go_simp;refine hK _ ?_;clear hK K) | (refine wpQuiet_step (fun K hK=>?_);rw [if_pos (by rfl)];refine Lst.load_cell _ _ rfl _ rfl _ (by assumption) _ Tryz.underlying5 rfl ?_;go_simp;refine hK _ ?_;clear hK K) | (refine wpQuiet_step (fun K hK=>?_);go_simp;refine ⟨_,fun _ _=>rfl,hK _ ?_⟩;clear hK K))
        refine wpQuiet_nil ?_
        intro W34 hW
        have hE4:=hE3.below hW
        clear hE3 hQ3 dR3 dR4 dL4 hKy hky hpb hW
        go_wp2_with fail
        go_roundw
        case rel=>exact ⟨k+1,_,_,⟨m0,m1,m2,m3,m4,m5,m6,m7,m8⟩,by omega,by go_num,rfl,rfl,HRAn,HSHn,Lib.hid hE4⟩
        case measure=>simp [intOf];omega
       ·go_upto_region 34 with (fail)
        refine wp_region_bl W33 (by kernel_rfl) (by kernel_rfl) (Bl.refl _) ?_
        repeat (first | go_big_quiet_step (fail) | (refine wpQuiet_step (fun K hK=>?_);go_simp;refine ⟨_,fun _ _=>rfl,hK _ ?_⟩;clear hK K))
        refine wpQuiet_nil ?_
        intro W34 hW
        have hE4:=hE3.below hW
        clear hE3 hQ3 hW
        go_wp2_with fail
        go_roundw
        case rel=>exact ⟨k+1,_,_,⟨m0,m1,m2,m3,m4,m5,m6,m7,m8⟩,by omega,by go_num,rfl,rfl,HRAn,HSHn,Lib.hid hE4⟩
        case measure=>simp [intOf];omega
end Go.Proofs.YtogijkhenihaaaaGreatDoor
