/- saga: a run's call, calling, quiet, back. No condition but the keywords' table and the ones the theorems state. -/
import Derived.Test.YtogijkhenihaaaaGreatDoorGE26
set_option linter.unusedVariables false
set_option linter.unusedSimpArgs false
namespace Go.Proofs.YtogijkhenihaaaaGreatDoor
open Go.RowKit Go.BigFrame
namespace Sg
open Go.Proofs.YtogijkhenihaaaaGreatDoor.Id Go.Proofs.YtogijkhenihaaaaGreatDoor.Chk Go.Proofs.YtogijkhenihaaaaGreatDoor.Ev Go.Proofs.YtogijkhenihaaaaGreatDoor.Sd
/-- A run with what it leans on, as it lies. -/
def rv (r:Run) (s0 s1 s2 s3:Value) (fr:Int):Array Value:=#[.string r.id,.string r.saga,.string r.arg,.int .i64 r.at_,.int .u8 (r.phase:Nat),.int .i64 r.tries,.bool r.stop,.int .i64 r.why,.string r.value,s0,s1,s2,s3,.int .i64 fr]
theorem part_run (r:Run) (s0 s1 s2 s3:Value) (fr:Int):∀ (j:Nat) (v:Value),r.cells.toList[j]?=some v→(rv r s0 s1 s2 s3 fr)[0+j]?=some v:=fun j v h=>by
 rw [Nat.zero_add]
 match j,h with
 | 0,h | 1,h | 2,h | 3,h | 4,h | 5,h | 6,h | 7,h | 8,h=>exact h
 | n+9,h=>cases h
theorem part_sch (r:Run) (s0 s1 s2 s3:Value) (fr:Int):∀ (j:Nat) (v:Value),(#[s0,s1,s2,s3]:Array Value).toList[j]?=some v→(rv r s0 s1 s2 s3 fr)[9+j]?=some v:=fun j v h=>by
 match j,h with
 | 0,h | 1,h | 2,h | 3,h=>exact h
 | n+4,h=>cases h
end Sg
set_option maxRecDepth 100000 in
set_option maxHeartbeats 16000000 in
theorem sgcall_any (x:Id.Sch) (hF:Chk.Fine x) (r:Sg.Run) (hid:r.id.size≤100000) (s0 s1 s2 s3:Value) (fr:Int) (w:World) (hk:Tk.KW w) (hv:Id.SchV w none (.agg #[s0,s1,s2,s3]) x) :
  Calls Tryz.prog 156 #[.agg (Sg.rv r s0 s1 s2 s3 fr)] w fun e w'=>e=.returned (Sg.nextL x r fr).val∧Below w.heap.size w w':=by
 obtain ⟨i,sg,ag,a,p,t,st,y,va⟩:=r
 obtain ⟨B,HB⟩:∃ B,Hid (decide (p=2)=B):=⟨_,Lib.hid rfl⟩
 have hco:=fun W k v=>scall_any (.agg #[s0,s1,s2,s3]) x hF sg i hid a B fr ag W k v
 obtain ⟨⟨⟨k0,k1,k2,k3,k4,k5,k6,k7,k8,k9⟩,E⟩,HG⟩:∃ G,Hid (Sd.call x sg i a B fr ag=G):=⟨_,Lib.hid rfl⟩
 have HR:Hid (Sg.nextL x ⟨i,sg,ag,a,p,t,st,y,va⟩ fr=⟨k0,k1,k2,k3,k4,k5,k6,k7,k8,k9⟩):=Lib.hid (by unfold Sg.nextL;simp only;rw [HB.out,HG.out])
 rw [HR.out]
 simp only [HG.out,Ev.Letter.val] at hco
 have HCO:=Lib.hid hco
 clear hco HR HG
 have HKW:=Lib.hid hk
 have HV:=Lib.hid hv
 clear hk hF hv
 have HPB:Hid (((p:Int)==2)=B):=Lib.hid (by rw [←HB.out,Bool.eq_iff_iff,beq_iff_eq,decide_eq_true_eq];omega)
 have hps:=Sg.part_sch ⟨i,sg,ag,a,p,t,st,y,va⟩ s0 s1 s2 s3 fr
 unfold Sg.rv at hps ⊢
 simp only at hps
 have HPS:=Lib.hid hps
 clear hps
 go_enter Tryz.func156,Tryz.ntmps156
 go_upto_region 1 with (fail)
 refine wp_named (fun V hV=>?_)
 have HX:Hid (Bk V w.heap.size 140 #[.string i,.string sg,.string ag,.int .i64 a,.int .u8 (p:Nat),.int .i64 t,.bool st,.int .i64 y,.string va,s0,s1,s2,s3,.int .i64 fr]):=Lib.hid (by subst hV;exact (Bk.new w _ _).alloc _)
 have HQ:Hid (Bk V (w.heap.size+1) 56 #[.int .u8 0,.int .i64 0,.int .i64 0,.int .u64 0,.string ⟨#[]⟩,.int .u64 0,.string ⟨#[]⟩,.string ⟨#[]⟩,.int .i64 0,.string ⟨#[]⟩]):=Lib.hid (by subst hV;have h:=Bk.new (w.alloc (.cells #[.string i,.string sg,.string ag,.int .i64 a,.int .u8 (p:Nat),.int .i64 t,.bool st,.int .i64 y,.string va,s0,s1,s2,s3,.int .i64 fr] 140)) 56 #[.int .u8 0,.int .i64 0,.int .i64 0,.int .u64 0,.string ⟨#[]⟩,.int .u64 0,.string ⟨#[]⟩,.string ⟨#[]⟩,.int .i64 0,.string ⟨#[]⟩];rw [World.size_alloc] at h;exact h)
 have HB0:Hid (Below w.heap.size w V):=Lib.hid (by subst hV;exact ((Below.refl _ _).alloc (Nat.le_refl _) _).alloc (by simp) _)
 clear hV
 have hX:=HX.out
 have x0:=hX.cell 0
 have x1:=hX.cell 1
 have x2:=hX.cell 2
 have x3:=hX.cell 3
 have x4:=hX.cell 4
 have x13:=hX.cell 13
 simp only [List.getElem?_toArray,List.getElem?_cons_zero,List.getElem?_cons_succ] at x0 x1 x2 x3 x4 x13
 have hpb:=HPB.out
 go_wp2_with (refine Sg.list_load_part rfl _ _ rfl w.heap.size 9 rfl _ _ #[s0,s1,s2,s3] _ hX HPS.out Tryz.underlying28 rfl (by kernel_rfl) ?_)
 refine (HCO.out _ (HKW.out.below HB0.out) (Id.SchV.below HB0.out HV.out)).mono ?_
 rintro e W1 ⟨rfl,hb⟩
 have HB1:=Lib.hid (HB0.out.trans (hb.mono HB0.out.size))
 have HQ1:=Lib.hid (HQ.out.below hb HQ.out.lt)
 clear hb hX x0 x1 x2 x3 x4 x13 hpb HX HQ HB0
 go_upto_region 2 with (fail)
 refine wp_named (fun V2 hV=>?_)
 obtain ⟨hbV,hL,-⟩:=fresh_box hV
 have hB:=HB1.out.trans (hbV.mono HB1.out.size)
 have hQ:=HQ1.out.below hbV HQ1.out.lt
 clear hV hbV HQ1 HB1
 go_wp2_with (first | (refine wpList_load_row rfl _ _ rfl _ rfl _ _ _ _ hL Tryz.underlying56 rfl (by kernel_rfl) ?_) | (refine wpList_store_row rfl _ _ _ rfl _ _ rfl rfl _ _ hQ (by kernel_rfl) rfl (by simp [Value.oneCell']) ?_))
 refine Sg.ret_c rfl _ rfl _ _ _ (hQ.row _) Tryz.underlying56 rfl (by kernel_rfl) rfl ⟨rfl,below_row hB (by omega) _⟩
set_option maxRecDepth 100000 in
set_option maxHeartbeats 16000000 in
theorem sgquiet_any (r:Sg.Run) (s0 s1 s2 s3:Value) (fr:Int) (w:World) :
  Calls Tryz.prog 78 #[.agg (Sg.rv r s0 s1 s2 s3 fr)] w fun e w'=>e=.returned (Sg.outV (r,Ev.Letter.zero,false,true))∧Below w.heap.size w w':=by
 obtain ⟨i,sg,ag,a,p,t,st,y,va⟩:=r
 have hps:=Sg.part_run ⟨i,sg,ag,a,p,t,st,y,va⟩ s0 s1 s2 s3 fr
 unfold Sg.rv Sg.Run.cells at hps
 unfold Sg.rv
 simp only at hps
 have HPS:=Lib.hid hps
 clear hps
 go_enter Tryz.func78,Tryz.ntmps78
 go_upto_region 1 with (fail)
 refine wp_named (fun V hV=>?_)
 have hX:Bk V w.heap.size 140 #[.string i,.string sg,.string ag,.int .i64 a,.int .u8 (p:Nat),.int .i64 t,.bool st,.int .i64 y,.string va,s0,s1,s2,s3,.int .i64 fr]:=by subst hV;exact ((Bk.new w _ _).alloc _).alloc _
 have hQ:Sg.Two V (w.heap.size+1) (w.heap.size+2) Sg.zrun #[.int .u8 0,.int .i64 0,.int .i64 0,.int .u64 0,.string ⟨#[]⟩,.int .u64 0,.string ⟨#[]⟩,.string ⟨#[]⟩,.int .i64 0,.string ⟨#[]⟩]:=by
  subst hV
  have h1:=Bk.new (w.alloc (.cells #[.string i,.string sg,.string ag,.int .i64 a,.int .u8 (p:Nat),.int .i64 t,.bool st,.int .i64 y,.string va,s0,s1,s2,s3,.int .i64 fr] 140)) 54 Sg.zrun
  have h2:=Bk.new ((w.alloc (.cells #[.string i,.string sg,.string ag,.int .i64 a,.int .u8 (p:Nat),.int .i64 t,.bool st,.int .i64 y,.string va,s0,s1,s2,s3,.int .i64 fr] 140)).alloc (.cells Sg.zrun 54)) 56 #[.int .u8 0,.int .i64 0,.int .i64 0,.int .u64 0,.string ⟨#[]⟩,.int .u64 0,.string ⟨#[]⟩,.string ⟨#[]⟩,.int .i64 0,.string ⟨#[]⟩]
  simp only [World.size_alloc] at h1 h2
  exact ⟨h1.alloc _,h2,by omega⟩
 have hB:Below w.heap.size w V:=by subst hV;exact (((Below.refl _ _).alloc (Nat.le_refl _) _).alloc (by simp) _).alloc (by simp;omega) _
 clear hV
 (have hq1:=hQ.r;have hq2:=(hQ.setR #[.string i,.string sg,.string ag,.int .i64 a,.int .u8 (p:Nat),.int .i64 t,.bool st,.int .i64 y,.string va]).l;unfold Bk at hq1 hq2)
 go_wp2_with (first | (refine Sg.list_load_part rfl _ _ rfl w.heap.size 0 rfl _ _ #[.string i,.string sg,.string ag,.int .i64 a,.int .u8 (p:Nat),.int .i64 t,.bool st,.int .i64 y,.string va] _ hX HPS.out Tryz.underlying54 rfl (by kernel_rfl) ?_) | (refine wpList_store_row rfl _ _ _ rfl _ _ rfl rfl _ _ (by with_reducible assumption) (by kernel_rfl) (by rfl) (by simp [Value.oneCell']) ?_))
 (refine Sg.ret_cctt rfl _ _ rfl rfl _ _ _ _ _ _ (hQ.both _ _).r (hQ.both _ _).l Tryz.underlying54 rfl (by kernel_rfl) Tryz.underlying56 rfl (by kernel_rfl) rfl ⟨?_,Sg.below_both hB (by omega) (by omega) _ _⟩)
 rfl
set_option maxRecDepth 100000 in
set_option maxHeartbeats 16000000 in
theorem sgcalling_any (x:Id.Sch) (hF:Chk.Fine x) (r:Sg.Run) (hid:r.id.size≤100000) (s0 s1 s2 s3:Value) (fr:Int) (w:World) (hk:Tk.KW w) (hv:Id.SchV w none (.agg #[s0,s1,s2,s3]) x) :
  Calls Tryz.prog 79 #[.agg (Sg.rv r s0 s1 s2 s3 fr)] w fun e w'=>e=.returned (Sg.outV (r,Sg.nextL x r fr,true,true))∧Below w.heap.size w w':=by
 have hco:=fun W k v=>sgcall_any x hF r hid s0 s1 s2 s3 fr W k v
 obtain ⟨⟨k0,k1,k2,k3,k4,k5,k6,k7,k8,k9⟩,HG⟩:∃ G,Hid (Sg.nextL x r fr=G):=⟨_,Lib.hid rfl⟩
 rw [HG.out]
 simp only [HG.out,Ev.Letter.val] at hco
 obtain ⟨i,sg,ag,a,p,t,st,y,va⟩:=r
 have hps:=Sg.part_run ⟨i,sg,ag,a,p,t,st,y,va⟩ s0 s1 s2 s3 fr
 unfold Sg.rv at hco
 unfold Sg.rv Sg.Run.cells at hps
 unfold Sg.rv
 simp only at hps hco
 have HPS:=Lib.hid hps
 have HCO:=Lib.hid hco
 have HKW:=Lib.hid hk
 have HV:=Lib.hid hv
 clear hk hF hv hps hco HG
 go_enter Tryz.func79,Tryz.ntmps79
 go_upto_region 1 with (fail)
 refine wp_named (fun V hV=>?_)
 have hX:Bk V w.heap.size 140 #[.string i,.string sg,.string ag,.int .i64 a,.int .u8 (p:Nat),.int .i64 t,.bool st,.int .i64 y,.string va,s0,s1,s2,s3,.int .i64 fr]:=by subst hV;exact ((Bk.new w _ _).alloc _).alloc _
 have hQ:Sg.Two V (w.heap.size+1) (w.heap.size+2) Sg.zrun #[.int .u8 0,.int .i64 0,.int .i64 0,.int .u64 0,.string ⟨#[]⟩,.int .u64 0,.string ⟨#[]⟩,.string ⟨#[]⟩,.int .i64 0,.string ⟨#[]⟩]:=by
  subst hV
  have h1:=Bk.new (w.alloc (.cells #[.string i,.string sg,.string ag,.int .i64 a,.int .u8 (p:Nat),.int .i64 t,.bool st,.int .i64 y,.string va,s0,s1,s2,s3,.int .i64 fr] 140)) 54 Sg.zrun
  have h2:=Bk.new ((w.alloc (.cells #[.string i,.string sg,.string ag,.int .i64 a,.int .u8 (p:Nat),.int .i64 t,.bool st,.int .i64 y,.string va,s0,s1,s2,s3,.int .i64 fr] 140)).alloc (.cells Sg.zrun 54)) 56 #[.int .u8 0,.int .i64 0,.int .i64 0,.int .u64 0,.string ⟨#[]⟩,.int .u64 0,.string ⟨#[]⟩,.string ⟨#[]⟩,.int .i64 0,.string ⟨#[]⟩]
  simp only [World.size_alloc] at h1 h2
  exact ⟨h1.alloc _,h2,by omega⟩
 have hB:Below w.heap.size w V:=by subst hV;exact (((Below.refl _ _).alloc (Nat.le_refl _) _).alloc (by simp) _).alloc (by simp;omega) _
 clear hV
 have hd:Below V.heap.size V V.drew:=(Below.refl _ _).drew
 have hS:=And.intro (hB.trans (hd.mono hB.size)) (And.intro (hX.below hd hX.lt) (hQ.below hd hQ.r.lt hQ.l.lt))
 clear hB hX hQ hd
 refine wp_region_L_calm (fun w'=>Below w.heap.size w w'∧Bk w' w.heap.size 140 #[.string i,.string sg,.string ag,.int .i64 a,.int .u8 (p:Nat),.int .i64 t,.bool st,.int .i64 y,.string va,s0,s1,s2,s3,.int .i64 fr]∧Sg.Two w' (w.heap.size+1) (w.heap.size+2) Sg.zrun #[.int .u8 0,.int .i64 0,.int .i64 0,.int .u64 0,.string ⟨#[]⟩,.int .u64 0,.string ⟨#[]⟩,.string ⟨#[]⟩,.int .i64 0,.string ⟨#[]⟩]) [4] (by kernel_rfl) hS (fun hHeld=>?_)
 (refine wpAnyL_take0 0 (v:=?_) rfl (by kernel_rfl) (by kernel_rfl) (by kernel_rfl) (by kernel_rfl) (fun _ _ _ h=>h) (fun _=>by assumption) (by rfl) ?_ ?_;rotate_left;· (intro w;go_simp;try with_reducible rfl);try simp only [Act.put,List.setIfInBounds_toArray,List.set_cons_zero,List.set_cons_succ])
 (refine Lst.takeM 4 1 (v:=.agg #[.string i,.string sg,.string ag,.int .i64 a,.int .u8 (p:Nat),.int .i64 t,.bool st,.int .i64 y,.string va]) rfl (by kernel_rfl) (by kernel_rfl) (by kernel_rfl) (by kernel_rfl) (by kernel_rfl) (by kernel_rfl) (fun _ _ _ h=>h) (by assumption) (by kernel_rfl) (fun w' hSw=>Sg.exec_part _ _ rfl w.heap.size 0 rfl _ _ _ _ hSw.2.1 HPS.out Tryz.underlying54 rfl (by kernel_rfl)) ?_;try simp only [Act.put,List.setIfInBounds_toArray,List.set_cons_zero,List.set_cons_succ])
 (refine Lst.takeM 4 2 (v:=.agg #[.string i,.string sg,.string ag,.int .i64 a,.int .u8 (p:Nat),.int .i64 t,.bool st,.int .i64 y,.string va,s0,s1,s2,s3,.int .i64 fr]) rfl (by kernel_rfl) (by kernel_rfl) (by kernel_rfl) (by kernel_rfl) (by kernel_rfl) (by kernel_rfl) (fun _ _ _ h=>h) (by assumption) (by kernel_rfl) (fun w' hSw=>Sg.exec_row _ _ rfl w.heap.size rfl _ _ _ hSw.2.1 Tryz.underlying140 rfl (by kernel_rfl)) ?_;try simp only [Act.put,List.setIfInBounds_toArray,List.set_cons_zero,List.set_cons_succ])
 (refine wpAnyL_step 3 (by kernel_rfl) rfl (fun K hK=>?_))
 go_simp
 refine (HCO.out _ (HKW.out.below hS.1) (Id.SchV.below hS.1 HV.out)).mono ?_
 rintro e X ⟨rfl,hb⟩
 have hS2:=And.intro (hS.1.trans (hb.mono hS.1.size)) (And.intro (hS.2.1.below hb hS.2.1.lt) (hS.2.2.below hb hS.2.2.r.lt hS.2.2.l.lt))
 (refine hK.out _ _ (fun hnn=>hS2) ?_;clear hK K;try simp only [Act.put,List.setIfInBounds_toArray,List.set_cons_zero,List.set_cons_succ])
 have hB:=hS2.1
 have hQ:=hS2.2.2
 (refine wpAnyL_step 4 (by kernel_rfl) rfl (fun K hK=>?_))
 rw [if_pos (by rfl)]
 (with_reducible refine wp_store_row 54 _ _ rfl (w.heap.size+1) #[.string i,.string sg,.string ag,.int .i64 a,.int .u8 (p:Nat),.int .i64 t,.bool st,.int .i64 y,.string va] (by kernel_rfl) (by kernel_rfl) 54 _ (Sg.bk hQ.r) (by kernel_rfl) (by kernel_rfl) (by simp [Value.oneCell']) ?_)
 (refine hK.out _ _ (fun hnn=>absurd hnn (by decide)) ?_;clear hK K;try simp only [Act.put,List.setIfInBounds_toArray,List.set_cons_zero,List.set_cons_succ])
 (refine wpAnyL_step 5 (by kernel_rfl) rfl (fun K hK=>?_))
 rw [if_pos (by rfl)]
 (with_reducible refine wp_store_row 56 _ _ rfl (w.heap.size+2) #[.int .u8 k0,.int .i64 k1,.int .i64 k2,.int .u64 k3,.string k4,.int .u64 k5,.string k6,.string k7,.int .i64 k8,.string k9] (by kernel_rfl) (by kernel_rfl) 56 _ (Sg.bk (hQ.setR _).l) (by kernel_rfl) (by kernel_rfl) (by simp [Value.oneCell']) ?_)
 (refine hK.out _ _ (fun hnn=>absurd hnn (by decide)) ?_;clear hK K;try simp only [Act.put,List.setIfInBounds_toArray,List.set_cons_zero,List.set_cons_succ])
 (refine wpAnyL_step 6 (by kernel_rfl) rfl (fun K hK=>?_))
 go_simp
 (refine hK.out _ _ (fun hnn=>absurd hnn (by decide)) ?_;clear hK K;try simp only [Act.put,List.setIfInBounds_toArray,List.set_cons_zero,List.set_cons_succ])
 (refine wpAnyL_step 7 (by kernel_rfl) rfl (fun K hK=>?_))
 go_simp
 (refine hK.out _ _ (fun hnn=>absurd hnn (by decide)) ?_;clear hK K;try simp only [Act.put,List.setIfInBounds_toArray,List.set_cons_zero,List.set_cons_succ])
 refine wpAnyL_done (by kernel_rfl) ?_ _
 refine NoPanic.normal ?_
 go_wp2_with fail
 (refine Sg.ret_cctt rfl _ _ rfl rfl _ _ _ _ _ _ (hQ.both _ _).r (hQ.both _ _).l Tryz.underlying54 rfl (by kernel_rfl) Tryz.underlying56 rfl (by kernel_rfl) rfl ⟨?_,Sg.below_both hB (by omega) (by omega) _ _⟩)
 rfl
set_option maxRecDepth 100000 in
set_option maxHeartbeats 16000000 in
theorem sgback_any (x:Id.Sch) (hF:Chk.Fine x) (r:Sg.Run) (hid:r.id.size≤100000) (s0 s1 s2 s3:Value) (fr why:Int) (ha:-9223372036854775808≤r.at_ - 1∧r.at_≤9223372036854775807) (w:World) (hk:Tk.KW w) (hv:Id.SchV w none (.agg #[s0,s1,s2,s3]) x) :
  Calls Tryz.prog 77 #[.agg (Sg.rv r s0 s1 s2 s3 fr),.int .i64 why] w fun e w'=>e=.returned (Sg.outV (Sg.back x r fr why))∧Below w.heap.size w w':=by
 have HF:=Lib.hid hF
 have HKW:=Lib.hid hk
 have HV:=Lib.hid hv
 obtain ⟨i,sg,ag,a,p,t,st,y,va⟩:=r
 obtain ⟨R,HR⟩:∃ R,Hid (Sg.back x ⟨i,sg,ag,a,p,t,st,y,va⟩ fr why=R):=⟨_,Lib.hid rfl⟩
 rw [HR.out]
 unfold Sg.back at HR
 simp only at HR ha
 have HA:=Lib.hid ha
 have HID:=Lib.hid hid
 clear hk hF hv ha hid
 unfold Sg.rv
 go_enter Tryz.func77,Tryz.ntmps77
 go_upto_region 1 with (fail)
 refine wp_named (fun V hV=>?_)
 have hX:Bk V w.heap.size 140 #[.string i,.string sg,.string ag,.int .i64 a,.int .u8 (p:Nat),.int .i64 t,.bool st,.int .i64 y,.string va,s0,s1,s2,s3,.int .i64 fr]:=by subst hV;exact ((Bk.new w _ _).alloc _).alloc _
 have hQ:Sg.Two V (w.heap.size+1) (w.heap.size+2) Sg.zrun #[.int .u8 0,.int .i64 0,.int .i64 0,.int .u64 0,.string ⟨#[]⟩,.int .u64 0,.string ⟨#[]⟩,.string ⟨#[]⟩,.int .i64 0,.string ⟨#[]⟩]:=by
  subst hV
  have h1:=Bk.new (w.alloc (.cells #[.string i,.string sg,.string ag,.int .i64 a,.int .u8 (p:Nat),.int .i64 t,.bool st,.int .i64 y,.string va,s0,s1,s2,s3,.int .i64 fr] 140)) 54 Sg.zrun
  have h2:=Bk.new ((w.alloc (.cells #[.string i,.string sg,.string ag,.int .i64 a,.int .u8 (p:Nat),.int .i64 t,.bool st,.int .i64 y,.string va,s0,s1,s2,s3,.int .i64 fr] 140)).alloc (.cells Sg.zrun 54)) 56 #[.int .u8 0,.int .i64 0,.int .i64 0,.int .u64 0,.string ⟨#[]⟩,.int .u64 0,.string ⟨#[]⟩,.string ⟨#[]⟩,.int .i64 0,.string ⟨#[]⟩]
  simp only [World.size_alloc] at h1 h2
  exact ⟨h1.alloc _,h2,by omega⟩
 have hB:Below w.heap.size w V:=by subst hV;exact (((Below.refl _ _).alloc (Nat.le_refl _) _).alloc (by simp) _).alloc (by simp;omega) _
 clear hV
 have x7:=hX.cell 7
 have x6:=hX.cell 6
 have x5:=hX.cell 5
 have f7:=hX.frozen 7
 have f6:=hX.frozen 6
 have f5:=hX.frozen 5
 simp only [List.getElem?_toArray,List.getElem?_cons_zero,List.getElem?_cons_succ] at x7 x6 x5
 go_upto_region 2 with (fail)
 refine wp_named (fun V2 hV=>?_)
 have hX2:Bk V2 w.heap.size 140 #[.string i,.string sg,.string ag,.int .i64 a,.int .u8 (p:Nat),.int .i64 0,.bool false,.int .i64 why,.string va,s0,s1,s2,s3,.int .i64 fr]:=by rw [hV];exact ((hX.set_ 7 _).set_ 6 _).set_ 5 _
 have hQ2:Sg.Two V2 (w.heap.size+1) (w.heap.size+2) Sg.zrun #[.int .u8 0,.int .i64 0,.int .i64 0,.int .u64 0,.string ⟨#[]⟩,.int .u64 0,.string ⟨#[]⟩,.string ⟨#[]⟩,.int .i64 0,.string ⟨#[]⟩]:=by
  rw [hV]
  exact ⟨((hQ.r.far (p:=⟨w.heap.size,7,none⟩) (by show w.heap.size+1≠w.heap.size;omega) _).far (p:=⟨w.heap.size,6,none⟩) (by show w.heap.size+1≠w.heap.size;omega) _).far (p:=⟨w.heap.size,5,none⟩) (by show w.heap.size+1≠w.heap.size;omega) _,((hQ.l.far (p:=⟨w.heap.size,7,none⟩) (by show w.heap.size+2≠w.heap.size;omega) _).far (p:=⟨w.heap.size,6,none⟩) (by show w.heap.size+2≠w.heap.size;omega) _).far (p:=⟨w.heap.size,5,none⟩) (by show w.heap.size+2≠w.heap.size;omega) _,hQ.ne⟩
 have hB2:Below w.heap.size w V2:=by
  rw [hV]
  exact ((hB.setCell (p:=⟨w.heap.size,7,none⟩) (Nat.le_refl _) _).setCell (p:=⟨w.heap.size,6,none⟩) (Nat.le_refl _) _).setCell (p:=⟨w.heap.size,5,none⟩) (Nat.le_refl _) _
 clear hV hX hQ hB x7 x6 x5 f7 f6 f5
 have hX:=hX2
 clear hX2
 have hQ:=hQ2
 clear hQ2
 have hB:=hB2
 clear hB2
 have x3:=hX.cell 3
 have x4:=hX.cell 4
 have f3:=hX.frozen 3
 have f4:=hX.frozen 4
 simp only [List.getElem?_toArray,List.getElem?_cons_zero,List.getElem?_cons_succ] at x3 x4
 by_cases h0:a=0
 ·subst h0
  have HE:Hid (R=(⟨i,sg,ag,0,4,0,false,why,va⟩,Ev.Letter.zero,false,true)):=Lib.hid (by rw [←HR.out,if_pos rfl])
  go_upto_region 4 with (fail)
  refine wp_named (fun V3 hV=>?_)
  have hX3:Bk V3 w.heap.size 140 #[.string i,.string sg,.string ag,.int .i64 0,.int .u8 4,.int .i64 0,.bool false,.int .i64 why,.string va,s0,s1,s2,s3,.int .i64 fr]:=by rw [hV];exact hX.set_ 4 _
  have hQ3:Sg.Two V3 (w.heap.size+1) (w.heap.size+2) Sg.zrun #[.int .u8 0,.int .i64 0,.int .i64 0,.int .u64 0,.string ⟨#[]⟩,.int .u64 0,.string ⟨#[]⟩,.string ⟨#[]⟩,.int .i64 0,.string ⟨#[]⟩]:=by rw [hV];exact ⟨hQ.r.far (p:=⟨w.heap.size,4,none⟩) (by show w.heap.size+1≠w.heap.size;omega) _,hQ.l.far (p:=⟨w.heap.size,4,none⟩) (by show w.heap.size+2≠w.heap.size;omega) _,hQ.ne⟩
  have hB3:Below w.heap.size w V3:=by rw [hV];exact hB.setCell (p:=⟨w.heap.size,4,none⟩) (Nat.le_refl _) _
  clear hV hX hQ hB x3 x4 f3 f4
  have hL:=hX3
  have hqo:=Lib.hid (sgquiet_any ⟨i,sg,ag,0,4,0,false,why,va⟩ s0 s1 s2 s3 fr)
  go_wp2_with (refine wpList_load_row rfl _ _ rfl _ rfl _ _ _ _ hL Tryz.underlying140 rfl (by kernel_rfl) ?_)
  refine (hqo.out _).mono ?_
  rintro e W1 ⟨rfl,hb⟩
  have hB:=hB3.trans (hb.mono hB3.size)
  have hQ:=hQ3.below hb hQ3.r.lt hQ3.l.lt
  clear hqo hb hB3 hQ3 hL hX3
  unfold Sg.outV Sg.Run.val Sg.Run.cells Ev.Letter.zero Ev.Letter.val
  (have hq1:=hQ.r;have hq2:=(hQ.setR #[.string i,.string sg,.string ag,.int .i64 0,.int .u8 4,.int .i64 0,.bool false,.int .i64 why,.string va]).l;unfold Bk at hq1 hq2)
  go_wp2_with (refine wpList_store_row rfl _ _ _ rfl _ _ rfl rfl _ _ (by with_reducible assumption) (by kernel_rfl) (by rfl) (by simp [Value.oneCell']) ?_)
  (refine Sg.ret_cctt rfl _ _ rfl rfl _ _ _ _ _ _ (hQ.both _ _).r (hQ.both _ _).l Tryz.underlying54 rfl (by kernel_rfl) Tryz.underlying56 rfl (by kernel_rfl) rfl ⟨?_,Sg.below_both hB (by omega) (by omega) _ _⟩)
  rw [HE.out]
  rfl
 ·have HE:Hid (R=(⟨i,sg,ag,a - 1,2,0,false,why,va⟩,Sg.nextL x ⟨i,sg,ag,a - 1,2,0,false,why,va⟩ fr,true,true)):=Lib.hid (by rw [←HR.out,if_neg h0])
  have t1:((a:Int)==0)=false:=by rw [beq_eq_false_iff_ne];exact h0
  have hwr:IntKind.i64.wrap (a - 1)=a - 1:=by have:=HA.out;rw [IntKind.wrap_i64];omega
  go_upto_region 6 with (fail)
  refine wp_named (fun V3 hV=>?_)
  have hX3:Bk V3 w.heap.size 140 #[.string i,.string sg,.string ag,.int .i64 (a - 1),.int .u8 2,.int .i64 0,.bool false,.int .i64 why,.string va,s0,s1,s2,s3,.int .i64 fr]:=by rw [hV];exact (hX.set_ 4 _).set_ 3 _
  have hQ3:Sg.Two V3 (w.heap.size+1) (w.heap.size+2) Sg.zrun #[.int .u8 0,.int .i64 0,.int .i64 0,.int .u64 0,.string ⟨#[]⟩,.int .u64 0,.string ⟨#[]⟩,.string ⟨#[]⟩,.int .i64 0,.string ⟨#[]⟩]:=by rw [hV];exact ⟨(hQ.r.far (p:=⟨w.heap.size,4,none⟩) (by show w.heap.size+1≠w.heap.size;omega) _).far (p:=⟨w.heap.size,3,none⟩) (by show w.heap.size+1≠w.heap.size;omega) _,(hQ.l.far (p:=⟨w.heap.size,4,none⟩) (by show w.heap.size+2≠w.heap.size;omega) _).far (p:=⟨w.heap.size,3,none⟩) (by show w.heap.size+2≠w.heap.size;omega) _,hQ.ne⟩
  have hB3:Below w.heap.size w V3:=by rw [hV];exact (hB.setCell (p:=⟨w.heap.size,4,none⟩) (Nat.le_refl _) _).setCell (p:=⟨w.heap.size,3,none⟩) (Nat.le_refl _) _
  clear hV hX hQ hB x3 x4 f3 f4 hwr
  have hL:=hX3
  have hco:=sgcalling_any x HF.out ⟨i,sg,ag,a - 1,2,0,false,why,va⟩ HID.out s0 s1 s2 s3 fr V3 (HKW.out.below hB3) (Id.SchV.below hB3 HV.out)
  have HCO:=Lib.hid hco
  clear hco
  obtain ⟨⟨k0,k1,k2,k3,k4,k5,k6,k7,k8,k9⟩,HGG⟩:∃ G,Hid (Sg.nextL x ⟨i,sg,ag,a - 1,2,0,false,why,va⟩ fr=G):=⟨_,Lib.hid rfl⟩
  have hco:=HCO.out
  rw [HGG.out] at HE hco
  have HCO2:=Lib.hid hco
  clear hco HCO
  go_wp2_with (refine wpList_load_row rfl _ _ rfl _ rfl _ _ _ _ hL Tryz.underlying140 rfl (by kernel_rfl) ?_)
  refine HCO2.out.mono ?_
  rintro e W1 ⟨rfl,hb⟩
  have hB:=hB3.trans (hb.mono hB3.size)
  have hQ:=hQ3.below hb hQ3.r.lt hQ3.l.lt
  clear HCO2 hb hB3 hQ3 hL hX3
  unfold Sg.outV Sg.Run.val Sg.Run.cells Ev.Letter.val
  (have hq1:=hQ.r;have hq2:=(hQ.setR #[.string i,.string sg,.string ag,.int .i64 (a - 1),.int .u8 2,.int .i64 0,.bool false,.int .i64 why,.string va]).l;unfold Bk at hq1 hq2)
  go_wp2_with (refine wpList_store_row rfl _ _ _ rfl _ _ rfl rfl _ _ (by with_reducible assumption) (by kernel_rfl) (by rfl) (by simp [Value.oneCell']) ?_)
  (refine Sg.ret_cctt rfl _ _ rfl rfl _ _ _ _ _ _ (hQ.both _ _).r (hQ.both _ _).l Tryz.underlying54 rfl (by kernel_rfl) Tryz.underlying56 rfl (by kernel_rfl) rfl ⟨?_,Sg.below_both hB (by omega) (by omega) _ _⟩)
  rw [HE.out]
  rfl
end Go.Proofs.YtogijkhenihaaaaGreatDoor
