/- saga: Stop; redresslaw25: letter. No condition but the keywords' table and the ones the theorems state. -/
import Derived.Test.YtogijkhenihaaaaGreatDoorGE30
import Derived.Test.YtogijkhenihaaaaGreatDoorGE26
import Derived.Test.YtogijkhenihaaaaGreatDoorGE17
set_option linter.unusedVariables false
set_option linter.unusedSimpArgs false
namespace Go.Proofs.YtogijkhenihaaaaGreatDoor
open Go.RowKit Go.BigFrame
namespace Sg
open Go.Proofs.YtogijkhenihaaaaGreatDoor.Id Go.Proofs.YtogijkhenihaaaaGreatDoor.Chk Go.Proofs.YtogijkhenihaaaaGreatDoor.Ev Go.Proofs.YtogijkhenihaaaaGreatDoor.Sd
open Classical in
theorem stop_of (x:Sch) (r:Run) (fr:Int):stopR argE x r fr=if rightB x r=false∨fr<0∨4≤fr then (Run.zero,Letter.zero,1)
  else if r.phase≠1 then (Run.zero,Letter.zero,202)
  else if r.stop=true then (Run.zero,Letter.zero,5)
  else ({ r with stop:=true },(cancel x r.saga r.id r.at_ fr).1,(cancel x r.saga r.id r.at_ fr).2):=by
 unfold stopR rightB
 by_cases h:Rt argE x r
 ·simp [h]
 ·simp [h]
theorem Bx.start2 (w:World) (S R:Array Value):Bx w ((((w.alloc (.cells S 28)).alloc (.cells R 54)).alloc (.cells zrun 54)).alloc (.cells #[.int .u8 0,.int .i64 0,.int .i64 0,.int .u64 0,.string ⟨#[]⟩,.int .u64 0,.string ⟨#[]⟩,.string ⟨#[]⟩,.int .i64 0,.string ⟨#[]⟩] 56)) S R ∧
  Two ((((w.alloc (.cells S 28)).alloc (.cells R 54)).alloc (.cells zrun 54)).alloc (.cells #[.int .u8 0,.int .i64 0,.int .i64 0,.int .u64 0,.string ⟨#[]⟩,.int .u64 0,.string ⟨#[]⟩,.string ⟨#[]⟩,.int .i64 0,.string ⟨#[]⟩] 56)) (w.heap.size+2) (w.heap.size+3) zrun #[.int .u8 0,.int .i64 0,.int .i64 0,.int .u64 0,.string ⟨#[]⟩,.int .u64 0,.string ⟨#[]⟩,.string ⟨#[]⟩,.int .i64 0,.string ⟨#[]⟩]:=by
 have h:=Bx.start w S R
 have k:((w.alloc (.cells S 28)).alloc (.cells R 54)).heap.size=w.heap.size+2:=by simp only [World.size_alloc]
 generalize (w.alloc (.cells S 28)).alloc (.cells R 54)=V at *
 have b1:=(Below.refl V.heap.size V).alloc (Nat.le_refl _) (.cells zrun 54)
 have r1:=Bk.new V 54 zrun
 have k1:(V.alloc (.cells zrun 54)).heap.size=w.heap.size+3:=by rw [World.size_alloc,k]
 have b2:=b1.alloc (show V.heap.size≤(V.alloc (.cells zrun 54)).heap.size by rw [k1,k];omega) (.cells #[.int .u8 0,.int .i64 0,.int .i64 0,.int .u64 0,.string ⟨#[]⟩,.int .u64 0,.string ⟨#[]⟩,.string ⟨#[]⟩,.int .i64 0,.string ⟨#[]⟩] 56)
 have l1:=Bk.new (V.alloc (.cells zrun 54)) 56 #[.int .u8 0,.int .i64 0,.int .i64 0,.int .u64 0,.string ⟨#[]⟩,.int .u64 0,.string ⟨#[]⟩,.string ⟨#[]⟩,.int .i64 0,.string ⟨#[]⟩]
 rw [k] at r1
 rw [k1] at l1
 exact ⟨h.below b2,r1.alloc _,l1,by omega⟩
end Sg
set_option maxRecDepth 100000 in
set_option maxHeartbeats 32000000 in
theorem sgstop_any (sv:Value) (x:Id.Sch) (hF:Chk.Fine x) (r:Sg.Run) (hid:r.id.size≤100000) (hag:r.arg.size≤1000000) (fr:Int) (w:World) (hk:Tk.KW w) (hv:Id.SchV w none sv x) :
  Calls Tryz.prog 28 #[sv,r.val,.int .i64 fr] w fun e w'=>e=.returned (Sg.out3V (Sg.stopR Sg.argE x r fr))∧Below w.heap.size w w':=by
 have hro:=fun W k v=>sgright_any sv x hF r hid hag W k v
 obtain ⟨R,HR⟩:∃ R,Hid (Sg.stopR Sg.argE x r fr=R):=⟨_,Lib.hid rfl⟩
 rw [HR.out]
 rw [Sg.stop_of] at HR
 obtain ⟨T,HT⟩:∃ R,Hid (Sg.rightB x r=R):=⟨_,Lib.hid rfl⟩
 rw [HT.out] at HR
 simp only [HT.out] at hro
 have HKW:=Lib.hid hk
 have HV:=Lib.hid hv
 obtain ⟨A1,n1,c1,A2,n2,c2,A3,n3,c3,rfl,-,-,-⟩:=hv
 have HF:=Lib.hid hF
 clear hk hF HT hag
 obtain ⟨i,sg,ag,a,p,t,st,y,va⟩:=r
 unfold Sg.Run.val Sg.Run.cells at hro ⊢
 simp only at hro HR hid
 have HRO:=Lib.hid hro
 clear hro
 go_enter Tryz.func28,Tryz.ntmps28
 go_upto_region 1 with (fail)
 refine wp_named (fun V hV=>?_)
 have hXQ:Sg.Bx w V #[.string x.name,.slice A1 n1 c1,.slice A2 n2 c2,.slice A3 n3 c3] #[.string i,.string sg,.string ag,.int .i64 a,.int .u8 (p:Nat),.int .i64 t,.bool st,.int .i64 y,.string va]∧Sg.Two V (w.heap.size+2) (w.heap.size+3) Sg.zrun #[.int .u8 0,.int .i64 0,.int .i64 0,.int .u64 0,.string ⟨#[]⟩,.int .u64 0,.string ⟨#[]⟩,.string ⟨#[]⟩,.int .i64 0,.string ⟨#[]⟩]:=by rw [hV];exact Sg.Bx.start2 w _ _
 clear hV
 obtain ⟨hX,hQ⟩:=hXQ
 obtain ⟨⟨q0,q1,q2,q3⟩,-⟩:=hX.s.k4
 have hL:=hX.r
 go_wp2_with (refine wpList_load_row rfl _ _ rfl _ rfl _ _ _ _ hL Tryz.underlying54 rfl (by kernel_rfl) ?_)
 refine (HRO.out _ (HKW.out.below hX.bel) (Id.SchV.below hX.bel HV.out)).mono ?_
 rintro e W1 ⟨rfl,hb⟩
 have hX2:=hX.below hb
 have hQ2:=hQ.below hb hQ.r.lt hQ.l.lt
 clear hX hb hL hQ q0 q1 q2 q3 HRO
 have hX:=hX2
 have hQ:=hQ2
 clear hX2 hQ2
 have hB:=hX.bel
 cases T with
 | false =>
  have HE:Hid (R=(Sg.Run.zero,Ev.Letter.zero,1)):=Lib.hid (by rw [←HR.out,if_pos (.inl rfl)])
  (have hq1:=hQ.r;have hq2:=(hQ.setR Sg.zrun).l;unfold Bk at hq1 hq2)
  go_wp2_with (refine wpList_store_row rfl _ _ _ rfl _ _ rfl rfl _ _ (by with_reducible assumption) (by kernel_rfl) (by rfl) (by simp [Value.oneCell']) ?_)
  (refine Sg.ret_cct rfl _ _ rfl rfl _ _ _ _ _ _ (hQ.both _ _).r (hQ.both _ _).l Tryz.underlying54 rfl (by kernel_rfl) Tryz.underlying56 rfl (by kernel_rfl) rfl ⟨?_,Sg.below_both hB (by omega) (by omega) _ _⟩)
  rw [HE.out]
  rfl
 | true =>
  by_cases h0:fr<0
  case pos =>
   have HE:Hid (R=(Sg.Run.zero,Ev.Letter.zero,1)):=Lib.hid (by rw [←HR.out,if_pos (.inr (.inl h0))])
   (have hq1:=hQ.r;have hq2:=(hQ.setR Sg.zrun).l;unfold Bk at hq1 hq2)
   go_wp2_with (refine wpList_store_row rfl _ _ _ rfl _ _ rfl rfl _ _ (by with_reducible assumption) (by kernel_rfl) (by rfl) (by simp [Value.oneCell']) ?_)
   (refine Sg.ret_cct rfl _ _ rfl rfl _ _ _ _ _ _ (hQ.both _ _).r (hQ.both _ _).l Tryz.underlying54 rfl (by kernel_rfl) Tryz.underlying56 rfl (by kernel_rfl) rfl ⟨?_,Sg.below_both hB (by omega) (by omega) _ _⟩)
   rw [HE.out]
   rfl
  by_cases h4:4≤fr
  case pos =>
   have HE:Hid (R=(Sg.Run.zero,Ev.Letter.zero,1)):=Lib.hid (by rw [←HR.out,if_pos (.inr (.inr h4))])
   (have hq1:=hQ.r;have hq2:=(hQ.setR Sg.zrun).l;unfold Bk at hq1 hq2)
   go_wp2_with (refine wpList_store_row rfl _ _ _ rfl _ _ rfl rfl _ _ (by with_reducible assumption) (by kernel_rfl) (by rfl) (by simp [Value.oneCell']) ?_)
   (refine Sg.ret_cct rfl _ _ rfl rfl _ _ _ _ _ _ (hQ.both _ _).r (hQ.both _ _).l Tryz.underlying54 rfl (by kernel_rfl) Tryz.underlying56 rfl (by kernel_rfl) rfl ⟨?_,Sg.below_both hB (by omega) (by omega) _ _⟩)
   rw [HE.out]
   rfl
  rw [if_neg (by rintro (e | e | e);cases e;exact h0 e;exact h4 e)] at HR
  have x4:=hX.r.cell 4
  have x6:=hX.r.cell 6
  simp only [List.getElem?_toArray,List.getElem?_cons_zero,List.getElem?_cons_succ] at x4 x6
  by_cases hp:p=1
  case neg =>
   have HE:Hid (R=(Sg.Run.zero,Ev.Letter.zero,202)):=Lib.hid (by rw [←HR.out,if_pos hp])
   have u1:((p:Int) != 1)=true:=by rw [bne_iff_ne];omega
   (have hq1:=hQ.r;have hq2:=(hQ.setR Sg.zrun).l;unfold Bk at hq1 hq2)
   go_wp2_with (refine wpList_store_row rfl _ _ _ rfl _ _ rfl rfl _ _ (by with_reducible assumption) (by kernel_rfl) (by rfl) (by simp [Value.oneCell']) ?_)
   (refine Sg.ret_cct rfl _ _ rfl rfl _ _ _ _ _ _ (hQ.both _ _).r (hQ.both _ _).l Tryz.underlying54 rfl (by kernel_rfl) Tryz.underlying56 rfl (by kernel_rfl) rfl ⟨?_,Sg.below_both hB (by omega) (by omega) _ _⟩)
   rw [HE.out]
   rfl
  rw [if_neg (by simp [hp])] at HR
  have u1:((p:Int) != 1)=false:=by rw [bne_eq_false_iff_eq];omega
  cases st with
  | true =>
   have HE:Hid (R=(Sg.Run.zero,Ev.Letter.zero,5)):=Lib.hid (by rw [←HR.out,if_pos rfl])
   (have hq1:=hQ.r;have hq2:=(hQ.setR Sg.zrun).l;unfold Bk at hq1 hq2)
   go_wp2_with (refine wpList_store_row rfl _ _ _ rfl _ _ rfl rfl _ _ (by with_reducible assumption) (by kernel_rfl) (by rfl) (by simp [Value.oneCell']) ?_)
   (refine Sg.ret_cct rfl _ _ rfl rfl _ _ _ _ _ _ (hQ.both _ _).r (hQ.both _ _).l Tryz.underlying54 rfl (by kernel_rfl) Tryz.underlying56 rfl (by kernel_rfl) rfl ⟨?_,Sg.below_both hB (by omega) (by omega) _ _⟩)
   rw [HE.out]
   rfl
  | false =>
   rw [if_neg (by simp)] at HR
   clear x4 x6
   obtain ⟨⟨q0,q1,q2,q3⟩,-⟩:=hX.s.k4
   have x0:=hX.r.cell 0
   have x1:=hX.r.cell 1
   have x3:=hX.r.cell 3
   have x4:=hX.r.cell 4
   have x6:=hX.r.cell 6
   simp only [List.getElem?_toArray,List.getElem?_cons_zero,List.getElem?_cons_succ] at x0 x1 x3 x4 x6
   have hco:=scancel_any _ x HF.out sg i hid a fr _ (HKW.out.below hX.bel) (Id.SchV.below hX.bel HV.out)
   obtain ⟨⟨⟨k0,k1,k2,k3,k4,k5,k6,k7,k8,k9⟩,E⟩,HG⟩:∃ G,Hid (Sd.cancel x sg i a fr=G):=⟨_,Lib.hid rfl⟩
   rw [HG.out] at HR hco
   unfold Ev.Letter.val at hco
   have HCO:=Lib.hid hco
   clear hco HG
   go_wp2_with fail
   refine HCO.out.mono ?_
   rintro e W2 ⟨rfl,hb⟩
   have hX2:=hX.below hb
   have hQ2:=hQ.below hb hQ.r.lt hQ.l.lt
   clear hX hb hQ hB q0 q1 q2 q3 HCO x0 x1 x3 x4 x6
   have hX:=hX2
   have hQ:=hQ2
   clear hX2 hQ2
   go_upto_region 8 with (fail)
   refine wp_named (fun V8 hV=>?_)
   obtain ⟨hb,hL,-⟩:=fresh_box hV
   have hX2:=hX.below hb
   have hQ2:=hQ.below hb hQ.r.lt hQ.l.lt
   have hgl:=hQ.l.lt
   clear hX hb hQ hV
   have hX:=hX2
   have hQ:=hQ2
   clear hX2 hQ2
   obtain ⟨gL,HgL⟩:∃ n,Hid (W2.heap.size=n):=⟨_,Lib.hid rfl⟩
   rw [HgL.out] at hL hgl ⊢
   have x6:=hX.r.cell 6
   have f6:=hX.r.frozen 6
   simp only [List.getElem?_toArray,List.getElem?_cons_zero,List.getElem?_cons_succ] at x6
   go_upto_region 9 with (fail)
   refine wp_named (fun V9 hV=>?_)
   have hR9:Bk V9 (w.heap.size+1) 54 #[.string i,.string sg,.string ag,.int .i64 a,.int .u8 (p:Nat),.int .i64 t,.bool true,.int .i64 y,.string va]:=by rw [hV];exact hX.r.set_ 6 _
   have hL9:Bk V9 gL 56 #[.int .u8 k0,.int .i64 k1,.int .i64 k2,.int .u64 k3,.string k4,.int .u64 k5,.string k6,.string k7,.int .i64 k8,.string k9]:=by rw [hV];exact hL.far (p:=⟨w.heap.size+1,6,none⟩) (by show gL≠w.heap.size+1;omega) _
   have hQ9:Sg.Two V9 (w.heap.size+2) (w.heap.size+3) Sg.zrun #[.int .u8 0,.int .i64 0,.int .i64 0,.int .u64 0,.string ⟨#[]⟩,.int .u64 0,.string ⟨#[]⟩,.string ⟨#[]⟩,.int .i64 0,.string ⟨#[]⟩]:=by rw [hV];exact ⟨hQ.r.far (p:=⟨w.heap.size+1,6,none⟩) (by show w.heap.size+2≠w.heap.size+1;omega) _,hQ.l.far (p:=⟨w.heap.size+1,6,none⟩) (by show w.heap.size+3≠w.heap.size+1;omega) _,hQ.ne⟩
   have hB9:Below w.heap.size w V9:=by rw [hV];exact hX.bel.setCell (p:=⟨w.heap.size+1,6,none⟩) (by show w.heap.size≤w.heap.size+1;omega) _
   clear hV hX hQ hL x6 f6
   have hd:Below V9.heap.size V9 V9.drew:=(Below.refl _ _).drew
   have hRd:=hR9.below hd hR9.lt
   have hLd:=hL9.below hd hL9.lt
   have hQ:=hQ9.below hd hQ9.r.lt hQ9.l.lt
   have hB:=hB9.trans (hd.mono hB9.size)
   clear hd hR9 hL9 hQ9 hB9
   refine wp_region_L_calm (fun w'=>Bk w' (w.heap.size+1) 54 #[.string i,.string sg,.string ag,.int .i64 a,.int .u8 (p:Nat),.int .i64 t,.bool true,.int .i64 y,.string va]∧Bk w' gL 56 #[.int .u8 k0,.int .i64 k1,.int .i64 k2,.int .u64 k3,.string k4,.int .u64 k5,.string k6,.string k7,.int .i64 k8,.string k9]) [5] (by kernel_rfl) ⟨hRd,hLd⟩ (fun hHeld=>?_)
   (refine Lst.takeM 5 0 (v:=.agg #[.string i,.string sg,.string ag,.int .i64 a,.int .u8 (p:Nat),.int .i64 t,.bool true,.int .i64 y,.string va]) rfl (by kernel_rfl) (by kernel_rfl) (by kernel_rfl) (by kernel_rfl) (by kernel_rfl) (by kernel_rfl) (fun _ _ _ h=>h) (by assumption) (by kernel_rfl) (fun w' hSw=>Sg.exec_row _ _ rfl (w.heap.size+1) rfl _ _ _ hSw.1 Tryz.underlying54 rfl (by kernel_rfl)) ?_;try simp only [Act.put,List.setIfInBounds_toArray,List.set_cons_zero,List.set_cons_succ])
   (refine Lst.takeM 5 1 (v:=.agg #[.int .u8 k0,.int .i64 k1,.int .i64 k2,.int .u64 k3,.string k4,.int .u64 k5,.string k6,.string k7,.int .i64 k8,.string k9]) rfl (by kernel_rfl) (by kernel_rfl) (by kernel_rfl) (by kernel_rfl) (by kernel_rfl) (by kernel_rfl) (fun _ _ _ h=>h) (by assumption) (by kernel_rfl) (fun w' hSw=>Sg.exec_row _ _ rfl gL rfl _ _ _ hSw.2 Tryz.underlying56 rfl (by kernel_rfl)) ?_;try simp only [Act.put,List.setIfInBounds_toArray,List.set_cons_zero,List.set_cons_succ])
   (refine wpAnyL_take0 2 (v:=?_) rfl (by kernel_rfl) (by kernel_rfl) (by kernel_rfl) (by kernel_rfl) (fun _ _ _ h=>h) (fun _=>by assumption) (by rfl) ?_ ?_;rotate_left;· (intro w;go_simp;try with_reducible rfl);try simp only [Act.put,List.setIfInBounds_toArray,List.set_cons_zero,List.set_cons_succ])
   (refine wpAnyL_step 3 (by kernel_rfl) rfl (fun K hK=>?_))
   rw [if_pos (by rfl)]
   (with_reducible refine wp_store_row 54 _ _ rfl (w.heap.size+2) #[.string i,.string sg,.string ag,.int .i64 a,.int .u8 (p:Nat),.int .i64 t,.bool true,.int .i64 y,.string va] (by kernel_rfl) (by kernel_rfl) 54 _ (Sg.bk hQ.r) (by kernel_rfl) (by kernel_rfl) (by simp [Value.oneCell']) ?_)
   (refine hK.out _ _ (fun hnn=>⟨hRd.row_far (by omega) _,hLd.row_far (by omega) _⟩) ?_;clear hK K;try simp only [Act.put,List.setIfInBounds_toArray,List.set_cons_zero,List.set_cons_succ])
   (refine wpAnyL_step 4 (by kernel_rfl) rfl (fun K hK=>?_))
   rw [if_pos (by rfl)]
   (with_reducible refine wp_store_row 56 _ _ rfl (w.heap.size+3) #[.int .u8 k0,.int .i64 k1,.int .i64 k2,.int .u64 k3,.string k4,.int .u64 k5,.string k6,.string k7,.int .i64 k8,.string k9] (by kernel_rfl) (by kernel_rfl) 56 _ (Sg.bk (hQ.setR _).l) (by kernel_rfl) (by kernel_rfl) (by simp [Value.oneCell']) ?_)
   (refine hK.out _ _ (fun hnn=>⟨(hRd.row_far (by omega) _).row_far (by omega) _,(hLd.row_far (by omega) _).row_far (by omega) _⟩) ?_;clear hK K;try simp only [Act.put,List.setIfInBounds_toArray,List.set_cons_zero,List.set_cons_succ])
   (refine wpAnyL_step 5 (by kernel_rfl) rfl (fun K hK=>?_))
   go_simp
   (refine hK.out _ _ (fun hnn=>absurd hnn (by decide)) ?_;clear hK K;try simp only [Act.put,List.setIfInBounds_toArray,List.set_cons_zero,List.set_cons_succ])
   refine wpAnyL_done (by kernel_rfl) ?_ _
   refine NoPanic.normal ?_
   go_wp2_with fail
   (refine Sg.ret_cct rfl _ _ rfl rfl _ _ _ _ _ _ (hQ.both _ _).r (hQ.both _ _).l Tryz.underlying54 rfl (by kernel_rfl) Tryz.underlying56 rfl (by kernel_rfl) rfl ⟨?_,Sg.below_both hB (by omega) (by omega) _ _⟩)
   rw [←HR.out]
   subst hp
   rfl
namespace Sg
open Go.Proofs.YtogijkhenihaaaaGreatDoor.Id Go.Proofs.YtogijkhenihaaaaGreatDoor.Chk Go.Proofs.YtogijkhenihaaaaGreatDoor.Ev Go.Proofs.YtogijkhenihaaaaGreatDoor.Sd
/-- The letter of a word. -/
def wordL (r:Run) (d code:Int) (kind:Nat) (key:ByteArray):Letter :=
 if d=0 then ⟨2,0,0,0,waits r,0,⟨#[]⟩,⟨#[]⟩,code,⟨#[]⟩⟩
 else if d=2 then ⟨4,0,0,0,keyB r.id r.at_ false,0,⟨#[]⟩,⟨#[]⟩,code,⟨#[]⟩⟩
 else ⟨kind,0,0,0,key,0,⟨#[]⟩,⟨#[]⟩,code,⟨#[]⟩⟩
structure Wb (w V:World) (R K:Array Value):Prop where
 bel:Below w.heap.size w V
 r:Bk V w.heap.size 54 R
 k:Bk V (w.heap.size+1) 67 K
 q:Bk V (w.heap.size+2) 56 #[.int .u8 0,.int .i64 0,.int .i64 0,.int .u64 0,.string ⟨#[]⟩,.int .u64 0,.string ⟨#[]⟩,.string ⟨#[]⟩,.int .i64 0,.string ⟨#[]⟩]
theorem Wb.below {w V V':World} {R K:Array Value} (h:Wb w V R K) (hb:Below V.heap.size V V'):Wb w V' R K:=⟨h.bel.trans (hb.mono h.bel.size),h.r.below hb h.r.lt,h.k.below hb h.k.lt,h.q.below hb h.q.lt⟩
theorem Wb.start (w:World) (R K:Array Value):Wb w (((w.alloc (.cells R 54)).alloc (.cells K 67)).alloc (.cells #[.int .u8 0,.int .i64 0,.int .i64 0,.int .u64 0,.string ⟨#[]⟩,.int .u64 0,.string ⟨#[]⟩,.string ⟨#[]⟩,.int .i64 0,.string ⟨#[]⟩] 56)) R K:=by
 have h1:=Bk.new (w.alloc (.cells R 54)) 67 K
 have h2:=Bk.new ((w.alloc (.cells R 54)).alloc (.cells K 67)) 56 #[.int .u8 0,.int .i64 0,.int .i64 0,.int .u64 0,.string ⟨#[]⟩,.int .u64 0,.string ⟨#[]⟩,.string ⟨#[]⟩,.int .i64 0,.string ⟨#[]⟩]
 simp only [World.size_alloc] at h1 h2
 exact ⟨(((Below.refl _ _).alloc (Nat.le_refl _) _).alloc (by simp) _).alloc (by simp;omega) _,((Bk.new w _ _).alloc _).alloc _,h1.alloc _,h2⟩
end Sg
set_option maxRecDepth 100000 in
set_option maxHeartbeats 16000000 in
theorem sgletter_any (r:Sg.Run) (hid:r.id.size≤100000) (d code:Int) (kind:Nat) (key:ByteArray) (w:World) :
  Calls Tryz.prog 26 #[r.val,.agg #[.int .i64 d,.int .i64 code,.int .u8 (kind:Nat),.string key]] w fun e w'=>e=.returned (Sg.wordL r d code kind key).val∧Below w.heap.size w w':=by
 obtain ⟨R,HR⟩:∃ R,Hid (Sg.wordL r d code kind key=R):=⟨_,Lib.hid rfl⟩
 rw [HR.out]
 unfold Sg.wordL at HR
 obtain ⟨i,sg,ag,a,p,t,st,y,va⟩:=r
 simp only at HR hid
 obtain ⟨P2,HP2⟩:∃ k,Hid (decide (p=2)=k):=⟨_,Lib.hid rfl⟩
 have hky:=fun W=>skey_any i hid a P2 W
 have hkf:=fun W=>skey_any i hid a false W
 obtain ⟨KB,HKB⟩:∃ k,Hid (Sd.keyB i a P2=k):=⟨_,Lib.hid rfl⟩
 obtain ⟨KF,HKF⟩:∃ k,Hid (Sd.keyB i a false=k):=⟨_,Lib.hid rfl⟩
 have HWT:Hid (Sg.waits ⟨i,sg,ag,a,p,t,st,y,va⟩=KB):=Lib.hid (by rw [←HKB.out,←HP2.out];rfl)
 simp only [HKB.out] at hky
 simp only [HKF.out] at hkf
 rw [HWT.out,HKF.out] at HR
 have HKY:=Lib.hid hky
 have HKFC:=Lib.hid hkf
 have hpb:((p:Int)==2)=P2:=by rw [←HP2.out,Bool.eq_iff_iff,beq_iff_eq,decide_eq_true_eq];omega
 have HPB:=Lib.hid hpb
 clear hky hkf HWT HKB HKF hpb
 unfold Sg.Run.val Sg.Run.cells
 go_enter Tryz.func26,Tryz.ntmps26
 go_upto_region 1 with (fail)
 refine wp_named (fun V hV=>?_)
 have hX:Sg.Wb w V #[.string i,.string sg,.string ag,.int .i64 a,.int .u8 (p:Nat),.int .i64 t,.bool st,.int .i64 y,.string va] #[.int .i64 d,.int .i64 code,.int .u8 (kind:Nat),.string key]:=by rw [hV];exact Sg.Wb.start w _ _
 clear hV
 obtain ⟨⟨k0,k1,k2,k3⟩,-⟩:=hX.k.k4
 by_cases h0:d=0
 case pos =>
  have HE:Hid (R=⟨2,0,0,0,KB,0,⟨#[]⟩,⟨#[]⟩,code,⟨#[]⟩⟩):=Lib.hid (by rw [←HR.out,if_pos h0])
  have t0:((d:Int)==0)=true:=by rw [beq_iff_eq];exact h0
  go_upto_region 3 with (fail)
  have hd:Below V.heap.size V V.drew:=(Below.refl _ _).drew
  have hX2:=hX.below hd
  clear hX hd k0 k1 k2 k3
  have hpb:=HPB.out
  refine wp_region_L_calm (fun w'=>Sg.Wb w w' #[.string i,.string sg,.string ag,.int .i64 a,.int .u8 (p:Nat),.int .i64 t,.bool st,.int .i64 y,.string va] #[.int .i64 d,.int .i64 code,.int .u8 (kind:Nat),.string key]) [11] (by kernel_rfl) hX2 (fun hHeld=>?_)
  (refine wpAnyL_take0 0 (v:=?_) rfl (by kernel_rfl) (by kernel_rfl) (by kernel_rfl) (by kernel_rfl) (fun _ _ _ h=>h) (fun _=>by assumption) (by rfl) ?_ ?_;rotate_left;· (intro w;go_simp;try with_reducible rfl);try simp only [Act.put,List.setIfInBounds_toArray,List.set_cons_zero,List.set_cons_succ])
  (refine Lst.takeM 11 1 (v:=?_) rfl (by kernel_rfl) (by kernel_rfl) (by kernel_rfl) (by kernel_rfl) (by kernel_rfl) (by kernel_rfl) (fun _ _ _ h=>h) (by assumption) (by rfl) ?_ ?_;rotate_left;· (intro w hSw;have e0:=hSw.r.cell 0;simp only [List.getElem?_toArray,List.getElem?_cons_zero,List.getElem?_cons_succ] at e0;go_simp;try with_reducible rfl);try simp only [Act.put,List.setIfInBounds_toArray,List.set_cons_zero,List.set_cons_succ])
  (refine wpAnyL_take0 2 (v:=?_) rfl (by kernel_rfl) (by kernel_rfl) (by kernel_rfl) (by kernel_rfl) (fun _ _ _ h=>h) (fun _=>by assumption) (by rfl) ?_ ?_;rotate_left;· (intro w;go_simp;try with_reducible rfl);try simp only [Act.put,List.setIfInBounds_toArray,List.set_cons_zero,List.set_cons_succ])
  (refine Lst.takeM 11 3 (v:=?_) rfl (by kernel_rfl) (by kernel_rfl) (by kernel_rfl) (by kernel_rfl) (by kernel_rfl) (by kernel_rfl) (fun _ _ _ h=>h) (by assumption) (by rfl) ?_ ?_;rotate_left;· (intro w hSw;have e0:=hSw.r.cell 3;simp only [List.getElem?_toArray,List.getElem?_cons_zero,List.getElem?_cons_succ] at e0;go_simp;try with_reducible rfl);try simp only [Act.put,List.setIfInBounds_toArray,List.set_cons_zero,List.set_cons_succ])
  (refine wpAnyL_take0 4 (v:=?_) rfl (by kernel_rfl) (by kernel_rfl) (by kernel_rfl) (by kernel_rfl) (fun _ _ _ h=>h) (fun _=>by assumption) (by rfl) ?_ ?_;rotate_left;· (intro w;go_simp;try with_reducible rfl);try simp only [Act.put,List.setIfInBounds_toArray,List.set_cons_zero,List.set_cons_succ])
  (refine Lst.takeM 11 5 (v:=?_) rfl (by kernel_rfl) (by kernel_rfl) (by kernel_rfl) (by kernel_rfl) (by kernel_rfl) (by kernel_rfl) (fun _ _ _ h=>h) (by assumption) (by rfl) ?_ ?_;rotate_left;· (intro w hSw;have e0:=hSw.r.cell 4;simp only [List.getElem?_toArray,List.getElem?_cons_zero,List.getElem?_cons_succ] at e0;go_simp;try with_reducible rfl);try simp only [Act.put,List.setIfInBounds_toArray,List.set_cons_zero,List.set_cons_succ])
  (refine wpAnyL_take0 6 (v:=?_) rfl (by kernel_rfl) (by kernel_rfl) (by kernel_rfl) (by kernel_rfl) (fun _ _ _ h=>h) (fun _=>by assumption) (by rfl) ?_ ?_;rotate_left;· (intro w;go_simp;try with_reducible rfl);try simp only [Act.put,List.setIfInBounds_toArray,List.set_cons_zero,List.set_cons_succ])
  (refine wpAnyL_take0 8 (v:=?_) rfl (by kernel_rfl) (by kernel_rfl) (by kernel_rfl) (by kernel_rfl) (fun _ _ _ h=>h) (fun _=>by assumption) (by rfl) ?_ ?_;rotate_left;· (intro w;go_simp;try with_reducible rfl);try simp only [Act.put,List.setIfInBounds_toArray,List.set_cons_zero,List.set_cons_succ])
  (refine Lst.takeM 11 9 (v:=?_) rfl (by kernel_rfl) (by kernel_rfl) (by kernel_rfl) (by kernel_rfl) (by kernel_rfl) (by kernel_rfl) (fun _ _ _ h=>h) (by assumption) (by rfl) ?_ ?_;rotate_left;· (intro w hSw;have e0:=hSw.k.cell 1;simp only [List.getElem?_toArray,List.getElem?_cons_zero,List.getElem?_cons_succ] at e0;go_simp;try with_reducible rfl);try simp only [Act.put,List.setIfInBounds_toArray,List.set_cons_zero,List.set_cons_succ])
  (refine wpAnyL_step 7 (by kernel_rfl) rfl (fun K hK=>?_))
  go_simp
  refine (HKY.out _).mono ?_
  rintro e X ⟨rfl,hb⟩
  have hX:=hX2.below hb
  (refine hK.out _ _ (fun hnn=>hX) ?_;clear hK K;try simp only [Act.put,List.setIfInBounds_toArray,List.set_cons_zero,List.set_cons_succ])
  clear hb hX2
  (refine wpAnyL_step 10 (by kernel_rfl) rfl (fun K hK=>?_))
  go_simp
  (refine hK.out _ _ (fun hnn=>hX) ?_;clear hK K;try simp only [Act.put,List.setIfInBounds_toArray,List.set_cons_zero,List.set_cons_succ])
  (refine wpAnyL_step 11 (by kernel_rfl) rfl (fun K hK=>?_))
  rw [if_pos (by rfl)]
  (with_reducible refine wp_store_row 56 _ _ rfl (w.heap.size+2) #[.int .u8 2,.int .i64 0,.int .i64 0,.int .u64 0,.string KB,.int .u64 0,.string ⟨#[]⟩,.string ⟨#[]⟩,.int .i64 code,.string ⟨#[]⟩] (by kernel_rfl) (by kernel_rfl) 56 _ (Sg.bk hX.q) (by kernel_rfl) (by kernel_rfl) (by simp [Value.oneCell']) ?_)
  (refine hK.out _ _ (fun hnn=>absurd hnn (by decide)) ?_;clear hK K;try simp only [Act.put,List.setIfInBounds_toArray,List.set_cons_zero,List.set_cons_succ])
  refine wpAnyL_done (by kernel_rfl) ?_ _
  refine NoPanic.normal ?_
  go_wp2_with fail
  refine Sg.ret_c rfl _ rfl _ _ _ (hX.q.row _) Tryz.underlying56 rfl (by kernel_rfl) rfl ⟨?_,below_row hX.bel (by omega) _⟩
  rw [HE.out]
  rfl
 have t0:((d:Int)==0)=false:=by rw [beq_eq_false_iff_ne];exact h0
 rw [if_neg h0] at HR
 by_cases h2:d=2
 case pos =>
  have HE:Hid (R=⟨4,0,0,0,KF,0,⟨#[]⟩,⟨#[]⟩,code,⟨#[]⟩⟩):=Lib.hid (by rw [←HR.out,if_pos h2])
  have t2:((d:Int)==2)=true:=by rw [beq_iff_eq];exact h2
  go_upto_region 5 with (fail)
  have hd:Below V.heap.size V V.drew:=(Below.refl _ _).drew
  have hX2:=hX.below hd
  clear hX hd k0 k1 k2 k3
  refine wp_region_L_calm (fun w'=>Sg.Wb w w' #[.string i,.string sg,.string ag,.int .i64 a,.int .u8 (p:Nat),.int .i64 t,.bool st,.int .i64 y,.string va] #[.int .i64 d,.int .i64 code,.int .u8 (kind:Nat),.string key]) [8] (by kernel_rfl) hX2 (fun hHeld=>?_)
  (refine wpAnyL_take0 0 (v:=?_) rfl (by kernel_rfl) (by kernel_rfl) (by kernel_rfl) (by kernel_rfl) (fun _ _ _ h=>h) (fun _=>by assumption) (by rfl) ?_ ?_;rotate_left;· (intro w;go_simp;try with_reducible rfl);try simp only [Act.put,List.setIfInBounds_toArray,List.set_cons_zero,List.set_cons_succ])
  (refine Lst.takeM 8 1 (v:=?_) rfl (by kernel_rfl) (by kernel_rfl) (by kernel_rfl) (by kernel_rfl) (by kernel_rfl) (by kernel_rfl) (fun _ _ _ h=>h) (by assumption) (by rfl) ?_ ?_;rotate_left;· (intro w hSw;have e0:=hSw.r.cell 0;simp only [List.getElem?_toArray,List.getElem?_cons_zero,List.getElem?_cons_succ] at e0;go_simp;try with_reducible rfl);try simp only [Act.put,List.setIfInBounds_toArray,List.set_cons_zero,List.set_cons_succ])
  (refine wpAnyL_take0 2 (v:=?_) rfl (by kernel_rfl) (by kernel_rfl) (by kernel_rfl) (by kernel_rfl) (fun _ _ _ h=>h) (fun _=>by assumption) (by rfl) ?_ ?_;rotate_left;· (intro w;go_simp;try with_reducible rfl);try simp only [Act.put,List.setIfInBounds_toArray,List.set_cons_zero,List.set_cons_succ])
  (refine Lst.takeM 8 3 (v:=?_) rfl (by kernel_rfl) (by kernel_rfl) (by kernel_rfl) (by kernel_rfl) (by kernel_rfl) (by kernel_rfl) (fun _ _ _ h=>h) (by assumption) (by rfl) ?_ ?_;rotate_left;· (intro w hSw;have e0:=hSw.r.cell 3;simp only [List.getElem?_toArray,List.getElem?_cons_zero,List.getElem?_cons_succ] at e0;go_simp;try with_reducible rfl);try simp only [Act.put,List.setIfInBounds_toArray,List.set_cons_zero,List.set_cons_succ])
  (refine wpAnyL_take0 5 (v:=?_) rfl (by kernel_rfl) (by kernel_rfl) (by kernel_rfl) (by kernel_rfl) (fun _ _ _ h=>h) (fun _=>by assumption) (by rfl) ?_ ?_;rotate_left;· (intro w;go_simp;try with_reducible rfl);try simp only [Act.put,List.setIfInBounds_toArray,List.set_cons_zero,List.set_cons_succ])
  (refine Lst.takeM 8 6 (v:=?_) rfl (by kernel_rfl) (by kernel_rfl) (by kernel_rfl) (by kernel_rfl) (by kernel_rfl) (by kernel_rfl) (fun _ _ _ h=>h) (by assumption) (by rfl) ?_ ?_;rotate_left;· (intro w hSw;have e0:=hSw.k.cell 1;simp only [List.getElem?_toArray,List.getElem?_cons_zero,List.getElem?_cons_succ] at e0;go_simp;try with_reducible rfl);try simp only [Act.put,List.setIfInBounds_toArray,List.set_cons_zero,List.set_cons_succ])
  (refine wpAnyL_step 4 (by kernel_rfl) rfl (fun K hK=>?_))
  go_simp
  refine (HKFC.out _).mono ?_
  rintro e X ⟨rfl,hb⟩
  have hX:=hX2.below hb
  (refine hK.out _ _ (fun hnn=>hX) ?_;clear hK K;try simp only [Act.put,List.setIfInBounds_toArray,List.set_cons_zero,List.set_cons_succ])
  clear hb hX2
  (refine wpAnyL_step 7 (by kernel_rfl) rfl (fun K hK=>?_))
  go_simp
  (refine hK.out _ _ (fun hnn=>hX) ?_;clear hK K;try simp only [Act.put,List.setIfInBounds_toArray,List.set_cons_zero,List.set_cons_succ])
  (refine wpAnyL_step 8 (by kernel_rfl) rfl (fun K hK=>?_))
  rw [if_pos (by rfl)]
  (with_reducible refine wp_store_row 56 _ _ rfl (w.heap.size+2) #[.int .u8 4,.int .i64 0,.int .i64 0,.int .u64 0,.string KF,.int .u64 0,.string ⟨#[]⟩,.string ⟨#[]⟩,.int .i64 code,.string ⟨#[]⟩] (by kernel_rfl) (by kernel_rfl) 56 _ (Sg.bk hX.q) (by kernel_rfl) (by kernel_rfl) (by simp [Value.oneCell']) ?_)
  (refine hK.out _ _ (fun hnn=>absurd hnn (by decide)) ?_;clear hK K;try simp only [Act.put,List.setIfInBounds_toArray,List.set_cons_zero,List.set_cons_succ])
  refine wpAnyL_done (by kernel_rfl) ?_ _
  refine NoPanic.normal ?_
  go_wp2_with fail
  refine Sg.ret_c rfl _ rfl _ _ _ (hX.q.row _) Tryz.underlying56 rfl (by kernel_rfl) rfl ⟨?_,below_row hX.bel (by omega) _⟩
  rw [HE.out]
  rfl
 have t2:((d:Int)==2)=false:=by rw [beq_eq_false_iff_ne];exact h2
 have HE:Hid (R=⟨kind,0,0,0,key,0,⟨#[]⟩,⟨#[]⟩,code,⟨#[]⟩⟩):=Lib.hid (by rw [←HR.out,if_neg h2])
 have hQ:=hX.q
 go_wp2_with (refine wpList_store_row rfl _ _ _ rfl _ _ rfl rfl _ _ hQ (by kernel_rfl) rfl (by simp [Value.oneCell']) ?_)
 refine Sg.ret_c rfl _ rfl _ _ _ (hQ.row _) Tryz.underlying56 rfl (by kernel_rfl) rfl ⟨?_,below_row hX.bel (by omega) _⟩
 rw [HE.out]
 rfl
end Go.Proofs.YtogijkhenihaaaaGreatDoor
set_option linter.unusedVariables false
set_option linter.unusedSimpArgs false
namespace Go.Proofs.YtogijkhenihaaaaGreatDoor
namespace Sg
open Go.Proofs.YtogijkhenihaaaaGreatDoor.Id Go.Proofs.YtogijkhenihaaaaGreatDoor.Chk Go.Proofs.YtogijkhenihaaaaGreatDoor.Ev Go.Proofs.YtogijkhenihaaaaGreatDoor.Sd
def wA:ByteArray:=⟨#[97]⟩
def wG:ByteArray:=⟨#[103]⟩
def wX:ByteArray:=⟨#[1,120,10,0]⟩
theorem wk_print:∃ p:Nat,Prn.print shop=(p,0):=by
 have ht:Prn.text shop=(Prn.jn (Prn.schW shop),0):=by
  unfold Prn.text
  rw [shop_check,if_neg (show ¬((⟨#[]⟩:ByteArray),0).2≠0 by simp),if_neg (by decide +kernel)]
 exact ⟨Sm.print (Prn.jn (Prn.schW shop)).data.toList,by
  unfold Prn.print
  rw [ht,if_neg (show ¬(Prn.jn (Prn.schW shop),0).2≠0 by simp)]⟩
theorem wk_saga:sagaOf shop wG=some ⟨⟨#[103]⟩,⟨#[79]⟩,[⟨⟨#[83]⟩,⟨#[116]⟩,0⟩,⟨⟨#[83]⟩,⟨#[110]⟩,1⟩]⟩:=by kernel_rfl
theorem wk_sag:sag shop wG=⟨⟨#[103]⟩,⟨#[79]⟩,[⟨⟨#[83]⟩,⟨#[116]⟩,0⟩,⟨⟨#[83]⟩,⟨#[110]⟩,1⟩]⟩:=by
 unfold sag
 rw [wk_saga]
 rfl
section
variable {p : Nat} (hp : Prn.print shop = (p, 0))
include hp
theorem wk_found:foundE shop wG=0:=by
 unfold foundE
 rw [hp,wk_saga,if_neg (by simp)]
 rfl
theorem wk_steps:steps shop wG=(2,0):=by
 unfold steps
 rw [wk_found hp,wk_sag,if_neg (by simp)]
 rfl
theorem wk_letE {i:Int} (h0:0≤i) (h2:i<2):letE shop wG wA i 1=0:=by
 unfold letE
 rw [wk_found hp,wk_sag,if_neg (by simp),if_neg (by decide),if_neg (by show ¬(i<0∨((2:Nat):Int)≤i);omega)]
theorem wk_call0:call shop wG wA 0 false 1 wX=(⟨1,1,0,0,⟨#[97,46,48,102]⟩,p,⟨#[83]⟩,⟨#[116]⟩,0,wX⟩,0):=by
 have hst:stp shop wG 0=⟨⟨#[83]⟩,⟨#[116]⟩,0⟩:=by
  unfold stp
  rw [wk_sag]
  rfl
 have hk:keyB wA 0 false=⟨#[97,46,48,102]⟩:=by kernel_rfl
 unfold call base
 rw [wk_letE hp (by decide) (by decide),if_neg (by simp),if_pos rfl,hst,hp,hk]
theorem wk_call1:call shop wG wA 1 false 1 wX=(⟨1,1,1,0,⟨#[97,46,49,102]⟩,p,⟨#[83]⟩,⟨#[110]⟩,0,wX⟩,0):=by
 have hst:stp shop wG 1=⟨⟨#[83]⟩,⟨#[110]⟩,1⟩:=by
  unfold stp
  rw [wk_sag]
  rfl
 have hk:keyB wA 1 false=⟨#[97,46,49,102]⟩:=by kernel_rfl
 unfold call base
 rw [wk_letE hp (by decide) (by decide),if_neg (by simp),if_pos rfl,hst,hp,hk]
theorem wk_call2:call shop wG wA 0 true 1 wX=(⟨1,1,0,0,⟨#[97,46,48,99]⟩,p,⟨#[83]⟩,⟨#[117]⟩,0,wX⟩,0):=by
 have hst:stp shop wG 0=⟨⟨#[83]⟩,⟨#[116]⟩,0⟩:=by
  unfold stp
  rw [wk_sag]
  rfl
 have hb:base shop wG wA 0 1=⟨0,1,0,0,keyB wA 0 false,p,⟨#[83]⟩,⟨#[116]⟩,0,ByteArray.empty⟩:=by
  unfold base
  rw [hst,hp]
 have hu:Sd.undoOf shop ⟨0,1,0,0,keyB wA 0 false,p,⟨#[83]⟩,⟨#[116]⟩,0,ByteArray.empty⟩=⟨#[117]⟩:=by
  unfold Sd.undoOf
  show ((meth shop ⟨#[83]⟩ ⟨#[116]⟩).getD mthZ).undo=_
  kernel_rfl
 have hk:keyB wA 0 true=⟨#[97,46,48,99]⟩:=by kernel_rfl
 unfold call
 rw [wk_letE hp (by decide) (by decide),hb,hu,hk,if_neg (by simp),if_neg (by simp),if_neg (by decide +kernel)]
end
theorem wk_typ:Vl.typE shop (Vl.nmd ⟨#[79]⟩)=0:=by
 have hr:right shop (Vl.nmd ⟨#[79]⟩)=true:=by decide +kernel
 unfold Vl.typE
 rw [if_neg (by rw [shop_check];simp),if_pos hr]
theorem wk_arg:argE shop wG wX=0:=by
 have hd:Cd.decF shop wX.data.toList 12 (Vl.nmd ⟨#[79]⟩) ⟨0,[],0⟩=.ok ⟨4,[⟨7,0,⟨#[]⟩,3⟩,⟨4,0,⟨#[120]⟩,0⟩,⟨3,5,⟨#[]⟩,0⟩,⟨6,0,⟨#[]⟩,0⟩],5⟩:=by kernel_rfl
 unfold argE
 rw [wk_sag]
 unfold Cd.decP
 rw [if_neg (by rw [wk_typ];simp),hd]
 rfl
def wR0:Run:=⟨wA,wG,wX,0,1,0,false,0,⟨#[]⟩⟩
def wR1:Run:=⟨wA,wG,wX,1,1,0,false,0,⟨#[]⟩⟩
def wR2:Run:=⟨wA,wG,wX,0,2,0,false,200,⟨#[]⟩⟩
def wR3:Run:=⟨wA,wG,wX,0,4,0,false,200,⟨#[]⟩⟩
def wL (key:ByteArray) (code:Int):Letter:=⟨2,0,0,0,key,0,⟨#[]⟩,⟨#[]⟩,code,⟨#[]⟩⟩
section
variable {p : Nat} (hp : Prn.print shop = (p, 0))
include hp
theorem wk_begin:begin_ argE shop wG wA 1 wX=(wR0,⟨1,1,0,0,⟨#[97,46,48,102]⟩,p,⟨#[83]⟩,⟨#[116]⟩,0,wX⟩,0):=by
 unfold begin_
 rw [wk_call0 hp,wk_arg]
 rfl
theorem wk_rt0:Rt argE shop wR0:=(begin_ok (A:=argE) (x:=shop) (g:=wG) (id:=wA) (b:=wX) (fr:=1) (by rw [wk_begin hp])).2
theorem wk_took1:took shop wR0 1 3 (wL ⟨#[97,46,48,102]⟩ 0)=(wR1,⟨1,1,1,0,⟨#[97,46,49,102]⟩,p,⟨#[83]⟩,⟨#[110]⟩,0,wX⟩,true,true):=by
 unfold took
 rw [if_neg (by decide),if_neg (by simp [wL]),if_neg (by show ¬(0:Int)=((steps shop wG).1:Int) - 1;rw [wk_steps hp];decide)]
 unfold nextL
 show (wR1,(call shop wG wA 1 false 1 wX).1,true,true)=_
 rw [wk_call1 hp]
theorem wk_reply1:reply argE shop wR0 1 3 (wL ⟨#[97,46,48,102]⟩ 0)=(wR1,⟨1,1,1,0,⟨#[97,46,49,102]⟩,p,⟨#[83]⟩,⟨#[110]⟩,0,wX⟩,true,true):=by
 rw [reply_took (wk_rt0 hp) rfl (by decide) (by decide) rfl (by decide +kernel),wk_took1 hp]
theorem wk_rt1:Rt argE shop wR1:=by
 have h:=took_right (fr:=1) (most:=3) (l:=wL ⟨#[97,46,48,102]⟩ 0) (wk_rt0 hp) rfl
 rwa [wk_took1 hp] at h
theorem wk_took2:took shop wR1 1 3 (wL ⟨#[97,46,49,102]⟩ 200)=(wR2,⟨1,1,0,0,⟨#[97,46,48,99]⟩,p,⟨#[83]⟩,⟨#[117]⟩,0,wX⟩,true,true):=by
 unfold took
 rw [if_neg (by decide),if_pos (by simp [wL])]
 show back shop wR1 1 (if (200:Int)<0∨999<(200:Int) then 999 else 200)=_
 rw [if_neg (by decide)]
 unfold back
 rw [if_neg (by decide)]
 unfold nextL
 show (wR2,(call shop wG wA 0 true 1 wX).1,true,true)=_
 rw [wk_call2 hp]
theorem wk_reply2:reply argE shop wR1 1 3 (wL ⟨#[97,46,49,102]⟩ 200)=(wR2,⟨1,1,0,0,⟨#[97,46,48,99]⟩,p,⟨#[83]⟩,⟨#[117]⟩,0,wX⟩,true,true):=by
 rw [reply_took (wk_rt1 hp) rfl (by decide) (by decide) rfl (by decide +kernel),wk_took2 hp]
theorem wk_rt2:Rt argE shop wR2:=by
 have h:=took_right (fr:=1) (most:=3) (l:=wL ⟨#[97,46,49,102]⟩ 200) (wk_rt1 hp) rfl
 rwa [wk_took2 hp] at h
theorem wk_reply3:reply argE shop wR2 1 3 (wL ⟨#[97,46,48,99]⟩ 0)=(wR3,Letter.zero,false,true):=by
 rw [reply_took (wk_rt2 hp) rfl (by decide) (by decide) rfl (by decide +kernel)]
 unfold took
 rw [if_pos (show wR2.phase=2 from rfl),if_pos (show (wL ⟨#[97,46,48,99]⟩ 0).code=0 from rfl)]
 unfold back
 rw [if_pos (show wR2.at_=0 from rfl)]
 rfl
end
end Sg
end Go.Proofs.YtogijkhenihaaaaGreatDoor
