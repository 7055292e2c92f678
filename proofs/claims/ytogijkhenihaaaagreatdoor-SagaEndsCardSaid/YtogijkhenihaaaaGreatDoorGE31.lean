/- redresslaw25: Great, wakes (printed by gen_sgg.py). No condition but the keywords' table. -/
import Derived.Test.YtogijkhenihaaaaGreatDoorGE30
import Derived.Test.YtogijkhenihaaaaGreatDoorGE17
import Derived.ChangeSlices
set_option linter.unusedVariables false
set_option linter.unusedSimpArgs false
namespace Go.Proofs.YtogijkhenihaaaaGreatDoor
open Go.RowKit Go.BigFrame
namespace Sg
open Go.Proofs.YtogijkhenihaaaaGreatDoor.Id Go.Proofs.YtogijkhenihaaaaGreatDoor.Chk Go.Proofs.YtogijkhenihaaaaGreatDoor.Ev Go.Proofs.YtogijkhenihaaaaGreatDoor.Sd
structure FineR (x:Sch) (r:Run) (l:Letter):Prop where
 x:FineG x
 id:r.id.size≤5000
 sg:r.saga.size≤5000
 ag:r.arg.size≤5000
 va:r.value.size≤5000
 key:l.key.size≤5000
 body:l.body.size≤5000
structure Gb (w V:World) (S R L:Array Value):Prop where
 bel:Below w.heap.size w V
 s:Bk V w.heap.size 28 S
 r:Bk V (w.heap.size+1) 54 R
 l:Bk V (w.heap.size+2) 56 L
theorem Gb.below {w V V':World} {S R L:Array Value} (h:Gb w V S R L) (hb:Below V.heap.size V V'):Gb w V' S R L:=⟨h.bel.trans (hb.mono h.bel.size),h.s.below hb h.s.lt,h.r.below hb h.r.lt,h.l.below hb h.l.lt⟩
theorem Gb.start (w:World) (S R L:Array Value):Gb w (((w.alloc (.cells S 28)).alloc (.cells R 54)).alloc (.cells L 56)) S R L:=by
 have h1:=Bk.new (w.alloc (.cells S 28)) 54 R
 have h2:=Bk.new ((w.alloc (.cells S 28)).alloc (.cells R 54)) 56 L
 simp only [World.size_alloc] at h1 h2
 exact ⟨(((Below.refl _ _).alloc (Nat.le_refl _) _).alloc (by simp) _).alloc (by simp;omega) _,((Bk.new w _ _).alloc _).alloc _,h1.alloc _,h2⟩
theorem Two.fresh (W:World):Two ((W.alloc (.cells zrun 54)).alloc (.cells #[.int .u8 0,.int .i64 0,.int .i64 0,.int .u64 0,.string ⟨#[]⟩,.int .u64 0,.string ⟨#[]⟩,.string ⟨#[]⟩,.int .i64 0,.string ⟨#[]⟩] 56)) W.heap.size (W.heap.size+1) zrun #[.int .u8 0,.int .i64 0,.int .i64 0,.int .u64 0,.string ⟨#[]⟩,.int .u64 0,.string ⟨#[]⟩,.string ⟨#[]⟩,.int .i64 0,.string ⟨#[]⟩]∧Below W.heap.size W ((W.alloc (.cells zrun 54)).alloc (.cells #[.int .u8 0,.int .i64 0,.int .i64 0,.int .u64 0,.string ⟨#[]⟩,.int .u64 0,.string ⟨#[]⟩,.string ⟨#[]⟩,.int .i64 0,.string ⟨#[]⟩] 56)):=by
 have h2:=Bk.new (W.alloc (.cells zrun 54)) 56 #[.int .u8 0,.int .i64 0,.int .i64 0,.int .u64 0,.string ⟨#[]⟩,.int .u64 0,.string ⟨#[]⟩,.string ⟨#[]⟩,.int .i64 0,.string ⟨#[]⟩]
 rw [World.size_alloc] at h2
 exact ⟨⟨(Bk.new W _ _).alloc _,h2,by omega⟩,((Below.refl _ _).alloc (Nat.le_refl _) _).alloc (by simp) _⟩
end Sg
set_option maxRecDepth 100000 in
set_option maxHeartbeats 16000000 in
theorem sggreat_any (sv:Value) (x:Id.Sch) (r:Sg.Run) (l:Ev.Letter) (w:World) (hv:Id.SchV w none sv x) :
  Calls Tryz.prog 20 #[sv,r.val,l.val] w (Chk.GreatP w (Sg.FineR x r l)):=by
 have HV:=Lib.hid hv
 obtain ⟨A1,n1,c1,A2,n2,c2,A3,n3,c3,rfl,-,-,-⟩:=hv
 obtain ⟨i,sg,ag,a,p,t,st,y,va⟩:=r
 obtain ⟨l0,l1,l2,l3,l4,l5,l6,l7,l8,l9⟩:=l
 unfold Sg.Run.val Sg.Run.cells Ev.Letter.val
 go_enter Tryz.func20,Tryz.ntmps20
 go_upto_region 1 with (fail)
 refine wp_named (fun V hV=>?_)
 have hX:Sg.Gb w V #[.string x.name,.slice A1 n1 c1,.slice A2 n2 c2,.slice A3 n3 c3] #[.string i,.string sg,.string ag,.int .i64 a,.int .u8 (p:Nat),.int .i64 t,.bool st,.int .i64 y,.string va] #[.int .u8 l0,.int .i64 l1,.int .i64 l2,.int .u64 l3,.string l4,.int .u64 l5,.string l6,.string l7,.int .i64 l8,.string l9]:=by rw [hV];exact Sg.Gb.start w _ _ _
 clear hV
 obtain ⟨⟨q0,q1,q2,q3⟩,-⟩:=hX.s.k4
 go_wp2_with fail
 refine (cgreat_any _ x _ (Id.SchV.below hX.bel HV.out)).mono ?_
 rintro e W1 ⟨gb,rfl,hb,hf⟩
 have hX2:=hX.below hb
 clear hX hb q0 q1 q2 q3
 have hX:=hX2
 clear hX2
 cases gb with
 | true =>
  go_wp2_with fail
  go_ret
  exact ⟨true,rfl,hX.bel,fun h=>by cases h⟩
 | false =>
  have HFG:=Lib.hid (hf rfl)
  clear hf
  have x0:=hX.r.cell 0
  have x1:=hX.r.cell 1
  have x2:=hX.r.cell 2
  have x8:=hX.r.cell 8
  have y4:=hX.l.cell 4
  have y9:=hX.l.cell 9
  simp only [List.getElem?_toArray,List.getElem?_cons_zero,List.getElem?_cons_succ] at x0 x1 x2 x8 y4 y9
  by_cases hc0:(5000:Int)<(i.size:Int)
  case pos =>
   go_wp2_with fail
   go_ret
   exact ⟨true,rfl,hX.bel,fun h=>by cases h⟩
  by_cases hc1:(5000:Int)<(sg.size:Int)
  case pos =>
   go_wp2_with fail
   go_ret
   exact ⟨true,rfl,hX.bel,fun h=>by cases h⟩
  by_cases hc2:(5000:Int)<(ag.size:Int)
  case pos =>
   go_wp2_with fail
   go_ret
   exact ⟨true,rfl,hX.bel,fun h=>by cases h⟩
  by_cases hc3:(5000:Int)<(va.size:Int)
  case pos =>
   go_wp2_with fail
   go_ret
   exact ⟨true,rfl,hX.bel,fun h=>by cases h⟩
  by_cases hc4:(5000:Int)<(l4.size:Int)
  case pos =>
   go_wp2_with fail
   go_ret
   exact ⟨true,rfl,hX.bel,fun h=>by cases h⟩
  by_cases hc5:(5000:Int)<(l9.size:Int)
  case pos =>
   go_wp2_with fail
   go_ret
   exact ⟨true,rfl,hX.bel,fun h=>by cases h⟩
  go_wp2_with fail
  go_ret
  exact ⟨_,rfl,hX.bel,fun _=>⟨HFG.out,by show i.size≤5000;omega,by show sg.size≤5000;omega,by show ag.size≤5000;omega,by show va.size≤5000;omega,by show l4.size≤5000;omega,by show l9.size≤5000;omega⟩⟩
namespace Sg
/-- The boxes of wakes: the shop's, a run's, a letter's. -/
structure Wk (w1 V:World) (g:Nat) (S R L:Array Value):Prop where
 bel:Below w1.heap.size w1 V
 s:Bk V w1.heap.size 28 S
 q:Two V g (g+1) R L
 lt:w1.heap.size<g
theorem Wk.below {w1 V V':World} {g:Nat} {S R L:Array Value} (h:Wk w1 V g S R L) (hb:Below V.heap.size V V'):Wk w1 V' g S R L:=⟨h.bel.trans (hb.mono h.bel.size),h.s.below hb h.s.lt,h.q.below hb h.q.r.lt h.q.l.lt,h.lt⟩
theorem Wk.both {w1 V:World} {g:Nat} {S R L:Array Value} (h:Wk w1 V g S R L) (c c':Array Value):Wk w1 ((V.setRow g c).setRow (g+1) c') g S c c':=by
 have hlt:=h.lt
 exact ⟨below_both h.bel (by omega) (by omega) _ _,(h.s.row_far (by omega) _).row_far (by omega) _,h.q.both _ _,hlt⟩
theorem Wk.setR {w1 V:World} {g:Nat} {S R L:Array Value} (h:Wk w1 V g S R L) (c:Array Value):Wk w1 (V.setRow g c) g S c L:=by
 have hlt:=h.lt
 exact ⟨below_row h.bel (by omega) _,h.s.row_far (by omega) _,h.q.setR _,hlt⟩
end Sg
set_option maxRecDepth 100000 in
set_option maxHeartbeats 32000000 in
theorem wakes25_any (w:World) (hk:Tk.KW w):Calls Tryz.prog 21 #[] w fun e w'=>e=.returned (.bool true)∧Below w.heap.size w w':=by
 have HK:=Lib.hid hk
 clear hk
 obtain ⟨p,hp⟩:=Sg.wk_print
 have HP:=Lib.hid hp
 clear hp
 have hFS:Chk.Fine Chk.shop:=Chk.shop_fine _ (by decide)
 have HF:=Lib.hid hFS
 clear hFS
 go_enter Tryz.func21,Tryz.ntmps21
 go_wp2_with fail
 refine (shop_any _).mono ?_
 rintro e w1 ⟨v,rfl,hb1,hsv⟩
 have HB1:=Lib.hid hb1
 have HS1:=Lib.hid (Id.SchV.weak (Id.wk_none _) hsv:Id.SchV w1 none v Chk.shop)
 have HK1:=Lib.hid (HK.out.below hb1)
 clear hb1 hsv HK
 obtain ⟨A1,n1,c1,A2,n2,c2,A3,n3,c3,rfl,-⟩:=HS1.out
 go_upto_region 2 with (fail)
 refine wp_named (fun V hV=>?_)
 obtain ⟨hb,hqS,-⟩:=fresh_box hV
 clear hV
 obtain ⟨⟨q0,q1,q2,q3⟩,-⟩:=hqS.k4
 have h:=sgbegin_any _ Chk.shop HF.out Sg.wG Sg.wA (by decide) 1 Sg.wX (by decide) V (HK1.out.below hb) (Id.SchV.below hb HS1.out)
 rw [Sg.wk_begin HP.out] at h
 unfold Sg.out3V Sg.wR0 Sg.wG Sg.wA Sg.wX Sg.Run.val Sg.Run.cells Ev.Letter.val at h
 simp only [Int.cast_ofNat_Int] at h
 have HC:=Lib.hid h
 clear h
 go_wp2_with fail
 refine HC.out.mono ?_
 rintro e w2 ⟨rfl,hb2⟩
 have HB2:=Lib.hid (hb.trans (hb2.mono hb.size))
 have HQS:=Lib.hid (hqS.below hb2 hqS.lt)
 clear hb hb2 HC hqS q0 q1 q2 q3
 have hFr:=Sg.Two.fresh w2
 have hQ:=hFr.1
 (have hq1:=hQ.r;have hq2:=(hQ.setR #[.string ⟨#[97]⟩,.string ⟨#[103]⟩,.string ⟨#[1,120,10,0]⟩,.int .i64 0,.int .u8 1,.int .i64 0,.bool false,.int .i64 0,.string ⟨#[]⟩]).l;unfold Bk at hq1 hq2)
 go_upto_region 3 with (refine wpList_store_row rfl _ _ _ rfl _ _ rfl rfl _ _ (by with_reducible assumption) (by kernel_rfl) (by rfl) (by simp [Value.oneCell']) ?_)
 refine wp_named (fun V3 hV=>?_)
 obtain ⟨g,Hg⟩:∃ n,Hid (w2.heap.size=n):=⟨_,Lib.hid rfl⟩
 have hX:Sg.Wk w1 V3 g #[.string Chk.shop.name,.slice A1 n1 c1,.slice A2 n2 c2,.slice A3 n3 c3] #[.string ⟨#[97]⟩,.string ⟨#[103]⟩,.string ⟨#[1,120,10,0]⟩,.int .i64 0,.int .u8 1,.int .i64 0,.bool false,.int .i64 0,.string ⟨#[]⟩] #[.int .u8 1,.int .i64 1,.int .i64 0,.int .u64 0,.string ⟨#[97,46,48,102]⟩,.int .u64 (p:Nat),.string ⟨#[83]⟩,.string ⟨#[116]⟩,.int .i64 0,.string ⟨#[1,120,10,0]⟩]:=by
  have hb:Below w2.heap.size w2 V3:=by rw [hV];exact Sg.below_both hFr.2 (Nat.le_refl _) (by omega) _ _
  have hlt:=HQS.out.lt
  rw [←Hg.out]
  exact ⟨HB2.out.trans (hb.mono HB2.out.size),HQS.out.below hb hlt,by rw [hV];exact hQ.both _ _,hlt⟩
 clear hV hq1 hq2 hQ hFr HB2 HQS
 rw [Hg.out]
 have y4:=hX.q.l.cell 4
 have y7:=hX.q.l.cell 7
 simp only [List.getElem?_toArray,List.getElem?_cons_zero,List.getElem?_cons_succ] at y4 y7
 have hL:=hX.q.r
 have hS:=hX.s
 have hRo:=sgright_any _ Chk.shop HF.out Sg.wR0 (by decide) (by decide) V3 (HK1.out.below hX.bel) (Id.SchV.below hX.bel HS1.out)
 rw [Sg.rightB_yes (Sg.wk_rt0 HP.out)] at hRo
 unfold Sg.wR0 Sg.wG Sg.wA Sg.wX Sg.Run.val Sg.Run.cells at hRo
 simp only [Int.cast_ofNat_Int] at hRo
 have HC:=Lib.hid hRo
 clear hRo
 go_wp2_with (first | (refine Sg.list_load_rowG (by kernel_rfl) _ _ rfl _ rfl _ _ _ hS Tryz.underlying28 rfl (by kernel_rfl) ?_) | (refine Sg.list_load_rowG (by kernel_rfl) _ _ rfl _ rfl _ _ _ hL Tryz.underlying54 rfl (by kernel_rfl) ?_))
 refine HC.out.mono ?_
 rintro e w5 ⟨rfl,hb⟩
 have hX2:=hX.below hb
 clear hX hb hL hS HC y4 y7
 have hX:=hX2
 clear hX2
 have hL:=hX.q.r
 have hS:=hX.s
 have h:=sgreply_any _ Chk.shop HF.out Sg.wR0 (by decide) (by decide) 1 3 (Sg.wL ⟨#[97,46,48,102]⟩ 0) w5 (HK1.out.below hX.bel) (Id.SchV.below hX.bel HS1.out)
 rw [Sg.wk_reply1 HP.out] at h
 unfold Sg.outV Sg.wR0 Sg.wR1 Sg.wL Sg.wG Sg.wA Sg.wX Sg.Run.val Sg.Run.cells Ev.Letter.val at h
 simp only [Int.cast_ofNat_Int] at h
 have HC:=Lib.hid h
 clear h
 go_wp2_with (first | (refine wpList_load_row rfl _ _ rfl _ rfl _ _ _ _ (Sg.bk hS) Tryz.underlying28 rfl (by kernel_rfl) ?_) | (refine wpList_load_row rfl _ _ rfl _ rfl _ _ _ _ (Sg.bk hL) Tryz.underlying54 rfl (by kernel_rfl) ?_))
 refine HC.out.mono ?_
 rintro e w6 ⟨rfl,hb⟩
 have hX2:=hX.below hb
 clear hX hb hL hS HC
 have hX:=hX2
 clear hX2
 have hQ:=hX.q
 (have hq1:=hQ.r;have hq2:=(hQ.setR #[.string ⟨#[97]⟩,.string ⟨#[103]⟩,.string ⟨#[1,120,10,0]⟩,.int .i64 1,.int .u8 1,.int .i64 0,.bool false,.int .i64 0,.string ⟨#[]⟩]).l;unfold Bk at hq1 hq2)
 go_upto_region 6 with (refine wpList_store_row rfl _ _ _ rfl _ _ rfl rfl _ _ (by with_reducible assumption) (by kernel_rfl) (by rfl) (by simp [Value.oneCell']) ?_)
 refine wp_named (fun V6 hV=>?_)
 have hX2:=hX.both #[.string ⟨#[97]⟩,.string ⟨#[103]⟩,.string ⟨#[1,120,10,0]⟩,.int .i64 1,.int .u8 1,.int .i64 0,.bool false,.int .i64 0,.string ⟨#[]⟩] #[.int .u8 1,.int .i64 1,.int .i64 1,.int .u64 0,.string ⟨#[97,46,49,102]⟩,.int .u64 (p:Nat),.string ⟨#[83]⟩,.string ⟨#[110]⟩,.int .i64 0,.string ⟨#[1,120,10,0]⟩]
 rw [←hV] at hX2
 clear hX hQ hq1 hq2 hV
 have hX:=hX2
 clear hX2
 have x3:=hX.q.r.cell 3
 have y4:=hX.q.l.cell 4
 simp only [List.getElem?_toArray,List.getElem?_cons_zero,List.getElem?_cons_succ] at x3 y4
 go_upto_region 8 with (fail)
 clear x3 y4
 have hL:=hX.q.r
 have hS:=hX.s
 have h:=sgreply_any _ Chk.shop HF.out Sg.wR1 (by decide) (by decide) 1 3 (Sg.wL ⟨#[97,46,49,102]⟩ 200) V6 (HK1.out.below hX.bel) (Id.SchV.below hX.bel HS1.out)
 rw [Sg.wk_reply2 HP.out] at h
 unfold Sg.outV Sg.wR1 Sg.wR2 Sg.wL Sg.wG Sg.wA Sg.wX Sg.Run.val Sg.Run.cells Ev.Letter.val at h
 simp only [Int.cast_ofNat_Int] at h
 have HC:=Lib.hid h
 clear h
 go_wp2_with (first | (refine wpList_load_row rfl _ _ rfl _ rfl _ _ _ _ (Sg.bk hS) Tryz.underlying28 rfl (by kernel_rfl) ?_) | (refine wpList_load_row rfl _ _ rfl _ rfl _ _ _ _ (Sg.bk hL) Tryz.underlying54 rfl (by kernel_rfl) ?_))
 refine HC.out.mono ?_
 rintro e w8 ⟨rfl,hb⟩
 have hX2:=hX.below hb
 clear hX hb hL hS HC
 have hX:=hX2
 clear hX2
 have hQ:=hX.q
 (have hq1:=hQ.r;have hq2:=(hQ.setR #[.string ⟨#[97]⟩,.string ⟨#[103]⟩,.string ⟨#[1,120,10,0]⟩,.int .i64 0,.int .u8 2,.int .i64 0,.bool false,.int .i64 200,.string ⟨#[]⟩]).l;unfold Bk at hq1 hq2)
 go_upto_region 9 with (refine wpList_store_row rfl _ _ _ rfl _ _ rfl rfl _ _ (by with_reducible assumption) (by kernel_rfl) (by rfl) (by simp [Value.oneCell']) ?_)
 refine wp_named (fun V9 hV=>?_)
 have hX2:=hX.both #[.string ⟨#[97]⟩,.string ⟨#[103]⟩,.string ⟨#[1,120,10,0]⟩,.int .i64 0,.int .u8 2,.int .i64 0,.bool false,.int .i64 200,.string ⟨#[]⟩] #[.int .u8 1,.int .i64 1,.int .i64 0,.int .u64 0,.string ⟨#[97,46,48,99]⟩,.int .u64 (p:Nat),.string ⟨#[83]⟩,.string ⟨#[117]⟩,.int .i64 0,.string ⟨#[1,120,10,0]⟩]
 rw [←hV] at hX2
 clear hX hQ hq1 hq2 hV
 have hX:=hX2
 clear hX2
 have x4:=hX.q.r.cell 4
 have y4:=hX.q.l.cell 4
 have y7:=hX.q.l.cell 7
 simp only [List.getElem?_toArray,List.getElem?_cons_zero,List.getElem?_cons_succ] at x4 y4 y7
 go_upto_region 11 with (fail)
 clear x4 y4 y7
 have hL:=hX.q.r
 have hS:=hX.s
 have h:=sgreply_any _ Chk.shop HF.out Sg.wR2 (by decide) (by decide) 1 3 (Sg.wL ⟨#[97,46,48,99]⟩ 0) V9 (HK1.out.below hX.bel) (Id.SchV.below hX.bel HS1.out)
 rw [Sg.wk_reply3 HP.out] at h
 unfold Sg.outV Sg.wR2 Sg.wR3 Sg.wL Sg.wG Sg.wA Sg.wX Sg.Run.val Sg.Run.cells Ev.Letter.zero Ev.Letter.val at h
 simp only [Int.cast_ofNat_Int] at h
 have HC:=Lib.hid h
 clear h
 go_wp2_with (first | (refine wpList_load_row rfl _ _ rfl _ rfl _ _ _ _ (Sg.bk hS) Tryz.underlying28 rfl (by kernel_rfl) ?_) | (refine wpList_load_row rfl _ _ rfl _ rfl _ _ _ _ (Sg.bk hL) Tryz.underlying54 rfl (by kernel_rfl) ?_))
 refine HC.out.mono ?_
 rintro e w11 ⟨rfl,hb⟩
 have hX2:=hX.below hb
 clear hX hb hL hS HC
 have hX:=hX2
 clear hX2
 have hQ:=hX.q
 (have hq1:=hQ.r;have hq2:=(hQ.setR #[.string ⟨#[97]⟩,.string ⟨#[103]⟩,.string ⟨#[1,120,10,0]⟩,.int .i64 0,.int .u8 4,.int .i64 0,.bool false,.int .i64 200,.string ⟨#[]⟩]).l;unfold Bk at hq1 hq2)
 go_upto_region 12 with (refine wpList_store_row rfl _ _ _ rfl _ _ rfl rfl _ _ (by with_reducible assumption) (by kernel_rfl) (by rfl) (by simp [Value.oneCell']) ?_)
 refine wp_named (fun V12 hV=>?_)
 have hX2:=hX.setR #[.string ⟨#[97]⟩,.string ⟨#[103]⟩,.string ⟨#[1,120,10,0]⟩,.int .i64 0,.int .u8 4,.int .i64 0,.bool false,.int .i64 200,.string ⟨#[]⟩]
 rw [←hV] at hX2
 clear hX hQ hq1 hq2 hV
 have hX:=hX2
 clear hX2
 have ho:=sgoutcome_any Sg.wR3 V12
 have hw3:Sg.outcome Sg.wR3=(4,200,⟨#[]⟩):=rfl
 rw [hw3] at ho
 unfold Sg.wR3 Sg.wG Sg.wA Sg.wX Sg.Run.val Sg.Run.cells at ho
 simp only [Int.cast_ofNat_Int] at ho
 have HC:=Lib.hid ho
 clear ho
 have hL:=hX.q.r
 go_wp2_with (refine wpList_load_row rfl _ _ rfl _ rfl _ _ _ _ hL Tryz.underlying54 rfl (by kernel_rfl) ?_)
 refine HC.out.mono ?_
 rintro e w13 ⟨rfl,hb⟩
 have hX2:=hX.below hb
 clear hX hb hL HC
 have hX:=hX2
 clear hX2
 have x4:=hX.q.r.cell 4
 simp only [List.getElem?_toArray,List.getElem?_cons_zero,List.getElem?_cons_succ] at x4
 go_wp2_with fail
 go_ret
 exact ⟨rfl,HB1.out.trans (hX.bel.mono HB1.out.size)⟩
end Go.Proofs.YtogijkhenihaaaaGreatDoor
set_option linter.unusedVariables false
set_option linter.unusedSimpArgs false
namespace Go.Proofs.YtogijkhenihaaaaGreatDoor
open Go.RowKit Go.ChangeShapes Go.WideShapes Go.Deep
namespace Sg
open Go.Proofs.YtogijkhenihaaaaGreatDoor.Id
def NumE (w:World) (cs:List Value) (n:Int):Prop:=cs=[.int .i64 n]
structure Wd where
 d:Int
 code:Int
 kind:Nat
 key:ByteArray
def WdE (w:World) (cs:List Value) (x:Wd):Prop:=cs=[.int .i64 x.d,.int .i64 x.code,.int .u8 (x.kind:Nat),.string x.key]
def Nums (w:World) (v:Value) (l:List Int):Prop:=ERow w none 3 1 NumE v l
def Wds (w:World) (v:Value) (l:List Wd):Prop:=ERow w none 67 4 WdE v l
theorem Nums.below {w w':World} {v:Value} {l:List Int} (h:Nums w v l) (hb:Below w.heap.size w w'):Nums w' v l:=ERow.below h hb (fun _ _ h=>h)
theorem Wds.below {w w':World} {v:Value} {l:List Wd} (h:Wds w v l) (hb:Below w.heap.size w w'):Wds w' v l:=ERow.below h hb (fun _ _ h=>h)
section
variable {H : Type} {enc : TypeId × Value → H} {w : World} {base : Nat} {spare : Nat → Bool} {held : Bool}
theorem open_nums {fuel:Nat} {v:Value} {x:DataW H × List MemPlace} (h:DataW.trod enc Tryz.prog w base spare held fuel 60 [v]=some x):∃ l:List Int,Nums w v l:=by
 rcases ChangeShapes.open_ints Tryz.underlying60 Tryz.underlying3 (by kernel_rfl) h with ⟨hcs,_⟩ | ⟨a,len,cap,zs,hcs,_,hl,hm,hz,_,hcell,_⟩
 ·obtain rfl:v=.slice none 0 0:=by simpa using hcs
  exact ⟨[],[],rfl,by simp,⟨rfl,none,0,rfl,Nat.le_refl _,by decide,fun _=>⟨rfl,rfl⟩,Lie.nil _ _⟩,fun i h=>by simp at h⟩
 ·obtain rfl:v=.slice (some a) len cap:=by simpa using hcs
  have hnl:len≤zs.length:=by rw [hz];split <;> omega
  have hfl:∀ l:List Int,(l.map fun n=>([.int .i64 n]:List Value)).flatten=l.map fun n=>.int .i64 n:=fun l=>by
   induction l with
   | nil=>rfl
   | cons n l ih=>simp [ih]
  refine ⟨zs.take len,(zs.take len).map fun n=>[.int .i64 n],by simp,fun cs hcs2=>by obtain ⟨n,_,rfl⟩:=List.mem_map.1 hcs2;rfl,⟨?_,some a,cap,?_,?_,?_,(fun e=>by cases e),fun h0=>?_⟩,fun i h h'=>?_⟩
  ·rw [hfl]
   simp
  ·rw [List.length_take,Nat.min_eq_left hnl]
  ·rw [List.length_take]
   omega
  ·unfold maxLen at hm
   omega
  ·rw [hfl] at h0 ⊢
   have hp:0<zs.length:=by simp at h0;omega
   have hspot:a.spot=none:=by
    have h3:=hcell 0 hp
    have ha:a.add 0=a:=by simp [Addr.add]
    rw [ha] at h3
    unfold World.cell? at h3
    split at h3
    ·split at h3
     ·cases h3
     ·rename_i hh;simpa using hh
    ·cases h3
   obtain ⟨g,off,sp⟩:=a
   simp only at hspot
   subst hspot
   refine ⟨g,off,rfl,fun j u hu=>?_⟩
   have hj:j<(zs.take len).length:=by have:=(List.getElem?_eq_some_iff.1 hu).1;simpa using this
   have hj2:j<zs.length:=by simp at hj;omega
   have h3:=hcell j hj2
   have hadd:(⟨g,off,none⟩:Addr).add j=⟨g,off+j,none⟩:=by unfold Addr.add;split <;> simp_all
   rw [hadd] at h3
   rw [h3,←hu,List.getElem?_map,List.getElem?_eq_getElem hj,List.getElem_take,List.getD_eq_getElem?_getD,List.getElem?_eq_getElem hj2]
   rfl
  ·unfold NumE
   simp
end
end Sg
end Go.Proofs.YtogijkhenihaaaaGreatDoor
