/- redresslaw25: Great, wakes (printed by gen_sgg.py). No condition but the keywords' table. -/
import Derived.Test.YtogijkhenihaaaaGreatDoorGE30
import Derived.Test.YtogijkhenihaaaaGreatDoorGE31
import Derived.Test.YtogijkhenihaaaaGreatDoorGE17
import Derived.Test.YtogijkhenihaaaaGreatDoorGE19
import Derived.ChangeSlices
set_option linter.unusedVariables false
set_option linter.unusedSimpArgs false
namespace Go.Proofs.YtogijkhenihaaaaGreatDoor
open Go.RowKit Go.BigFrame
namespace Sg
open Go.Proofs.YtogijkhenihaaaaGreatDoor.Id Go.Proofs.YtogijkhenihaaaaGreatDoor.Chk Go.Proofs.YtogijkhenihaaaaGreatDoor.Ev Go.Proofs.YtogijkhenihaaaaGreatDoor.Sd
structure FineR (x:Sch) (r:Run) (l:Letter):Prop where
 x:FineG x
 id:r.id.size≤5000
 sg:r.saga.size≤5000
 ag:r.arg.size≤5000
 va:r.value.size≤5000
 key:l.key.size≤5000
 body:l.body.size≤5000
structure Gb (w V:World) (S R L:Array Value):Prop where
 bel:Below w.heap.size w V
 s:Bk V w.heap.size 28 S
 r:Bk V (w.heap.size+1) 54 R
 l:Bk V (w.heap.size+2) 56 L
theorem Gb.below {w V V':World} {S R L:Array Value} (h:Gb w V S R L) (hb:Below V.heap.size V V'):Gb w V' S R L:=⟨h.bel.trans (hb.mono h.bel.size),h.s.below hb h.s.lt,h.r.below hb h.r.lt,h.l.below hb h.l.lt⟩
theorem Gb.start (w:World) (S R L:Array Value):Gb w (((w.alloc (.cells S 28)).alloc (.cells R 54)).alloc (.cells L 56)) S R L:=by
 have h1:=Bk.new (w.alloc (.cells S 28)) 54 R
 have h2:=Bk.new ((w.alloc (.cells S 28)).alloc (.cells R 54)) 56 L
 simp only [World.size_alloc] at h1 h2
 exact ⟨(((Below.refl _ _).alloc (Nat.le_refl _) _).alloc (by simp) _).alloc (by simp;omega) _,((Bk.new w _ _).alloc _).alloc _,h1.alloc _,h2⟩
theorem Two.fresh (W:World):Two ((W.alloc (.cells zrun 54)).alloc (.cells #[.int .u8 0,.int .i64 0,.int .i64 0,.int .u64 0,.string ⟨#[]⟩,.int .u64 0,.string ⟨#[]⟩,.string ⟨#[]⟩,.int .i64 0,.string ⟨#[]⟩] 56)) W.heap.size (W.heap.size+1) zrun #[.int .u8 0,.int .i64 0,.int .i64 0,.int .u64 0,.string ⟨#[]⟩,.int .u64 0,.string ⟨#[]⟩,.string ⟨#[]⟩,.int .i64 0,.string ⟨#[]⟩]∧Below W.heap.size W ((W.alloc (.cells zrun 54)).alloc (.cells #[.int .u8 0,.int .i64 0,.int .i64 0,.int .u64 0,.string ⟨#[]⟩,.int .u64 0,.string ⟨#[]⟩,.string ⟨#[]⟩,.int .i64 0,.string ⟨#[]⟩] 56)):=by
 have h2:=Bk.new (W.alloc (.cells zrun 54)) 56 #[.int .u8 0,.int .i64 0,.int .i64 0,.int .u64 0,.string ⟨#[]⟩,.int .u64 0,.string ⟨#[]⟩,.string ⟨#[]⟩,.int .i64 0,.string ⟨#[]⟩]
 rw [World.size_alloc] at h2
 exact ⟨⟨(Bk.new W _ _).alloc _,h2,by omega⟩,((Below.refl _ _).alloc (Nat.le_refl _) _).alloc (by simp) _⟩
end Sg
set_option maxRecDepth 100000 in
set_option maxHeartbeats 16000000 in
theorem sggreat_any (sv:Value) (x:Id.Sch) (r:Sg.Run) (l:Ev.Letter) (w:World) (hv:Id.SchV w none sv x) :
  Calls Tryz.prog 20 #[sv,r.val,l.val] w (Chk.GreatP w (Sg.FineR x r l)):=by
 have HV:=Lib.hid hv
 obtain ⟨A1,n1,c1,A2,n2,c2,A3,n3,c3,rfl,-,-,-⟩:=hv
 obtain ⟨i,sg,ag,a,p,t,st,y,va⟩:=r
 obtain ⟨l0,l1,l2,l3,l4,l5,l6,l7,l8,l9⟩:=l
 unfold Sg.Run.val Sg.Run.cells Ev.Letter.val
 go_enter Tryz.func20,Tryz.ntmps20
 go_upto_region 1 with (fail)
 refine wp_named (fun V hV=>?_)
 have hX:Sg.Gb w V #[.string x.name,.slice A1 n1 c1,.slice A2 n2 c2,.slice A3 n3 c3] #[.string i,.string sg,.string ag,.int .i64 a,.int .u8 (p:Nat),.int .i64 t,.bool st,.int .i64 y,.string va] #[.int .u8 l0,.int .i64 l1,.int .i64 l2,.int .u64 l3,.string l4,.int .u64 l5,.string l6,.string l7,.int .i64 l8,.string l9]:=by rw [hV];exact Sg.Gb.start w _ _ _
 clear hV
 obtain ⟨⟨q0,q1,q2,q3⟩,-⟩:=hX.s.k4
 go_wp2_with fail
 refine (cgreat_any _ x _ (Id.SchV.below hX.bel HV.out)).mono ?_
 rintro e W1 ⟨gb,rfl,hb,hf⟩
 have hX2:=hX.below hb
 clear hX hb q0 q1 q2 q3
 have hX:=hX2
 clear hX2
 cases gb with
 | true =>
  go_wp2_with fail
  go_ret
  exact ⟨true,rfl,hX.bel,fun h=>by cases h⟩
 | false =>
  have HFG:=Lib.hid (hf rfl)
  clear hf
  have x0:=hX.r.cell 0
  have x1:=hX.r.cell 1
  have x2:=hX.r.cell 2
  have x8:=hX.r.cell 8
  have y4:=hX.l.cell 4
  have y9:=hX.l.cell 9
  simp only [List.getElem?_toArray,List.getElem?_cons_zero,List.getElem?_cons_succ] at x0 x1 x2 x8 y4 y9
  by_cases hc0:(5000:Int)<(i.size:Int)
  case pos =>
   go_wp2_with fail
   go_ret
   exact ⟨true,rfl,hX.bel,fun h=>by cases h⟩
  by_cases hc1:(5000:Int)<(sg.size:Int)
  case pos =>
   go_wp2_with fail
   go_ret
   exact ⟨true,rfl,hX.bel,fun h=>by cases h⟩
  by_cases hc2:(5000:Int)<(ag.size:Int)
  case pos =>
   go_wp2_with fail
   go_ret
   exact ⟨true,rfl,hX.bel,fun h=>by cases h⟩
  by_cases hc3:(5000:Int)<(va.size:Int)
  case pos =>
   go_wp2_with fail
   go_ret
   exact ⟨true,rfl,hX.bel,fun h=>by cases h⟩
  by_cases hc4:(5000:Int)<(l4.size:Int)
  case pos =>
   go_wp2_with fail
   go_ret
   exact ⟨true,rfl,hX.bel,fun h=>by cases h⟩
  by_cases hc5:(5000:Int)<(l9.size:Int)
  case pos =>
   go_wp2_with fail
   go_ret
   exact ⟨true,rfl,hX.bel,fun h=>by cases h⟩
  go_wp2_with fail
  go_ret
  exact ⟨_,rfl,hX.bel,fun _=>⟨HFG.out,by show i.size≤5000;omega,by show sg.size≤5000;omega,by show ag.size≤5000;omega,by show va.size≤5000;omega,by show l4.size≤5000;omega,by show l9.size≤5000;omega⟩⟩
namespace Sg
/-- The boxes of wakes: the shop's, a run's, a letter's. -/
structure Wk (w1 V:World) (g:Nat) (S R L:Array Value):Prop where
 bel:Below w1.heap.size w1 V
 s:Bk V w1.heap.size 28 S
 q:Two V g (g+1) R L
 lt:w1.heap.size<g
theorem Wk.below {w1 V V':World} {g:Nat} {S R L:Array Value} (h:Wk w1 V g S R L) (hb:Below V.heap.size V V'):Wk w1 V' g S R L:=⟨h.bel.trans (hb.mono h.bel.size),h.s.below hb h.s.lt,h.q.below hb h.q.r.lt h.q.l.lt,h.lt⟩
theorem Wk.both {w1 V:World} {g:Nat} {S R L:Array Value} (h:Wk w1 V g S R L) (c c':Array Value):Wk w1 ((V.setRow g c).setRow (g+1) c') g S c c':=by
 have hlt:=h.lt
 exact ⟨below_both h.bel (by omega) (by omega) _ _,(h.s.row_far (by omega) _).row_far (by omega) _,h.q.both _ _,hlt⟩
theorem Wk.setR {w1 V:World} {g:Nat} {S R L:Array Value} (h:Wk w1 V g S R L) (c:Array Value):Wk w1 (V.setRow g c) g S c L:=by
 have hlt:=h.lt
 exact ⟨below_row h.bel (by omega) _,h.s.row_far (by omega) _,h.q.setR _,hlt⟩
end Sg
set_option maxRecDepth 100000 in
set_option maxHeartbeats 32000000 in
theorem wakes25_any (w:World) (hk:Tk.KW w):Calls Tryz.prog 21 #[] w fun e w'=>e=.returned (.bool true)∧Below w.heap.size w w':=by
 have HK:=Lib.hid hk
 clear hk
 obtain ⟨p,hp⟩:=Sg.wk_print
 have HP:=Lib.hid hp
 clear hp
 have hFS:Chk.Fine Chk.shop:=Chk.shop_fine _ (by decide)
 have HF:=Lib.hid hFS
 clear hFS
 go_enter Tryz.func21,Tryz.ntmps21
 go_wp2_with fail
 refine (shop_any _).mono ?_
 rintro e w1 ⟨v,rfl,hb1,hsv⟩
 have HB1:=Lib.hid hb1
 have HS1:=Lib.hid (Id.SchV.weak (Id.wk_none _) hsv:Id.SchV w1 none v Chk.shop)
 have HK1:=Lib.hid (HK.out.below hb1)
 clear hb1 hsv HK
 obtain ⟨A1,n1,c1,A2,n2,c2,A3,n3,c3,rfl,-⟩:=HS1.out
 go_upto_region 2 with (fail)
 refine wp_named (fun V hV=>?_)
 obtain ⟨hb,hqS,-⟩:=fresh_box hV
 clear hV
 obtain ⟨⟨q0,q1,q2,q3⟩,-⟩:=hqS.k4
 have h:=sgbegin_any _ Chk.shop HF.out Sg.wG Sg.wA (by decide) 1 Sg.wX (by decide) V (HK1.out.below hb) (Id.SchV.below hb HS1.out)
 rw [Sg.wk_begin HP.out] at h
 unfold Sg.out3V Sg.wR0 Sg.wG Sg.wA Sg.wX Sg.Run.val Sg.Run.cells Ev.Letter.val at h
 simp only [Int.cast_ofNat_Int] at h
 have HC:=Lib.hid h
 clear h
 go_wp2_with fail
 refine HC.out.mono ?_
 rintro e w2 ⟨rfl,hb2⟩
 have HB2:=Lib.hid (hb.trans (hb2.mono hb.size))
 have HQS:=Lib.hid (hqS.below hb2 hqS.lt)
 clear hb hb2 HC hqS q0 q1 q2 q3
 have hFr:=Sg.Two.fresh w2
 have hQ:=hFr.1
 (have hq1:=hQ.r;have hq2:=(hQ.setR #[.string ⟨#[97]⟩,.string ⟨#[103]⟩,.string ⟨#[1,120,10,0]⟩,.int .i64 0,.int .u8 1,.int .i64 0,.bool false,.int .i64 0,.string ⟨#[]⟩]).l;unfold Bk at hq1 hq2)
 go_upto_region 3 with (refine wpList_store_row rfl _ _ _ rfl _ _ rfl rfl _ _ (by with_reducible assumption) (by kernel_rfl) (by rfl) (by simp [Value.oneCell']) ?_)
 refine wp_named (fun V3 hV=>?_)
 obtain ⟨g,Hg⟩:∃ n,Hid (w2.heap.size=n):=⟨_,Lib.hid rfl⟩
 have hX:Sg.Wk w1 V3 g #[.string Chk.shop.name,.slice A1 n1 c1,.slice A2 n2 c2,.slice A3 n3 c3] #[.string ⟨#[97]⟩,.string ⟨#[103]⟩,.string ⟨#[1,120,10,0]⟩,.int .i64 0,.int .u8 1,.int .i64 0,.bool false,.int .i64 0,.string ⟨#[]⟩] #[.int .u8 1,.int .i64 1,.int .i64 0,.int .u64 0,.string ⟨#[97,46,48,102]⟩,.int .u64 (p:Nat),.string ⟨#[83]⟩,.string ⟨#[116]⟩,.int .i64 0,.string ⟨#[1,120,10,0]⟩]:=by
  have hb:Below w2.heap.size w2 V3:=by rw [hV];exact Sg.below_both hFr.2 (Nat.le_refl _) (by omega) _ _
  have hlt:=HQS.out.lt
  rw [←Hg.out]
  exact ⟨HB2.out.trans (hb.mono HB2.out.size),HQS.out.below hb hlt,by rw [hV];exact hQ.both _ _,hlt⟩
 clear hV hq1 hq2 hQ hFr HB2 HQS
 rw [Hg.out]
 have y4:=hX.q.l.cell 4
 have y7:=hX.q.l.cell 7
 simp only [List.getElem?_toArray,List.getElem?_cons_zero,List.getElem?_cons_succ] at y4 y7
 have hL:=hX.q.r
 have hS:=hX.s
 have hRo:=sgright_any _ Chk.shop HF.out Sg.wR0 (by decide) (by decide) V3 (HK1.out.below hX.bel) (Id.SchV.below hX.bel HS1.out)
 rw [Sg.rightB_yes (Sg.wk_rt0 HP.out)] at hRo
 unfold Sg.wR0 Sg.wG Sg.wA Sg.wX Sg.Run.val Sg.Run.cells at hRo
 simp only [Int.cast_ofNat_Int] at hRo
 have HC:=Lib.hid hRo
 clear hRo
 go_wp2_with (first | (refine Sg.list_load_rowG (by kernel_rfl) _ _ rfl _ rfl _ _ _ hS Tryz.underlying28 rfl (by kernel_rfl) ?_) | (refine Sg.list_load_rowG (by kernel_rfl) _ _ rfl _ rfl _ _ _ hL Tryz.underlying54 rfl (by kernel_rfl) ?_))
 refine HC.out.mono ?_
 rintro e w5 ⟨rfl,hb⟩
 have hX2:=hX.below hb
 clear hX hb hL hS HC y4 y7
 have hX:=hX2
 clear hX2
 have hL:=hX.q.r
 have hS:=hX.s
 have h:=sgreply_any _ Chk.shop HF.out Sg.wR0 (by decide) (by decide) 1 3 (Sg.wL ⟨#[97,46,48,102]⟩ 0) w5 (HK1.out.below hX.bel) (Id.SchV.below hX.bel HS1.out)
 rw [Sg.wk_reply1 HP.out] at h
 unfold Sg.outV Sg.wR0 Sg.wR1 Sg.wL Sg.wG Sg.wA Sg.wX Sg.Run.val Sg.Run.cells Ev.Letter.val at h
 simp only [Int.cast_ofNat_Int] at h
 have HC:=Lib.hid h
 clear h
 go_wp2_with (first | (refine wpList_load_row rfl _ _ rfl _ rfl _ _ _ _ (Sg.bk hS) Tryz.underlying28 rfl (by kernel_rfl) ?_) | (refine wpList_load_row rfl _ _ rfl _ rfl _ _ _ _ (Sg.bk hL) Tryz.underlying54 rfl (by kernel_rfl) ?_))
 refine HC.out.mono ?_
 rintro e w6 ⟨rfl,hb⟩
 have hX2:=hX.below hb
 clear hX hb hL hS HC
 have hX:=hX2
 clear hX2
 have hQ:=hX.q
 (have hq1:=hQ.r;have hq2:=(hQ.setR #[.string ⟨#[97]⟩,.string ⟨#[103]⟩,.string ⟨#[1,120,10,0]⟩,.int .i64 1,.int .u8 1,.int .i64 0,.bool false,.int .i64 0,.string ⟨#[]⟩]).l;unfold Bk at hq1 hq2)
 go_upto_region 6 with (refine wpList_store_row rfl _ _ _ rfl _ _ rfl rfl _ _ (by with_reducible assumption) (by kernel_rfl) (by rfl) (by simp [Value.oneCell']) ?_)
 refine wp_named (fun V6 hV=>?_)
 have hX2:=hX.both #[.string ⟨#[97]⟩,.string ⟨#[103]⟩,.string ⟨#[1,120,10,0]⟩,.int .i64 1,.int .u8 1,.int .i64 0,.bool false,.int .i64 0,.string ⟨#[]⟩] #[.int .u8 1,.int .i64 1,.int .i64 1,.int .u64 0,.string ⟨#[97,46,49,102]⟩,.int .u64 (p:Nat),.string ⟨#[83]⟩,.string ⟨#[110]⟩,.int .i64 0,.string ⟨#[1,120,10,0]⟩]
 rw [←hV] at hX2
 clear hX hQ hq1 hq2 hV
 have hX:=hX2
 clear hX2
 have x3:=hX.q.r.cell 3
 have y4:=hX.q.l.cell 4
 simp only [List.getElem?_toArray,List.getElem?_cons_zero,List.getElem?_cons_succ] at x3 y4
 go_upto_region 8 with (fail)
 clear x3 y4
 have hL:=hX.q.r
 have hS:=hX.s
 have h:=sgreply_any _ Chk.shop HF.out Sg.wR1 (by decide) (by decide) 1 3 (Sg.wL ⟨#[97,46,49,102]⟩ 200) V6 (HK1.out.below hX.bel) (Id.SchV.below hX.bel HS1.out)
 rw [Sg.wk_reply2 HP.out] at h
 unfold Sg.outV Sg.wR1 Sg.wR2 Sg.wL Sg.wG Sg.wA Sg.wX Sg.Run.val Sg.Run.cells Ev.Letter.val at h
 simp only [Int.cast_ofNat_Int] at h
 have HC:=Lib.hid h
 clear h
 go_wp2_with (first | (refine wpList_load_row rfl _ _ rfl _ rfl _ _ _ _ (Sg.bk hS) Tryz.underlying28 rfl (by kernel_rfl) ?_) | (refine wpList_load_row rfl _ _ rfl _ rfl _ _ _ _ (Sg.bk hL) Tryz.underlying54 rfl (by kernel_rfl) ?_))
 refine HC.out.mono ?_
 rintro e w8 ⟨rfl,hb⟩
 have hX2:=hX.below hb
 clear hX hb hL hS HC
 have hX:=hX2
 clear hX2
 have hQ:=hX.q
 (have hq1:=hQ.r;have hq2:=(hQ.setR #[.string ⟨#[97]⟩,.string ⟨#[103]⟩,.string ⟨#[1,120,10,0]⟩,.int .i64 0,.int .u8 2,.int .i64 0,.bool false,.int .i64 200,.string ⟨#[]⟩]).l;unfold Bk at hq1 hq2)
 go_upto_region 9 with (refine wpList_store_row rfl _ _ _ rfl _ _ rfl rfl _ _ (by with_reducible assumption) (by kernel_rfl) (by rfl) (by simp [Value.oneCell']) ?_)
 refine wp_named (fun V9 hV=>?_)
 have hX2:=hX.both #[.string ⟨#[97]⟩,.string ⟨#[103]⟩,.string ⟨#[1,120,10,0]⟩,.int .i64 0,.int .u8 2,.int .i64 0,.bool false,.int .i64 200,.string ⟨#[]⟩] #[.int .u8 1,.int .i64 1,.int .i64 0,.int .u64 0,.string ⟨#[97,46,48,99]⟩,.int .u64 (p:Nat),.string ⟨#[83]⟩,.string ⟨#[117]⟩,.int .i64 0,.string ⟨#[1,120,10,0]⟩]
 rw [←hV] at hX2
 clear hX hQ hq1 hq2 hV
 have hX:=hX2
 clear hX2
 have x4:=hX.q.r.cell 4
 have y4:=hX.q.l.cell 4
 have y7:=hX.q.l.cell 7
 simp only [List.getElem?_toArray,List.getElem?_cons_zero,List.getElem?_cons_succ] at x4 y4 y7
 go_upto_region 11 with (fail)
 clear x4 y4 y7
 have hL:=hX.q.r
 have hS:=hX.s
 have h:=sgreply_any _ Chk.shop HF.out Sg.wR2 (by decide) (by decide) 1 3 (Sg.wL ⟨#[97,46,48,99]⟩ 0) V9 (HK1.out.below hX.bel) (Id.SchV.below hX.bel HS1.out)
 rw [Sg.wk_reply3 HP.out] at h
 unfold Sg.outV Sg.wR2 Sg.wR3 Sg.wL Sg.wG Sg.wA Sg.wX Sg.Run.val Sg.Run.cells Ev.Letter.zero Ev.Letter.val at h
 simp only [Int.cast_ofNat_Int] at h
 have HC:=Lib.hid h
 clear h
 go_wp2_with (first | (refine wpList_load_row rfl _ _ rfl _ rfl _ _ _ _ (Sg.bk hS) Tryz.underlying28 rfl (by kernel_rfl) ?_) | (refine wpList_load_row rfl _ _ rfl _ rfl _ _ _ _ (Sg.bk hL) Tryz.underlying54 rfl (by kernel_rfl) ?_))
 refine HC.out.mono ?_
 rintro e w11 ⟨rfl,hb⟩
 have hX2:=hX.below hb
 clear hX hb hL hS HC
 have hX:=hX2
 clear hX2
 have hQ:=hX.q
 (have hq1:=hQ.r;have hq2:=(hQ.setR #[.string ⟨#[97]⟩,.string ⟨#[103]⟩,.string ⟨#[1,120,10,0]⟩,.int .i64 0,.int .u8 4,.int .i64 0,.bool false,.int .i64 200,.string ⟨#[]⟩]).l;unfold Bk at hq1 hq2)
 go_upto_region 12 with (refine wpList_store_row rfl _ _ _ rfl _ _ rfl rfl _ _ (by with_reducible assumption) (by kernel_rfl) (by rfl) (by simp [Value.oneCell']) ?_)
 refine wp_named (fun V12 hV=>?_)
 have hX2:=hX.setR #[.string ⟨#[97]⟩,.string ⟨#[103]⟩,.string ⟨#[1,120,10,0]⟩,.int .i64 0,.int .u8 4,.int .i64 0,.bool false,.int .i64 200,.string ⟨#[]⟩]
 rw [←hV] at hX2
 clear hX hQ hq1 hq2 hV
 have hX:=hX2
 clear hX2
 have ho:=sgoutcome_any Sg.wR3 V12
 have hw3:Sg.outcome Sg.wR3=(4,200,⟨#[]⟩):=rfl
 rw [hw3] at ho
 unfold Sg.wR3 Sg.wG Sg.wA Sg.wX Sg.Run.val Sg.Run.cells at ho
 simp only [Int.cast_ofNat_Int] at ho
 have HC:=Lib.hid ho
 clear ho
 have hL:=hX.q.r
 go_wp2_with (refine wpList_load_row rfl _ _ rfl _ rfl _ _ _ _ hL Tryz.underlying54 rfl (by kernel_rfl) ?_)
 refine HC.out.mono ?_
 rintro e w13 ⟨rfl,hb⟩
 have hX2:=hX.below hb
 clear hX hb hL HC
 have hX:=hX2
 clear hX2
 have x4:=hX.q.r.cell 4
 simp only [List.getElem?_toArray,List.getElem?_cons_zero,List.getElem?_cons_succ] at x4
 go_wp2_with fail
 go_ret
 exact ⟨rfl,HB1.out.trans (hX.bel.mono HB1.out.size)⟩
end Go.Proofs.YtogijkhenihaaaaGreatDoor
set_option linter.unusedVariables false
set_option linter.unusedSimpArgs false
namespace Go.Proofs.YtogijkhenihaaaaGreatDoor
open Go.RowKit Go.ChangeShapes Go.WideShapes Go.Deep
namespace Sg
open Go.Proofs.YtogijkhenihaaaaGreatDoor.Id
def NumE (w:World) (cs:List Value) (n:Int):Prop:=cs=[.int .i64 n]
structure Wd where
 d:Int
 code:Int
 kind:Nat
 key:ByteArray
def WdE (w:World) (cs:List Value) (x:Wd):Prop:=cs=[.int .i64 x.d,.int .i64 x.code,.int .u8 (x.kind:Nat),.string x.key]
def Nums (w:World) (v:Value) (l:List Int):Prop:=ERow w none 3 1 NumE v l
def Wds (w:World) (v:Value) (l:List Wd):Prop:=ERow w none 67 4 WdE v l
theorem Nums.below {w w':World} {v:Value} {l:List Int} (h:Nums w v l) (hb:Below w.heap.size w w'):Nums w' v l:=ERow.below h hb (fun _ _ h=>h)
theorem Wds.below {w w':World} {v:Value} {l:List Wd} (h:Wds w v l) (hb:Below w.heap.size w w'):Wds w' v l:=ERow.below h hb (fun _ _ h=>h)
section
variable {H : Type} {enc : TypeId × Value → H} {w : World} {base : Nat} {spare : Nat → Bool} {held : Bool}
theorem open_words {fuel:Nat} {v:Value} {x:DataW H × List MemPlace} (h:DataW.trod enc Tryz.prog w base spare held fuel 70 [v]=some x):∃ l:List Wd,Wds w v l :=
 open_rows WdE Tryz.underlying70 Tryz.underlying67 (by kernel_rfl) (by kernel_rfl) (by decide) h fun cs hl hf=>by
  obtain ⟨u0,k0,y0,e0,t0⟩:=hf 0 _ rfl
  obtain ⟨u1,k1,y1,e1,t1⟩:=hf 1 _ rfl
  obtain ⟨u2,k2,y2,e2,t2⟩:=hf 2 _ rfl
  obtain ⟨u3,k3,y3,e3,t3⟩:=hf 3 _ rfl
  obtain ⟨n0,hn0,z0⟩:=DataW.trod_int Tryz.underlying3 t0
  obtain ⟨n1,hn1,z1⟩:=DataW.trod_int Tryz.underlying3 t1
  obtain ⟨n2,hn2,z2⟩:=DataW.trod_int Tryz.underlying5 t2
  obtain ⟨n3,hn3,z3⟩:=DataW.trod_string Tryz.underlying9 t3
  simp only [List.cons.injEq,and_true] at hn0 hn1 hn2 hn3
  subst hn0 hn1 hn2 hn3
  obtain ⟨k,rfl⟩:=nat_of_wf rfl z2.2
  refine ⟨⟨n0,n1,k,n3⟩,?_⟩
  match cs,hl with
  | [x,y,z,u],_=>simp at e0 e1 e2 e3;unfold WdE;rw [e0,e1,e2,e3]
end
end Sg
end Go.Proofs.YtogijkhenihaaaaGreatDoor
set_option linter.unusedVariables false
set_option linter.unusedSimpArgs false
namespace Go.Proofs.YtogijkhenihaaaaGreatDoor
open Go.RowKit Go.BigFrame
namespace Lst
section
variable {P : Program} {ops : Array Oper} {Q : Exit → Act → World → Prop} {md : Region.Mode} {S : World → Prop}
theorem three (i j m:Nat) {oi oj om:Oper} {D:List Nat} {fuel:Nat} {listed:Array Bool} {a:Act} {w:World} (hr:Region.ready md ops listed=[i,j,m]) (hoi:ops[i]?=some oi) (hoj:ops[j]?=some oj) (hom:ops[m]?=some om)
  (h1:∀ K':Act→World→Prop,Go.Shut (∀ a w,(noneOf D (listed.setIfInBounds i true)=true→S w)→wpAnyL P md ops Q S D fuel (listed.setIfInBounds i true) a w→K' a w)→if Region.wanted oi (yielded ops a.tmps)=true then Oper.wp P oi a w K' Q else K' (a.put oi.dst undef) w)
  (h2:∀ K':Act→World→Prop,Go.Shut (∀ a w,(noneOf D (listed.setIfInBounds j true)=true→S w)→wpAnyL P md ops Q S D fuel (listed.setIfInBounds j true) a w→K' a w)→if Region.wanted oj (yielded ops a.tmps)=true then Oper.wp P oj a w K' Q else K' (a.put oj.dst undef) w)
  (h3:∀ K':Act→World→Prop,Go.Shut (∀ a w,(noneOf D (listed.setIfInBounds m true)=true→S w)→wpAnyL P md ops Q S D fuel (listed.setIfInBounds m true) a w→K' a w)→if Region.wanted om (yielded ops a.tmps)=true then Oper.wp P om a w K' Q else K' (a.put om.dst undef) w) :
  wpAnyL P md ops Q S D (fuel+1) listed a w :=
 ⟨(fun h0=>by rw [hr] at h0;cases h0),fun k hk=>by
  rw [hr] at hk
  rcases List.mem_cons.1 hk with rfl | hk
  ·exact wpOp_step hoi (fun K' hK=>h1 K' (fun a w hS hW=>hK a w ⟨hS,hW⟩))
  ·rcases List.mem_cons.1 hk with rfl | hk
   ·exact wpOp_step hoj (fun K' hK=>h2 K' (fun a w hS hW=>hK a w ⟨hS,hW⟩))
   ·obtain rfl:=List.mem_singleton.1 hk
    exact wpOp_step hom (fun K' hK=>h3 K' (fun a w hS hW=>hK a w ⟨hS,hW⟩))⟩
end
end Lst
namespace Sg
open Go.Proofs.YtogijkhenihaaaaGreatDoor.Id Go.Proofs.YtogijkhenihaaaaGreatDoor.Chk Go.Proofs.YtogijkhenihaaaaGreatDoor.Ev Go.Proofs.YtogijkhenihaaaaGreatDoor.Sd
theorem reply_same {A:Sch→ByteArray→ByteArray→Nat} {x:Sch} {r:Run} {fr most:Int} {l:Letter}:(reply A x r fr most l).1.id=r.id∧(reply A x r fr most l).1.saga=r.saga∧(reply A x r fr most l).1.arg=r.arg:=by
 unfold reply
 split
 ·exact took_same
 ·exact ⟨rfl,rfl,rfl⟩
/-- The law's boxes: the schema's, the run's. -/
structure Eb (w V:World) (gR:Nat) (S R:Array Value):Prop where
 bel:Below w.heap.size w V
 s:Bk V w.heap.size 28 S
 r:Bk V gR 54 R
 lt:w.heap.size<gR
theorem Eb.below {w V V':World} {gR:Nat} {S R:Array Value} (h:Eb w V gR S R) (hb:Below V.heap.size V V'):Eb w V' gR S R:=⟨h.bel.trans (hb.mono h.bel.size),h.s.below hb h.s.lt,h.r.below hb h.r.lt,h.lt⟩
theorem Eb.setR {w V:World} {gR:Nat} {S R:Array Value} (h:Eb w V gR S R) (c:Array Value):Eb w (V.setRow gR c) gR S c:=by
 have hlt:=h.lt
 exact ⟨below_row h.bel (by omega) _,h.s.row_far (by omega) _,h.r.row _,hlt⟩
/-- Beside them two new ones, as far as they are made. -/
structure Er (w V:World) (gR:Nat) (S R:Array Value) (oa ob:Option Nat):Prop where
 eb:Eb w V gR S R
 a:∀ g,oa=some g→Bk V g 54 zrun∧gR<g
 b:∀ g,ob=some g→Bk V g 56 #[.int .u8 0,.int .i64 0,.int .i64 0,.int .u64 0,.string ⟨#[]⟩,.int .u64 0,.string ⟨#[]⟩,.string ⟨#[]⟩,.int .i64 0,.string ⟨#[]⟩]∧gR<g
theorem Er.below {w V V':World} {gR:Nat} {S R:Array Value} {oa ob:Option Nat} (h:Er w V gR S R oa ob) (hb:Below V.heap.size V V'):Er w V' gR S R oa ob :=
 ⟨h.eb.below hb,fun g e=>⟨(h.a g e).1.below hb (h.a g e).1.lt,(h.a g e).2⟩,fun g e=>⟨(h.b g e).1.below hb (h.b g e).1.lt,(h.b g e).2⟩⟩
theorem Er.allocB {w V:World} {gR:Nat} {S R:Array Value} {oa ob:Option Nat} (h:Er w V gR S R oa ob):Er w (V.alloc (.cells #[.int .u8 0,.int .i64 0,.int .i64 0,.int .u64 0,.string ⟨#[]⟩,.int .u64 0,.string ⟨#[]⟩,.string ⟨#[]⟩,.int .i64 0,.string ⟨#[]⟩] 56)) gR S R oa (some V.heap.size):=by
 have hb:=(Below.refl V.heap.size V).alloc (Nat.le_refl _) (.cells #[.int .u8 0,.int .i64 0,.int .i64 0,.int .u64 0,.string ⟨#[]⟩,.int .u64 0,.string ⟨#[]⟩,.string ⟨#[]⟩,.int .i64 0,.string ⟨#[]⟩] 56)
 exact ⟨h.eb.below hb,(h.below hb).a,fun g e=>by injection e with e;subst e;exact ⟨Bk.new _ _ _,h.eb.r.lt⟩⟩
theorem Eb.far {w V:World} {gR g:Nat} {S R:Array Value} (h:Eb w V gR S R) (hg:gR<g) (c:Array Value):Eb w (V.setRow g c) gR S R:=by
 have hlt:=h.lt
 exact ⟨below_row h.bel (by omega) _,h.s.row_far (by omega) _,h.r.row_far (by omega) _,hlt⟩
structure Ef (w V:World) (gR:Nat) (S R:Array Value) (gA:Nat) (RN:Array Value):Prop where
 eb:Eb w V gR S R
 a:Bk V gA 54 RN
 lt:gR<gA
theorem Ef.below {w V V':World} {gR gA:Nat} {S R RN:Array Value} (h:Ef w V gR S R gA RN) (hb:Below V.heap.size V V'):Ef w V' gR S R gA RN:=⟨h.eb.below hb,h.a.below hb h.a.lt,h.lt⟩
theorem Run.one (r:Run):r.cells.all (·.oneCell')=true:=by
 unfold Run.cells
 simp [Value.oneCell']
end Sg
end Go.Proofs.YtogijkhenihaaaaGreatDoor
set_option linter.unusedVariables false
set_option linter.unusedSimpArgs false
namespace Go.Proofs.YtogijkhenihaaaaGreatDoor
namespace Sg
open Go.Proofs.YtogijkhenihaaaaGreatDoor.Id Go.Proofs.YtogijkhenihaaaaGreatDoor.Chk Go.Proofs.YtogijkhenihaaaaGreatDoor.Ev Go.Proofs.YtogijkhenihaaaaGreatDoor.Sd
section
variable {A : Sch → ByteArray → ByteArray → Nat} {x : Sch}
/-- What holds between two rounds of SagaShape: D steps done, U undone. -/
structure ShI (A:Sch→ByteArray→ByteArray→Nat) (x:Sch) (g id:ByteArray) (n:Int) (r:Run) (D U:Int):Prop where
 rt:Rt A x r
 sg:r.saga=g
 ni:r.id=id
 sh:Shp n r D U
theorem sh_start {g id b:ByteArray} {n:Int} (h:Rt A x ⟨id,g,b,0,1,0,false,0,⟨#[]⟩⟩):ShI A x g id n ⟨id,g,b,0,1,0,false,0,⟨#[]⟩⟩ 0 0 :=
 ⟨h,rfl,rfl,Int.le_refl 0,fun _=>⟨rfl,rfl⟩,fun e=>(by rcases e with e | e <;> cases e),fun e=>(by cases e),fun e=>(by cases e)⟩
theorem reply_cases {r:Run} {fr most:Int} {l:Letter}:(reply A x r fr most l=took x r fr most l∧Rt A x r∧over r=false∧0≤fr∧fr<4)∨reply A x r fr most l=(r,Letter.zero,false,false):=by
 unfold reply
 split
 ·rename_i h
  left
  have ho:=h.1
  unfold on at ho
  simp only [Bool.and_eq_true,decide_eq_true_eq,Bool.not_eq_true'] at ho
  exact ⟨rfl,ho.2,ho.1.2,ho.1.1.1,ho.1.1.2⟩
 ·exact .inr rfl
/-- An answer to a call, taken or not. -/
theorem reply_round {g id:ByteArray} {n:Int} {r:Run} {D U:Int} (h:ShI A x g id n r D U) (hn:n=((steps x g).1:Int)) {most:Int} {l:Letter} :
  (reply A x r 0 most l=(r,Letter.zero,false,false)) ∨
  ((reply A x r 0 most l).2.2.2=true∧CallOk (reply A x r 0 most l).1 (reply A x r 0 most l).2.1 (reply A x r 0 most l).2.2.1 (reply A x r 0 most l).2.2.2 ∧
   (l.code=0→(r.phase=1∧r.at_=D∧ShI A x g id n (reply A x r 0 most l).1 (D+1) U)∨(r.phase=2∧r.at_=D - 1 - U∧ShI A x g id n (reply A x r 0 most l).1 D (U+1))) ∧
   (l.code≠0→ShI A x g id n (reply A x r 0 most l).1 D U)):=by
 rcases reply_cases (A:=A) (x:=x) (r:=r) (fr:=0) (most:=most) (l:=l) with ⟨e,h1,h2,h3,h4⟩ | e
 ·right
  rw [e]
  have hc:=took_call (most:=most) (l:=l) h1 h2 h3 h4
  have hr:=took_right (fr:=0) (most:=most) (l:=l) h1 h2
  obtain ⟨s1,s2⟩:=took_shape (n:=n) (fr:=0) (most:=most) (l:=l) h1 h2 (by rw [h.sg];exact hn) h.sh
  obtain ⟨k1,k2,k3⟩:=took_same (x:=x) (r:=r) (fr:=0) (most:=most) (l:=l)
  refine ⟨hc.1,hc,fun hz=>?_,fun hz=>⟨hr,k2.trans h.sg,k1.trans h.ni,s2 hz⟩⟩
  rcases s1 hz with ⟨a,b,c⟩ | ⟨a,b,c⟩
  ·exact .inl ⟨a,b,hr,k2.trans h.sg,k1.trans h.ni,c⟩
  ·exact .inr ⟨a,b,hr,k2.trans h.sg,k1.trans h.ni,c⟩
 ·exact .inl e
/-- An answer to a cancelling, taken or not. -/
theorem settle_round {g id:ByteArray} {n:Int} {r:Run} {D U:Int} (h:ShI A x g id n r D U) (hn:n=((steps x g).1:Int)) {l:Letter} :
  (settle A x r 0 l=(r,Letter.zero,false,false)) ∨
  (CallOk (settle A x r 0 l).1 (settle A x r 0 l).2.1 (settle A x r 0 l).2.2.1 (settle A x r 0 l).2.2.2∧ShI A x g id n (settle A x r 0 l).1 D U):=by
 unfold settle
 split
 ·rename_i hc
  right
  have ho:=hc.1
  unfold on at ho
  simp only [Bool.and_eq_true,decide_eq_true_eq,Bool.not_eq_true'] at ho
  have h1:r.phase=1:=by
   rcases h.rt.sb with e | e
   ·exact e
   ·rw [hc.2.1] at e
    cases e
  have h3:r.value.toList.isEmpty=true:=h.rt.vb.resolve_left (by omega)
  split
  ·refine ⟨back_call h.rt (.inl h1) h3 (Int.le_refl 0) (by decide) (by decide) (by decide),back_right h.rt (.inl h1) h3 (by decide) (by decide),back_same.2.1.trans h.sg,back_same.1.trans h.ni,?_⟩
   obtain ⟨d1,d2⟩:=h.sh.2.1 h1
   rw [d2]
   exact back_shape d1 h.rt.a0 (by rw [hn,←h.sg];exact h.rt.an)
  ·exact ⟨⟨rfl,fun e=>(by cases e),fun _=>rfl⟩,unstop_right h.rt,h.sg,h.ni,h.sh⟩
 ·exact .inl rfl
/-- A wish to cancel. -/
theorem stop_round {g id:ByteArray} {n:Int} {r:Run} {D U:Int} (h:ShI A x g id n r D U) (he:(stopR A x r 0).2.2=0) :
  (stopR A x r 0).2.1.kind=3∧(stopR A x r 0).2.1.key=keyB id r.at_ false∧ShI A x g id n (stopR A x r 0).1 D U:=by
 obtain ⟨c1,c2,c3⟩:=cancel_key h.rt (fr:=0) (Int.le_refl 0) (by decide)
 unfold stopR at he ⊢
 rw [if_neg (by rintro (h' | h' | h');exact h' h.rt;omega;omega)] at he ⊢
 split at he
 ·cases he
 ·rename_i h1
  rw [if_neg h1]
  split at he
  ·cases he
  ·rename_i h2
   rw [if_neg h2]
   refine ⟨c2,by rw [c3,h.ni],stop_right h.rt (by omega),h.sg,h.ni,h.sh⟩
/-- At the end. -/
theorem sh_end {g id:ByteArray} {n:Int} {r:Run} {D U:Int} (h:ShI A x g id n r D U) (hn:n=((steps x g).1:Int)):(r.phase=3→D=n∧U=0)∧(r.phase=4→U=D∧D<n)∧(r.phase≠3→r.phase≠4→D≤n∧U≤D∧(r.phase≠1∨U=0)):=by
 obtain ⟨hU,s1,s2,s3,s4⟩:=h.sh
 obtain ⟨-,-,-,-,q1,q5⟩:=h.rt.ph
 have a0:=h.rt.a0
 refine ⟨s3,s4,fun n3 n4=>?_⟩
 have hp:r.phase=1∨r.phase=2∨r.phase=5:=by omega
 rcases hp with e | e
 ·obtain ⟨d1,d2⟩:=s1 e
  have an:=h.rt.an
  rw [h.sg] at an
  exact ⟨by omega,by omega,.inr d2⟩
 ·obtain ⟨d1,d2⟩:=s2 e
  exact ⟨by omega,by omega,.inl (by omega)⟩
end
end Sg
end Go.Proofs.YtogijkhenihaaaaGreatDoor
