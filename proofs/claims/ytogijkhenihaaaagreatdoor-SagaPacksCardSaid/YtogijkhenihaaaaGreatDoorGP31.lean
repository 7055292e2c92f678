/- saga: Reply (printed by gen_sgd.py). No condition but the keywords' table and the ones the theorems state. -/
import Derived.Test.YtogijkhenihaaaaGreatDoorGP29
set_option linter.unusedVariables false
set_option linter.unusedSimpArgs false
namespace Go.Proofs.YtogijkhenihaaaaGreatDoor
open Go.RowKit Go.BigFrame
namespace Sg
open Go.Proofs.YtogijkhenihaaaaGreatDoor.Id Go.Proofs.YtogijkhenihaaaaGreatDoor.Chk Go.Proofs.YtogijkhenihaaaaGreatDoor.Ev Go.Proofs.YtogijkhenihaaaaGreatDoor.Sd
/-- The boxes of Reply: a schema, a run, a letter; the two results; the run under way. -/
structure Rp (w V:World) (S R L X:Array Value) (g1 g2 g3 g4 g5:Nat):Prop where
 bel:Below w.heap.size w V
 s:Bk V w.heap.size 28 S
 r:Bk V g1 54 R
 l:Bk V g2 56 L
 q:Two V g3 g4 zrun #[.int .u8 0,.int .i64 0,.int .i64 0,.int .u64 0,.string ⟨#[]⟩,.int .u64 0,.string ⟨#[]⟩,.string ⟨#[]⟩,.int .i64 0,.string ⟨#[]⟩]
 x:Bk V g5 140 X
 le:w.heap.size<g1∧g1<g2∧g2<g3∧g3<g4∧g4<g5
theorem Rp.below {w V V':World} {S R L X:Array Value} {g1 g2 g3 g4 g5:Nat} (h:Rp w V S R L X g1 g2 g3 g4 g5) (hb:Below V.heap.size V V'):Rp w V' S R L X g1 g2 g3 g4 g5 :=
 ⟨h.bel.trans (hb.mono h.bel.size),h.s.below hb h.s.lt,h.r.below hb h.r.lt,h.l.below hb h.l.lt,h.q.below hb h.q.r.lt h.q.l.lt,h.x.below hb h.x.lt,h.le⟩
theorem Rp.set_ {w V:World} {S R L X:Array Value} {g1 g2 g3 g4 g5:Nat} (h:Rp w V S R L X g1 g2 g3 g4 g5) (i:Nat) (u:Value):Rp w (V.setCell ⟨g5,i,none⟩ u) S R L (X.setIfInBounds i u) g1 g2 g3 g4 g5:=by
 obtain ⟨h1,h2,h3,h4,h5,h6,hle⟩:=h
 obtain ⟨e1,e2,e3,e4,e5⟩:=hle
 exact ⟨h1.setCell (p:=⟨g5,i,none⟩) (by show w.heap.size≤g5;omega) u,h2.far (p:=⟨g5,i,none⟩) (by show w.heap.size≠g5;omega) u,h3.far (p:=⟨g5,i,none⟩) (by show g1≠g5;omega) u,h4.far (p:=⟨g5,i,none⟩) (by show g2≠g5;omega) u,
  ⟨h5.r.far (p:=⟨g5,i,none⟩) (by show g3≠g5;omega) u,h5.l.far (p:=⟨g5,i,none⟩) (by show g4≠g5;omega) u,h5.ne⟩,h6.set_ i u,e1,e2,e3,e4,e5⟩
theorem Rp.start (w:World) (S R L X:Array Value) :
  Rp w ((((((w.alloc (.cells S 28)).alloc (.cells R 54)).alloc (.cells L 56)).alloc (.cells zrun 54)).alloc (.cells #[.int .u8 0,.int .i64 0,.int .i64 0,.int .u64 0,.string ⟨#[]⟩,.int .u64 0,.string ⟨#[]⟩,.string ⟨#[]⟩,.int .i64 0,.string ⟨#[]⟩] 56)).alloc (.cells X 140)) S R L X (w.heap.size+1) (w.heap.size+2) (w.heap.size+3) (w.heap.size+4) (w.heap.size+5):=by
 have z0:w.heap.size≤w.heap.size:=Nat.le_refl _
 have k1:(w.alloc (.cells S 28)).heap.size=w.heap.size+1:=World.size_alloc _ _
 generalize hw1:w.alloc (.cells S 28)=w1 at *
 have b1:Below w.heap.size w w1:=by rw [←hw1];exact (Below.refl _ _).alloc (Nat.le_refl _) _
 have s1:Bk w1 w.heap.size 28 S:=by rw [←hw1];exact Bk.new _ _ _
 have r2:=Bk.new w1 54 R
 have k2:(w1.alloc (.cells R 54)).heap.size=w.heap.size+2:=by rw [World.size_alloc,k1]
 have b2:=b1.alloc (show w.heap.size≤w1.heap.size by omega) (.cells R 54)
 have s2:=s1.alloc (.cells R 54)
 rw [k1] at r2
 clear hw1
 generalize hw2:w1.alloc (.cells R 54)=w2 at *
 have l3:=Bk.new w2 56 L
 have k3:(w2.alloc (.cells L 56)).heap.size=w.heap.size+3:=by rw [World.size_alloc,k2]
 have b3:=b2.alloc (show w.heap.size≤w2.heap.size by omega) (.cells L 56)
 have s3:=s2.alloc (.cells L 56)
 have r3:=r2.alloc (.cells L 56)
 rw [k2] at l3
 clear hw2
 generalize hw3:w2.alloc (.cells L 56)=w3 at *
 have m4:=Bk.new w3 54 zrun
 have k4:(w3.alloc (.cells zrun 54)).heap.size=w.heap.size+4:=by rw [World.size_alloc,k3]
 have b4:=b3.alloc (show w.heap.size≤w3.heap.size by omega) (.cells zrun 54)
 have s4:=s3.alloc (.cells zrun 54)
 have r4:=r3.alloc (.cells zrun 54)
 have l4:=l3.alloc (.cells zrun 54)
 rw [k3] at m4
 clear hw3
 generalize hw4:w3.alloc (.cells zrun 54)=w4 at *
 have n5:=Bk.new w4 56 #[.int .u8 0,.int .i64 0,.int .i64 0,.int .u64 0,.string ⟨#[]⟩,.int .u64 0,.string ⟨#[]⟩,.string ⟨#[]⟩,.int .i64 0,.string ⟨#[]⟩]
 have k5:(w4.alloc (.cells #[.int .u8 0,.int .i64 0,.int .i64 0,.int .u64 0,.string ⟨#[]⟩,.int .u64 0,.string ⟨#[]⟩,.string ⟨#[]⟩,.int .i64 0,.string ⟨#[]⟩] 56)).heap.size=w.heap.size+5:=by rw [World.size_alloc,k4]
 have b5:=b4.alloc (show w.heap.size≤w4.heap.size by omega) (.cells #[.int .u8 0,.int .i64 0,.int .i64 0,.int .u64 0,.string ⟨#[]⟩,.int .u64 0,.string ⟨#[]⟩,.string ⟨#[]⟩,.int .i64 0,.string ⟨#[]⟩] 56)
 have s5:=s4.alloc (.cells #[.int .u8 0,.int .i64 0,.int .i64 0,.int .u64 0,.string ⟨#[]⟩,.int .u64 0,.string ⟨#[]⟩,.string ⟨#[]⟩,.int .i64 0,.string ⟨#[]⟩] 56)
 have r5:=r4.alloc (.cells #[.int .u8 0,.int .i64 0,.int .i64 0,.int .u64 0,.string ⟨#[]⟩,.int .u64 0,.string ⟨#[]⟩,.string ⟨#[]⟩,.int .i64 0,.string ⟨#[]⟩] 56)
 have l5:=l4.alloc (.cells #[.int .u8 0,.int .i64 0,.int .i64 0,.int .u64 0,.string ⟨#[]⟩,.int .u64 0,.string ⟨#[]⟩,.string ⟨#[]⟩,.int .i64 0,.string ⟨#[]⟩] 56)
 have m5:=m4.alloc (.cells #[.int .u8 0,.int .i64 0,.int .i64 0,.int .u64 0,.string ⟨#[]⟩,.int .u64 0,.string ⟨#[]⟩,.string ⟨#[]⟩,.int .i64 0,.string ⟨#[]⟩] 56)
 rw [k4] at n5
 clear hw4
 generalize hw5:w4.alloc (.cells #[.int .u8 0,.int .i64 0,.int .i64 0,.int .u64 0,.string ⟨#[]⟩,.int .u64 0,.string ⟨#[]⟩,.string ⟨#[]⟩,.int .i64 0,.string ⟨#[]⟩] 56)=w5 at *
 have x6:=Bk.new w5 140 X
 rw [k5] at x6
 exact ⟨b5.alloc (by omega) _,s5.alloc _,r5.alloc _,l5.alloc _,⟨m5.alloc _,n5.alloc _,by omega⟩,x6,by omega⟩
end Sg
set_option maxRecDepth 100000 in
set_option maxHeartbeats 32000000 in
theorem sgreply_any (sv:Value) (x:Id.Sch) (hF:Chk.Fine x) (r:Sg.Run) (hid:r.id.size≤100000) (hag:r.arg.size≤1000000) (fr most:Int) (l:Ev.Letter) (w:World) (hk:Tk.KW w) (hv:Id.SchV w none sv x) :
  Calls Tryz.prog 25 #[sv,r.val,.int .i64 fr,.int .i64 most,l.val] w fun e w'=>e=.returned (Sg.outV (Sg.reply Sg.argE x r fr most l))∧Below w.heap.size w w':=by
 have hoo:=fun W k v=>sgon_any sv x hF r hid hag fr W k v
 obtain ⟨R,HR⟩:∃ R,Hid (Sg.reply Sg.argE x r fr most l=R):=⟨_,Lib.hid rfl⟩
 rw [HR.out]
 unfold Sg.reply at HR
 obtain ⟨O,HO⟩:∃ R,Hid (Sg.on Sg.argE x r fr=R):=⟨_,Lib.hid rfl⟩
 have HRT:=Lib.hid (show O=true→Sg.Rt Sg.argE x r∧Sg.over r=false from fun h=>by
  rw [←HO.out] at h
  unfold Sg.on at h
  simp only [Bool.and_eq_true,decide_eq_true_eq,Bool.not_eq_true'] at h
  exact ⟨h.2,h.1.2⟩)
 rw [HO.out] at HR
 simp only [HO.out] at hoo
 have HKW:=Lib.hid hk
 have HV:=Lib.hid hv
 have HF:=Lib.hid hF
 have HID:=Lib.hid hid
 obtain ⟨A1,n1,c1,A2,n2,c2,A3,n3,c3,rfl,-,-,-⟩:=hv
 clear hk hF HO hag
 obtain ⟨i,sg,ag,a,p,t,st,y,va⟩:=r
 obtain ⟨l0,l1,l2,l3,l4,l5,l6,l7,l8,l9⟩:=l
 unfold Sg.Run.val Sg.Run.cells at hoo
 unfold Sg.Run.val Sg.Run.cells Ev.Letter.val
 simp only at hoo HR hid
 have HOO:=Lib.hid hoo
 clear hoo
 go_enter Tryz.func25,Tryz.ntmps25
 go_upto_region 2 with (fail)
 refine wp_named (fun V hV=>?_)
 have hX:Sg.Rp w V #[.string x.name,.slice A1 n1 c1,.slice A2 n2 c2,.slice A3 n3 c3] #[.string i,.string sg,.string ag,.int .i64 a,.int .u8 (p:Nat),.int .i64 t,.bool st,.int .i64 y,.string va] #[.int .u8 l0,.int .i64 l1,.int .i64 l2,.int .u64 l3,.string l4,.int .u64 l5,.string l6,.string l7,.int .i64 l8,.string l9] #[.string i,.string sg,.string ag,.int .i64 a,.int .u8 (p:Nat),.int .i64 t,.bool st,.int .i64 y,.string va,.string x.name,.slice A1 n1 c1,.slice A2 n2 c2,.slice A3 n3 c3,.int .i64 fr] (w.heap.size+1) (w.heap.size+2) (w.heap.size+3) (w.heap.size+4) (w.heap.size+5):=by rw [hV];exact Sg.Rp.start w _ _ _ _
 clear hV
 obtain ⟨KB,HKB⟩:∃ k,Hid (Sg.waits ⟨i,sg,ag,a,p,t,st,y,va⟩=k):=⟨_,Lib.hid rfl⟩
 obtain ⟨P2,HP2⟩:∃ k,Hid (decide (p=2)=k):=⟨_,Lib.hid rfl⟩
 have hky:=fun W=>skey_any i hid a P2 W
 have HKE:Hid (Sd.keyB i a P2=KB):=Lib.hid (by rw [←HKB.out,←HP2.out];rfl)
 simp only [HKE.out] at hky
 rw [HKB.out] at HR
 have hpb:((p:Int)==2)=P2:=by rw [←HP2.out,Bool.eq_iff_iff,beq_iff_eq,decide_eq_true_eq];omega
 have dS:=fun (w':World) (hb:Bl V w')=>hX.s.below hb hX.s.lt
 have dR:=fun (w':World) (hb:Bl V w')=>hX.r.below hb hX.r.lt
 have dR0:=fun (w':World) (hb:Bl V w')=>(hX.r.below hb hX.r.lt).cell 0
 have dR3:=fun (w':World) (hb:Bl V w')=>(hX.r.below hb hX.r.lt).cell 3
 have dR4:=fun (w':World) (hb:Bl V w')=>(hX.r.below hb hX.r.lt).cell 4
 have dL0:=fun (w':World) (hb:Bl V w')=>(hX.l.below hb hX.l.lt).cell 0
 have dL4:=fun (w':World) (hb:Bl V w')=>(hX.l.below hb hX.l.lt).cell 4
 simp only [List.getElem?_toArray,List.getElem?_cons_zero,List.getElem?_cons_succ] at dR0 dR3 dR4 dL0 dL4
 have hOn:=fun (w':World) (hb:Bl V w')=>calls_bl hb (HOO.out w' (HKW.out.below (hX.bel.trans (Below.mono hb hX.bel.size))) (Id.SchV.below (hX.bel.trans (Below.mono hb hX.bel.size)) HV.out))
 have hKy:=fun (w':World) (hb:Bl V w')=>calls_bl hb (hky w')
 obtain ⟨KQ,HKQ⟩:∃ b,Hid ((l4.toList==KB.toList)=b):=⟨_,Lib.hid rfl⟩
 have hkq:=HKQ.out
 have hne:∀ b:Bool,¬(undef=.bool b):=fun b h=>by cases h
 have HCL:=Lib.hid (show ∀ b:Bool,b=b from fun _=>rfl)
 by_cases hgo:O=true∧l0=2∧KQ=true
 case neg =>
  have HE0:Hid (R=(⟨i,sg,ag,a,p,t,st,y,va⟩,Ev.Letter.zero,false,false)):=Lib.hid (by rw [←HR.out,if_neg (fun h=>hgo ⟨h.1,h.2.1,by rw [←HKQ.out,beq_iff_eq];exact h.2.2⟩)])
  cases O with
  | false =>
   refine wp_region_bl V (by kernel_rfl) (by kernel_rfl) (Bl.refl _) ?_
   repeat (first | go_big_quiet_step ((intro hb;first | (go_at_call 76;exact hOn _ hb) | (go_at_call 29;exact hKy _ hb))) | (refine wpQuiet_step (fun K hK=>?_);rw [if_pos (by rfl)];refine quiet_load_row _ _ rfl _ rfl _ _ _ (by assumption) Tryz.underlying28 rfl (by kernel_rfl) ?_;go_simp;refine hK _ ?_;clear hK K) | (refine wpQuiet_step (fun K hK=>?_);rw [if_pos (by rfl)];refine quiet_load_row _ _ rfl _ rfl _ _ _ (by assumption) Tryz.underlying54 rfl (by kernel_rfl) ?_;go_simp;refine hK _ ?_;clear hK K) | (refine wpQuiet_step (fun K hK=>?_);rw [if_pos (by rfl)];refine Lst.load_cell _ _ rfl _ rfl _ (by assumption) _ Tryz.underlying9 rfl ?_;go_simp;refine hK _ ?_;clear hK K) | (refine wpQuiet_step (fun K hK=>?_);rw [if_pos (by rfl)];refine Lst.load_cell _ _ rfl _ rfl _ (by assumption) _ Tryz.underlying3 rfl ?_;go_simp;refine hK _ ?_;clear hK K) | (refine wpQuiet_step (fun K hK=>?_);rw [if_pos (by rfl)];refine Lst.load_cell _ _ rfl _ rfl _ (by assumption) _ Tryz.underlying5 rfl ?_;go_simp;refine hK _ ?_;clear hK K) | (refine wpQuiet_step (fun K hK=>?_);rw [if_pos (by rfl)];refine Lst.load_cell _ _ rfl _ rfl _ (by assumption) _ Tryz.underlying4 rfl ?_;go_simp;refine hK _ ?_;clear hK K) | (refine wpQuiet_step (fun K hK=>?_);go_simp;refine ⟨_,fun _ _=>rfl,hK _ ?_⟩;clear hK K))
   refine wpQuiet_nil ?_
   intro W1 hW1
   have hX2:=hX.below hW1
   clear dS dR dR0 dR3 dR4 dL0 dL4 hOn hKy hX hW1
   have hX:=hX2
   clear hX2
   have HE:Hid (R=(⟨i,sg,ag,a,p,t,st,y,va⟩,Ev.Letter.zero,false,false)):=Lib.hid HE0.out
   have hL:=hX.r
   have hle:=hX.le
   have hQ:=hX.q
   have hB:=hX.bel
   (have hq1:=hQ.r;have hq2:=(hQ.setR #[.string i,.string sg,.string ag,.int .i64 a,.int .u8 (p:Nat),.int .i64 t,.bool st,.int .i64 y,.string va]).l;unfold Bk at hq1 hq2)
   go_wp2_with (first | (refine wpList_load_row rfl _ _ rfl _ rfl _ _ _ _ hL Tryz.underlying54 rfl (by kernel_rfl) ?_) | (refine wpList_store_row rfl _ _ _ rfl _ _ rfl rfl _ _ (by with_reducible assumption) (by kernel_rfl) (by rfl) (by simp [Value.oneCell']) ?_))
   (refine Sg.ret_cctt rfl _ _ rfl rfl _ _ _ _ _ _ (hQ.both _ _).r (hQ.both _ _).l Tryz.underlying54 rfl (by kernel_rfl) Tryz.underlying56 rfl (by kernel_rfl) rfl ⟨?_,Sg.below_both hB (by omega) (by omega) _ _⟩)
   rw [HE.out]
   rfl
  | true =>
   by_cases hl0:l0=2
   ·have hu0:((l0:Int) != 2)=false:=by rw [bne_eq_false_iff_eq];omega
    cases KQ with
    | true=>exact absurd ⟨rfl,hl0,rfl⟩ hgo
    | false =>
     refine wp_region_bl V (by kernel_rfl) (by kernel_rfl) (Bl.refl _) ?_
     repeat (first | go_big_quiet_step ((intro hb;first | (go_at_call 76;exact hOn _ hb) | (go_at_call 29;exact hKy _ hb))) | (refine wpQuiet_step (fun K hK=>?_);rw [if_pos (by rfl)];refine quiet_load_row _ _ rfl _ rfl _ _ _ (by assumption) Tryz.underlying28 rfl (by kernel_rfl) ?_;go_simp;refine hK _ ?_;clear hK K) | (refine wpQuiet_step (fun K hK=>?_);rw [if_pos (by rfl)];refine quiet_load_row _ _ rfl _ rfl _ _ _ (by assumption) Tryz.underlying54 rfl (by kernel_rfl) ?_;go_simp;refine hK _ ?_;clear hK K) | (refine wpQuiet_step (fun K hK=>?_);rw [if_pos (by rfl)];refine Lst.load_cell _ _ rfl _ rfl _ (by assumption) _ Tryz.underlying9 rfl ?_;go_simp;refine hK _ ?_;clear hK K) | (refine wpQuiet_step (fun K hK=>?_);rw [if_pos (by rfl)];refine Lst.load_cell _ _ rfl _ rfl _ (by assumption) _ Tryz.underlying3 rfl ?_;go_simp;refine hK _ ?_;clear hK K) | (refine wpQuiet_step (fun K hK=>?_);rw [if_pos (by rfl)];refine Lst.load_cell _ _ rfl _ rfl _ (by assumption) _ Tryz.underlying5 rfl ?_;go_simp;refine hK _ ?_;clear hK K) | (refine wpQuiet_step (fun K hK=>?_);rw [if_pos (by rfl)];refine Lst.load_cell _ _ rfl _ rfl _ (by assumption) _ Tryz.underlying4 rfl ?_;go_simp;refine hK _ ?_;clear hK K) | (refine wpQuiet_step (fun K hK=>?_);go_simp;refine ⟨_,fun _ _=>rfl,hK _ ?_⟩;clear hK K))
     refine wpQuiet_nil ?_
     intro W1 hW1
     have hX2:=hX.below hW1
     clear dS dR dR0 dR3 dR4 dL0 dL4 hOn hKy hX hW1
     have hX:=hX2
     clear hX2
     have HE:Hid (R=(⟨i,sg,ag,a,p,t,st,y,va⟩,Ev.Letter.zero,false,false)):=Lib.hid HE0.out
     have hL:=hX.r
     have hle:=hX.le
     have hQ:=hX.q
     have hB:=hX.bel
     (have hq1:=hQ.r;have hq2:=(hQ.setR #[.string i,.string sg,.string ag,.int .i64 a,.int .u8 (p:Nat),.int .i64 t,.bool st,.int .i64 y,.string va]).l;unfold Bk at hq1 hq2)
     go_wp2_with (first | (refine wpList_load_row rfl _ _ rfl _ rfl _ _ _ _ hL Tryz.underlying54 rfl (by kernel_rfl) ?_) | (refine wpList_store_row rfl _ _ _ rfl _ _ rfl rfl _ _ (by with_reducible assumption) (by kernel_rfl) (by rfl) (by simp [Value.oneCell']) ?_))
     (refine Sg.ret_cctt rfl _ _ rfl rfl _ _ _ _ _ _ (hQ.both _ _).r (hQ.both _ _).l Tryz.underlying54 rfl (by kernel_rfl) Tryz.underlying56 rfl (by kernel_rfl) rfl ⟨?_,Sg.below_both hB (by omega) (by omega) _ _⟩)
     rw [HE.out]
     rfl
   ·have hu0:((l0:Int) != 2)=true:=by rw [bne_iff_ne];omega
    refine wp_region_bl V (by kernel_rfl) (by kernel_rfl) (Bl.refl _) ?_
    repeat (first | go_big_quiet_step ((intro hb;first | (go_at_call 76;exact hOn _ hb) | (go_at_call 29;exact hKy _ hb))) | (refine wpQuiet_step (fun K hK=>?_);rw [if_pos (by rfl)];refine quiet_load_row _ _ rfl _ rfl _ _ _ (by assumption) Tryz.underlying28 rfl (by kernel_rfl) ?_;go_simp;refine hK _ ?_;clear hK K) | (refine wpQuiet_step (fun K hK=>?_);rw [if_pos (by rfl)];refine quiet_load_row _ _ rfl _ rfl _ _ _ (by assumption) Tryz.underlying54 rfl (by kernel_rfl) ?_;go_simp;refine hK _ ?_;clear hK K) | (refine wpQuiet_step (fun K hK=>?_);rw [if_pos (by rfl)];refine Lst.load_cell _ _ rfl _ rfl _ (by assumption) _ Tryz.underlying9 rfl ?_;go_simp;refine hK _ ?_;clear hK K) | (refine wpQuiet_step (fun K hK=>?_);rw [if_pos (by rfl)];refine Lst.load_cell _ _ rfl _ rfl _ (by assumption) _ Tryz.underlying3 rfl ?_;go_simp;refine hK _ ?_;clear hK K) | (refine wpQuiet_step (fun K hK=>?_);rw [if_pos (by rfl)];refine Lst.load_cell _ _ rfl _ rfl _ (by assumption) _ Tryz.underlying5 rfl ?_;go_simp;refine hK _ ?_;clear hK K) | (refine wpQuiet_step (fun K hK=>?_);rw [if_pos (by rfl)];refine Lst.load_cell _ _ rfl _ rfl _ (by assumption) _ Tryz.underlying4 rfl ?_;go_simp;refine hK _ ?_;clear hK K) | (refine wpQuiet_step (fun K hK=>?_);go_simp;refine ⟨_,fun _ _=>rfl,hK _ ?_⟩;clear hK K))
    refine wpQuiet_nil ?_
    intro W1 hW1
    have hX2:=hX.below hW1
    clear dS dR dR0 dR3 dR4 dL0 dL4 hOn hKy hX hW1
    have hX:=hX2
    clear hX2
    have HE:Hid (R=(⟨i,sg,ag,a,p,t,st,y,va⟩,Ev.Letter.zero,false,false)):=Lib.hid HE0.out
    have hL:=hX.r
    have hle:=hX.le
    have hQ:=hX.q
    have hB:=hX.bel
    (have hq1:=hQ.r;have hq2:=(hQ.setR #[.string i,.string sg,.string ag,.int .i64 a,.int .u8 (p:Nat),.int .i64 t,.bool st,.int .i64 y,.string va]).l;unfold Bk at hq1 hq2)
    go_wp2_with (first | (refine wpList_load_row rfl _ _ rfl _ rfl _ _ _ _ hL Tryz.underlying54 rfl (by kernel_rfl) ?_) | (refine wpList_store_row rfl _ _ _ rfl _ _ rfl rfl _ _ (by with_reducible assumption) (by kernel_rfl) (by rfl) (by simp [Value.oneCell']) ?_))
    (refine Sg.ret_cctt rfl _ _ rfl rfl _ _ _ _ _ _ (hQ.both _ _).r (hQ.both _ _).l Tryz.underlying54 rfl (by kernel_rfl) Tryz.underlying56 rfl (by kernel_rfl) rfl ⟨?_,Sg.below_both hB (by omega) (by omega) _ _⟩)
    rw [HE.out]
    rfl
 obtain ⟨rfl,hl0,rfl⟩:=hgo
 have HR2:Hid (Sg.took x ⟨i,sg,ag,a,p,t,st,y,va⟩ fr most ⟨l0,l1,l2,l3,l4,l5,l6,l7,l8,l9⟩=R):=Lib.hid (by rw [←HR.out,if_pos ⟨rfl,hl0,by have h:=HKQ.out;rwa [beq_iff_eq] at h⟩])
 clear HR
 unfold Sg.took at HR2
 simp only at HR2
 have hu0:((l0:Int) != 2)=false:=by rw [bne_eq_false_iff_eq];omega
 refine wp_region_bl V (by kernel_rfl) (by kernel_rfl) (Bl.refl _) ?_
 repeat (first | go_big_quiet_step ((intro hb;first | (go_at_call 76;exact hOn _ hb) | (go_at_call 29;exact hKy _ hb))) | (refine wpQuiet_step (fun K hK=>?_);rw [if_pos (by rfl)];refine quiet_load_row _ _ rfl _ rfl _ _ _ (by assumption) Tryz.underlying28 rfl (by kernel_rfl) ?_;go_simp;refine hK _ ?_;clear hK K) | (refine wpQuiet_step (fun K hK=>?_);rw [if_pos (by rfl)];refine quiet_load_row _ _ rfl _ rfl _ _ _ (by assumption) Tryz.underlying54 rfl (by kernel_rfl) ?_;go_simp;refine hK _ ?_;clear hK K) | (refine wpQuiet_step (fun K hK=>?_);rw [if_pos (by rfl)];refine Lst.load_cell _ _ rfl _ rfl _ (by assumption) _ Tryz.underlying9 rfl ?_;go_simp;refine hK _ ?_;clear hK K) | (refine wpQuiet_step (fun K hK=>?_);rw [if_pos (by rfl)];refine Lst.load_cell _ _ rfl _ rfl _ (by assumption) _ Tryz.underlying3 rfl ?_;go_simp;refine hK _ ?_;clear hK K) | (refine wpQuiet_step (fun K hK=>?_);rw [if_pos (by rfl)];refine Lst.load_cell _ _ rfl _ rfl _ (by assumption) _ Tryz.underlying5 rfl ?_;go_simp;refine hK _ ?_;clear hK K) | (refine wpQuiet_step (fun K hK=>?_);rw [if_pos (by rfl)];refine Lst.load_cell _ _ rfl _ rfl _ (by assumption) _ Tryz.underlying4 rfl ?_;go_simp;refine hK _ ?_;clear hK K) | (refine wpQuiet_step (fun K hK=>?_);go_simp;refine ⟨_,fun _ _=>rfl,hK _ ?_⟩;clear hK K))
 refine wpQuiet_nil ?_
 intro W1 hW1
 have hX2:=hX.below hW1
 clear dS dR dR0 dR3 dR4 dL0 dL4 hOn hKy hX hW1
 have hX:=hX2
 clear hX2
 obtain ⟨hrt,hov⟩:=HRT.out rfl
 have h12:=Sg.not_over hrt hov
 have ha0:0≤a:=hrt.a0
 have han:a<((Sd.steps x sg).1:Int):=hrt.an
 have ht0:0≤t:=hrt.t0
 have ht29:t≤29:=hrt.t29
 have hns:=Sg.steps_small HF.out sg
 have HRT2:=Lib.hid hrt
 clear HRT hov hrt hu0 hkq hky HOO hne
 simp only at h12
 by_cases hp:p=2
 case pos =>
  rw [if_pos hp] at HR2
  have hP:P2=true:=by rw [←HP2.out];exact decide_eq_true hp
  subst hP
  clear hp h12 hl0
  have r4:=hX.r.cell 4
  have r7:=hX.r.cell 7
  have y8:=hX.l.cell 8
  have x5:=hX.x.cell 5
  have f5:=hX.x.frozen 5
  simp only [List.getElem?_toArray,List.getElem?_cons_zero,List.getElem?_cons_succ] at r4 r7 y8 x5
  by_cases hc:l8=0
  case pos =>
   have hcb:((l8:Int)==0)=true:=by rw [beq_iff_eq];exact hc
   rw [if_pos hc] at HR2
   have HE:Hid (R=Sg.back x ⟨i,sg,ag,a,p,t,st,y,va⟩ fr y):=Lib.hid HR2.out.symm
   obtain ⟨⟨⟨m0,m1,m2,m3,m4,m5,m6,m7,m8⟩,⟨k0,k1,k2,k3,k4,k5,k6,k7,k8,k9⟩,cl,tk⟩,HQQ⟩:∃ q:Sg.Run × Ev.Letter × Bool × Bool,Hid (Sg.back x ⟨i,sg,ag,a,p,t,st,y,va⟩ fr y=q):=⟨_,Lib.hid rfl⟩
   have hco:=sgback_any x HF.out ⟨i,sg,ag,a,p,t,st,y,va⟩ HID.out (.string x.name) (.slice A1 n1 c1) (.slice A2 n2 c2) (.slice A3 n3 c3) fr y ⟨by show -9223372036854775808≤a - 1;omega,by show a≤9223372036854775807;omega⟩ _ (HKW.out.below hX.bel) (Id.SchV.below hX.bel HV.out)
   rw [HQQ.out] at hco
   have HCO:=Lib.hid hco
   clear hco
   have hL:=hX.x
   go_wp2_with (refine wpList_load_row rfl _ _ rfl _ rfl _ _ _ _ hL Tryz.underlying140 rfl (by kernel_rfl) ?_)
   refine HCO.out.mono ?_
   unfold Sg.outV Sg.Run.val Sg.Run.cells Ev.Letter.val
   rintro e Wf ⟨rfl,hb⟩
   have hle:=hX.le
   have hB:=hX.bel.trans (hb.mono hX.bel.size)
   have hQ:=hX.q.below hb hX.q.r.lt hX.q.l.lt
   clear hb hL HCO hX
   (have hq1:=hQ.r;have hq2:=(hQ.setR #[.string m0,.string m1,.string m2,.int .i64 m3,.int .u8 (m4:Nat),.int .i64 m5,.bool m6,.int .i64 m7,.string m8]).l;unfold Bk at hq1 hq2)
   go_wp2_with (refine wpList_store_row rfl _ _ _ rfl _ _ rfl rfl _ _ (by with_reducible assumption) (by kernel_rfl) (by rfl) (by simp [Value.oneCell']) ?_)
   (refine Sg.ret_cctt rfl _ _ rfl rfl _ _ _ _ _ _ (hQ.both _ _).r (hQ.both _ _).l Tryz.underlying54 rfl (by kernel_rfl) Tryz.underlying56 rfl (by kernel_rfl) rfl ⟨?_,Sg.below_both hB (by omega) (by omega) _ _⟩)
   rw [HE.out,HQQ.out]
   rfl
  have hcb:((l8:Int)==0)=false:=by rw [beq_eq_false_iff_ne];exact hc
  rw [if_neg hc] at HR2
  have hw5:IntKind.i64.wrap (t+1)=t+1:=by rw [IntKind.wrap_i64];omega
  go_upto_region 8 with (fail)
  refine wp_named (fun V8 hV=>?_)
  have hX2:Sg.Rp w V8 #[.string x.name,.slice A1 n1 c1,.slice A2 n2 c2,.slice A3 n3 c3] #[.string i,.string sg,.string ag,.int .i64 a,.int .u8 (p:Nat),.int .i64 t,.bool st,.int .i64 y,.string va] #[.int .u8 l0,.int .i64 l1,.int .i64 l2,.int .u64 l3,.string l4,.int .u64 l5,.string l6,.string l7,.int .i64 l8,.string l9] #[.string i,.string sg,.string ag,.int .i64 a,.int .u8 (p:Nat),.int .i64 (t+1),.bool st,.int .i64 y,.string va,.string x.name,.slice A1 n1 c1,.slice A2 n2 c2,.slice A3 n3 c3,.int .i64 fr] (w.heap.size+1) (w.heap.size+2) (w.heap.size+3) (w.heap.size+4) (w.heap.size+5):=by rw [hV];exact hX.set_ 5 _
  clear hX hV hw5 r4 r7 y8 x5 f5
  have hX:=hX2
  clear hX2
  have x4:=hX.x.cell 4
  have f4:=hX.x.frozen 4
  have x5:=hX.x.cell 5
  have f5:=hX.x.frozen 5
  simp only [List.getElem?_toArray,List.getElem?_cons_zero,List.getElem?_cons_succ] at x4 x5
  by_cases hs:most≤t+1∨29≤t+1
  case pos =>
   rw [if_pos hs] at HR2
   obtain ⟨T,HT⟩:∃ T,Hid (min (t+1) 29=T):=⟨_,Lib.hid rfl⟩
   rw [HT.out] at HR2
   have HS:=Lib.hid hs
   clear hs
   by_cases hm:most≤t+1
   all_goals
    try have h29:=HS.out.resolve_left hm
    go_upto_region 9 with (fail)
    have hmin:=HT.out
    go_upto_region 10 with (fail)
    refine wp_named (fun V10 hV=>?_)
    have hX2:Sg.Rp w V10 #[.string x.name,.slice A1 n1 c1,.slice A2 n2 c2,.slice A3 n3 c3] #[.string i,.string sg,.string ag,.int .i64 a,.int .u8 (p:Nat),.int .i64 t,.bool st,.int .i64 y,.string va] #[.int .u8 l0,.int .i64 l1,.int .i64 l2,.int .u64 l3,.string l4,.int .u64 l5,.string l6,.string l7,.int .i64 l8,.string l9] #[.string i,.string sg,.string ag,.int .i64 a,.int .u8 5,.int .i64 T,.bool st,.int .i64 y,.string va,.string x.name,.slice A1 n1 c1,.slice A2 n2 c2,.slice A3 n3 c3,.int .i64 fr] (w.heap.size+1) (w.heap.size+2) (w.heap.size+3) (w.heap.size+4) (w.heap.size+5):=by rw [hV];exact (hX.set_ 5 _).set_ 4 _
    clear hX hV hmin x4 x5 f4 f5
    have hX:=hX2
    clear hX2
    have HE:Hid (R=(⟨i,sg,ag,a,5,T,st,y,va⟩,Ev.Letter.zero,false,true)):=Lib.hid HR2.out.symm
    obtain ⟨⟨⟨m0,m1,m2,m3,m4,m5,m6,m7,m8⟩,⟨k0,k1,k2,k3,k4,k5,k6,k7,k8,k9⟩,cl,tk⟩,HQQ⟩:∃ q:Sg.Run × Ev.Letter × Bool × Bool,Hid (((⟨i,sg,ag,a,5,T,st,y,va⟩,Ev.Letter.zero,false,true):Sg.Run × Ev.Letter × Bool × Bool)=q):=⟨_,Lib.hid rfl⟩
    have hco:=sgquiet_any ⟨i,sg,ag,a,5,T,st,y,va⟩ (.string x.name) (.slice A1 n1 c1) (.slice A2 n2 c2) (.slice A3 n3 c3) fr V10
    rw [HQQ.out] at hco
    have HCO:=Lib.hid hco
    clear hco
    have hL:=hX.x
    go_wp2_with (refine wpList_load_row rfl _ _ rfl _ rfl _ _ _ _ hL Tryz.underlying140 rfl (by kernel_rfl) ?_)
    refine HCO.out.mono ?_
    unfold Sg.outV Sg.Run.val Sg.Run.cells Ev.Letter.val
    rintro e Wf ⟨rfl,hb⟩
    have hle:=hX.le
    have hB:=hX.bel.trans (hb.mono hX.bel.size)
    have hQ:=hX.q.below hb hX.q.r.lt hX.q.l.lt
    clear hb hL HCO hX
    (have hq1:=hQ.r;have hq2:=(hQ.setR #[.string m0,.string m1,.string m2,.int .i64 m3,.int .u8 (m4:Nat),.int .i64 m5,.bool m6,.int .i64 m7,.string m8]).l;unfold Bk at hq1 hq2)
    go_wp2_with (refine wpList_store_row rfl _ _ _ rfl _ _ rfl rfl _ _ (by with_reducible assumption) (by kernel_rfl) (by rfl) (by simp [Value.oneCell']) ?_)
    (refine Sg.ret_cctt rfl _ _ rfl rfl _ _ _ _ _ _ (hQ.both _ _).r (hQ.both _ _).l Tryz.underlying54 rfl (by kernel_rfl) Tryz.underlying56 rfl (by kernel_rfl) rfl ⟨?_,Sg.below_both hB (by omega) (by omega) _ _⟩)
    rw [HE.out,HQQ.out]
    rfl
  rw [if_neg hs] at HR2
  have hs1:¬most≤t+1:=fun h=>hs (.inl h)
  have hs2:¬29≤t+1:=fun h=>hs (.inr h)
  go_upto_region 11 with (fail)
  clear x4 x5 f4 f5
  have HE:Hid (R=(⟨i,sg,ag,a,p,t+1,st,y,va⟩,Sg.nextL x ⟨i,sg,ag,a,p,t+1,st,y,va⟩ fr,true,true)):=Lib.hid HR2.out.symm
  obtain ⟨⟨⟨m0,m1,m2,m3,m4,m5,m6,m7,m8⟩,⟨k0,k1,k2,k3,k4,k5,k6,k7,k8,k9⟩,cl,tk⟩,HQQ⟩:∃ q:Sg.Run × Ev.Letter × Bool × Bool,Hid (((⟨i,sg,ag,a,p,t+1,st,y,va⟩,Sg.nextL x ⟨i,sg,ag,a,p,t+1,st,y,va⟩ fr,true,true):Sg.Run × Ev.Letter × Bool × Bool)=q):=⟨_,Lib.hid rfl⟩
  have hco:=sgcalling_any x HF.out ⟨i,sg,ag,a,p,t+1,st,y,va⟩ HID.out (.string x.name) (.slice A1 n1 c1) (.slice A2 n2 c2) (.slice A3 n3 c3) fr _ (HKW.out.below hX.bel) (Id.SchV.below hX.bel HV.out)
  rw [HQQ.out] at hco
  have HCO:=Lib.hid hco
  clear hco
  have hL:=hX.x
  go_wp2_with (refine wpList_load_row rfl _ _ rfl _ rfl _ _ _ _ hL Tryz.underlying140 rfl (by kernel_rfl) ?_)
  refine HCO.out.mono ?_
  unfold Sg.outV Sg.Run.val Sg.Run.cells Ev.Letter.val
  rintro e Wf ⟨rfl,hb⟩
  have hle:=hX.le
  have hB:=hX.bel.trans (hb.mono hX.bel.size)
  have hQ:=hX.q.below hb hX.q.r.lt hX.q.l.lt
  clear hb hL HCO hX
  (have hq1:=hQ.r;have hq2:=(hQ.setR #[.string m0,.string m1,.string m2,.int .i64 m3,.int .u8 (m4:Nat),.int .i64 m5,.bool m6,.int .i64 m7,.string m8]).l;unfold Bk at hq1 hq2)
  go_wp2_with (refine wpList_store_row rfl _ _ _ rfl _ _ rfl rfl _ _ (by with_reducible assumption) (by kernel_rfl) (by rfl) (by simp [Value.oneCell']) ?_)
  (refine Sg.ret_cctt rfl _ _ rfl rfl _ _ _ _ _ _ (hQ.both _ _).r (hQ.both _ _).l Tryz.underlying54 rfl (by kernel_rfl) Tryz.underlying56 rfl (by kernel_rfl) rfl ⟨?_,Sg.below_both hB (by omega) (by omega) _ _⟩)
  rw [HE.out,HQQ.out]
  rfl
 rw [if_neg hp] at HR2
 clear h12 hl0
 have hP:P2=false:=by rw [←HP2.out];exact decide_eq_false hp
 subst hP
 have u1:¬(p:Int)=2:=by omega
 have r1:=hX.r.cell 1
 have r3:=hX.r.cell 3
 have r4:=hX.r.cell 4
 have y8:=hX.l.cell 8
 have y9:=hX.l.cell 9
 have x3:=hX.x.cell 3
 have f3:=hX.x.frozen 3
 have x4:=hX.x.cell 4
 have f4:=hX.x.frozen 4
 have x6:=hX.x.cell 6
 have f6:=hX.x.frozen 6
 have x8:=hX.x.cell 8
 have f8:=hX.x.frozen 8
 simp only [List.getElem?_toArray,List.getElem?_cons_zero,List.getElem?_cons_succ] at r1 r3 r4 y8 y9 x3 x4 x6 x8
 by_cases hc:l8=0
 case neg =>
  have hcb:((l8:Int) != 0)=true:=by rw [bne_iff_ne];exact hc
  rw [if_pos hc] at HR2
  obtain ⟨Y,HY⟩:∃ Y,Hid ((if l8<0∨999<l8 then 999 else l8:Int)=Y):=⟨_,Lib.hid rfl⟩
  rw [HY.out] at HR2
  by_cases hc1:l8<0
  case pos =>
   have hY:Y=999:=by rw [←HY.out,if_pos (.inl hc1)]
   subst hY
   go_upto_region 16 with (fail)
   have HE:Hid (R=Sg.back x ⟨i,sg,ag,a,p,t,st,y,va⟩ fr 999):=Lib.hid HR2.out.symm
   obtain ⟨⟨⟨m0,m1,m2,m3,m4,m5,m6,m7,m8⟩,⟨k0,k1,k2,k3,k4,k5,k6,k7,k8,k9⟩,cl,tk⟩,HQQ⟩:∃ q:Sg.Run × Ev.Letter × Bool × Bool,Hid (Sg.back x ⟨i,sg,ag,a,p,t,st,y,va⟩ fr 999=q):=⟨_,Lib.hid rfl⟩
   have hco:=sgback_any x HF.out ⟨i,sg,ag,a,p,t,st,y,va⟩ HID.out (.string x.name) (.slice A1 n1 c1) (.slice A2 n2 c2) (.slice A3 n3 c3) fr 999 ⟨by show -9223372036854775808≤a - 1;omega,by show a≤9223372036854775807;omega⟩ _ (HKW.out.below hX.bel) (Id.SchV.below hX.bel HV.out)
   rw [HQQ.out] at hco
   have HCO:=Lib.hid hco
   clear hco
   have hL:=hX.x
   go_wp2_with (refine wpList_load_row rfl _ _ rfl _ rfl _ _ _ _ hL Tryz.underlying140 rfl (by kernel_rfl) ?_)
   refine HCO.out.mono ?_
   unfold Sg.outV Sg.Run.val Sg.Run.cells Ev.Letter.val
   rintro e Wf ⟨rfl,hb⟩
   have hle:=hX.le
   have hB:=hX.bel.trans (hb.mono hX.bel.size)
   have hQ:=hX.q.below hb hX.q.r.lt hX.q.l.lt
   clear hb hL HCO hX
   (have hq1:=hQ.r;have hq2:=(hQ.setR #[.string m0,.string m1,.string m2,.int .i64 m3,.int .u8 (m4:Nat),.int .i64 m5,.bool m6,.int .i64 m7,.string m8]).l;unfold Bk at hq1 hq2)
   go_wp2_with (refine wpList_store_row rfl _ _ _ rfl _ _ rfl rfl _ _ (by with_reducible assumption) (by kernel_rfl) (by rfl) (by simp [Value.oneCell']) ?_)
   (refine Sg.ret_cctt rfl _ _ rfl rfl _ _ _ _ _ _ (hQ.both _ _).r (hQ.both _ _).l Tryz.underlying54 rfl (by kernel_rfl) Tryz.underlying56 rfl (by kernel_rfl) rfl ⟨?_,Sg.below_both hB (by omega) (by omega) _ _⟩)
   rw [HE.out,HQQ.out]
   rfl
  by_cases hc2:999<l8
  case pos =>
   have hY:Y=999:=by rw [←HY.out,if_pos (.inr hc2)]
   subst hY
   go_upto_region 16 with (fail)
   have HE:Hid (R=Sg.back x ⟨i,sg,ag,a,p,t,st,y,va⟩ fr 999):=Lib.hid HR2.out.symm
   obtain ⟨⟨⟨m0,m1,m2,m3,m4,m5,m6,m7,m8⟩,⟨k0,k1,k2,k3,k4,k5,k6,k7,k8,k9⟩,cl,tk⟩,HQQ⟩:∃ q:Sg.Run × Ev.Letter × Bool × Bool,Hid (Sg.back x ⟨i,sg,ag,a,p,t,st,y,va⟩ fr 999=q):=⟨_,Lib.hid rfl⟩
   have hco:=sgback_any x HF.out ⟨i,sg,ag,a,p,t,st,y,va⟩ HID.out (.string x.name) (.slice A1 n1 c1) (.slice A2 n2 c2) (.slice A3 n3 c3) fr 999 ⟨by show -9223372036854775808≤a - 1;omega,by show a≤9223372036854775807;omega⟩ _ (HKW.out.below hX.bel) (Id.SchV.below hX.bel HV.out)
   rw [HQQ.out] at hco
   have HCO:=Lib.hid hco
   clear hco
   have hL:=hX.x
   go_wp2_with (refine wpList_load_row rfl _ _ rfl _ rfl _ _ _ _ hL Tryz.underlying140 rfl (by kernel_rfl) ?_)
   refine HCO.out.mono ?_
   unfold Sg.outV Sg.Run.val Sg.Run.cells Ev.Letter.val
   rintro e Wf ⟨rfl,hb⟩
   have hle:=hX.le
   have hB:=hX.bel.trans (hb.mono hX.bel.size)
   have hQ:=hX.q.below hb hX.q.r.lt hX.q.l.lt
   clear hb hL HCO hX
   (have hq1:=hQ.r;have hq2:=(hQ.setR #[.string m0,.string m1,.string m2,.int .i64 m3,.int .u8 (m4:Nat),.int .i64 m5,.bool m6,.int .i64 m7,.string m8]).l;unfold Bk at hq1 hq2)
   go_wp2_with (refine wpList_store_row rfl _ _ _ rfl _ _ rfl rfl _ _ (by with_reducible assumption) (by kernel_rfl) (by rfl) (by simp [Value.oneCell']) ?_)
   (refine Sg.ret_cctt rfl _ _ rfl rfl _ _ _ _ _ _ (hQ.both _ _).r (hQ.both _ _).l Tryz.underlying54 rfl (by kernel_rfl) Tryz.underlying56 rfl (by kernel_rfl) rfl ⟨?_,Sg.below_both hB (by omega) (by omega) _ _⟩)
   rw [HE.out,HQQ.out]
   rfl
  have hY:Y=l8:=by rw [←HY.out,if_neg (by omega)]
  subst hY
  go_upto_region 16 with (fail)
  have HE:Hid (R=Sg.back x ⟨i,sg,ag,a,p,t,st,y,va⟩ fr Y):=Lib.hid HR2.out.symm
  obtain ⟨⟨⟨m0,m1,m2,m3,m4,m5,m6,m7,m8⟩,⟨k0,k1,k2,k3,k4,k5,k6,k7,k8,k9⟩,cl,tk⟩,HQQ⟩:∃ q:Sg.Run × Ev.Letter × Bool × Bool,Hid (Sg.back x ⟨i,sg,ag,a,p,t,st,y,va⟩ fr Y=q):=⟨_,Lib.hid rfl⟩
  have hco:=sgback_any x HF.out ⟨i,sg,ag,a,p,t,st,y,va⟩ HID.out (.string x.name) (.slice A1 n1 c1) (.slice A2 n2 c2) (.slice A3 n3 c3) fr Y ⟨by show -9223372036854775808≤a - 1;omega,by show a≤9223372036854775807;omega⟩ _ (HKW.out.below hX.bel) (Id.SchV.below hX.bel HV.out)
  rw [HQQ.out] at hco
  have HCO:=Lib.hid hco
  clear hco
  have hL:=hX.x
  go_wp2_with (refine wpList_load_row rfl _ _ rfl _ rfl _ _ _ _ hL Tryz.underlying140 rfl (by kernel_rfl) ?_)
  refine HCO.out.mono ?_
  unfold Sg.outV Sg.Run.val Sg.Run.cells Ev.Letter.val
  rintro e Wf ⟨rfl,hb⟩
  have hle:=hX.le
  have hB:=hX.bel.trans (hb.mono hX.bel.size)
  have hQ:=hX.q.below hb hX.q.r.lt hX.q.l.lt
  clear hb hL HCO hX
  (have hq1:=hQ.r;have hq2:=(hQ.setR #[.string m0,.string m1,.string m2,.int .i64 m3,.int .u8 (m4:Nat),.int .i64 m5,.bool m6,.int .i64 m7,.string m8]).l;unfold Bk at hq1 hq2)
  go_wp2_with (refine wpList_store_row rfl _ _ _ rfl _ _ rfl rfl _ _ (by with_reducible assumption) (by kernel_rfl) (by rfl) (by simp [Value.oneCell']) ?_)
  (refine Sg.ret_cctt rfl _ _ rfl rfl _ _ _ _ _ _ (hQ.both _ _).r (hQ.both _ _).l Tryz.underlying54 rfl (by kernel_rfl) Tryz.underlying56 rfl (by kernel_rfl) rfl ⟨?_,Sg.below_both hB (by omega) (by omega) _ _⟩)
  rw [HE.out,HQQ.out]
  rfl
 have hcb:((l8:Int) != 0)=false:=by rw [bne_eq_false_iff_eq];exact hc
 rw [if_neg (by simp [hc])] at HR2
 go_upto_region 18 with (fail)
 refine wp_named (fun V18 hV=>?_)
 have hX2:Sg.Rp w V18 #[.string x.name,.slice A1 n1 c1,.slice A2 n2 c2,.slice A3 n3 c3] #[.string i,.string sg,.string ag,.int .i64 a,.int .u8 (p:Nat),.int .i64 t,.bool st,.int .i64 y,.string va] #[.int .u8 l0,.int .i64 l1,.int .i64 l2,.int .u64 l3,.string l4,.int .u64 l5,.string l6,.string l7,.int .i64 l8,.string l9] #[.string i,.string sg,.string ag,.int .i64 a,.int .u8 (p:Nat),.int .i64 t,.bool false,.int .i64 y,.string va,.string x.name,.slice A1 n1 c1,.slice A2 n2 c2,.slice A3 n3 c3,.int .i64 fr] (w.heap.size+1) (w.heap.size+2) (w.heap.size+3) (w.heap.size+4) (w.heap.size+5):=by rw [hV];exact hX.set_ 6 _
 clear hX hV r1 r3 r4 y8 y9 x3 x4 x6 x8 f3 f4 f6 f8
 have hX:=hX2
 clear hX2
 obtain ⟨⟨q0,q1,q2,q3⟩,-⟩:=hX.s.k4
 have r1:=hX.r.cell 1
 simp only [List.getElem?_toArray,List.getElem?_cons_zero,List.getElem?_cons_succ] at r1
 obtain ⟨N,HN⟩:∃ N,Hid ((Sd.steps x sg).1=N):=⟨_,Lib.hid rfl⟩
 obtain ⟨NE,HNE⟩:∃ N,Hid ((Sd.steps x sg).2=N):=⟨_,Lib.hid rfl⟩
 rw [HN.out] at HR2 han hns
 go_wp2_with fail
 refine (ssteps_any _ x HF.out sg _ (HKW.out.below hX.bel) (Id.SchV.below hX.bel HV.out)).mono ?_
 rw [HN.out,HNE.out]
 rintro e W2 ⟨rfl,hb⟩
 have hX2:=hX.below hb
 clear hX hb q0 q1 q2 q3 r1
 have hX:=hX2
 clear hX2
 have r3:=hX.r.cell 3
 have y9:=hX.l.cell 9
 have x3:=hX.x.cell 3
 have f3:=hX.x.frozen 3
 have x4:=hX.x.cell 4
 have f4:=hX.x.frozen 4
 have x8:=hX.x.cell 8
 have f8:=hX.x.frozen 8
 simp only [List.getElem?_toArray,List.getElem?_cons_zero,List.getElem?_cons_succ] at r3 y9 x3 x4 x8
 have hw1:IntKind.i64.wrap ((N:Int) - 1)=(N:Int) - 1:=by rw [IntKind.wrap_i64];omega
 by_cases hlast:a=(N:Int) - 1
 case pos =>
  rw [if_pos hlast] at HR2
  have hlb:((a:Int)==(N:Int) - 1)=true:=by rw [beq_iff_eq];exact hlast
  clear hlast
  go_upto_region 20 with (fail)
  obtain ⟨BD,HBD⟩:∃ b,Hid (l9.extract 0 4096=b):=⟨_,Lib.hid rfl⟩
  rw [HBD.out] at HR2
  have hd:Below W2.heap.size W2 W2.drew:=(Below.refl _ _).drew
  have hXd:=hX.below hd
  have x8w:=hX.x.cell 8
  have f8w:=hX.x.frozen 8
  simp only [List.getElem?_toArray,List.getElem?_cons_zero,List.getElem?_cons_succ] at x8w
  clear hd
  obtain ⟨M,HM⟩:∃ m:Nat,Hid (min (l9.size:Int) 4096=m∧m≤l9.size∧l9.extract 0 m=BD):=by
   by_cases hb:4096<l9.size
   ·exact ⟨4096,Lib.hid ⟨by omega,by omega,HBD.out⟩⟩
   ·refine ⟨l9.size,Lib.hid ⟨by omega,Nat.le_refl _,?_⟩⟩
    rw [←HBD.out]
    apply ByteArray.ext
    apply Array.ext'
    simp
    rw [List.take_of_length_le (by simp;omega)]
  have hBDm:=HM.out.2.2
  have hmin:=HM.out.1
  have m0i:(0:Int)≤(M:Int):=by omega
  have m1i:(M:Int)≤(l9.size:Int):=by have:=HM.out.2.1;omega
  clear hX r3 y9 x3 x4 x8 f3 f4 f8
  have hle:=hXd.le
  have x4:=hXd.x.cell 4
  have x8:=hXd.x.cell 8
  have f4:=hXd.x.frozen 4
  have f8:=hXd.x.frozen 8
  simp only [List.getElem?_toArray,List.getElem?_cons_zero,List.getElem?_cons_succ] at x4 x8
  refine wp_region_L_calm (fun w'=>Bk w' (w.heap.size+2) 56 #[.int .u8 l0,.int .i64 l1,.int .i64 l2,.int .u64 l3,.string l4,.int .u64 l5,.string l6,.string l7,.int .i64 l8,.string l9]) [12] (by kernel_rfl) hXd.l (fun hHeld=>?_)
  (refine wpAnyL_take0 0 (v:=?_) rfl (by kernel_rfl) (by kernel_rfl) (by kernel_rfl) (by kernel_rfl) (fun _ _ _ h=>h) (fun _=>by assumption) (by rfl) ?_ ?_;rotate_left;· (intro w;go_simp;try with_reducible rfl);try simp only [Act.put,List.setIfInBounds_toArray,List.set_cons_zero,List.set_cons_succ])
  (refine Lst.takeM 12 1 (v:=?_) rfl (by kernel_rfl) (by kernel_rfl) (by kernel_rfl) (by kernel_rfl) (by kernel_rfl) (by kernel_rfl) (fun _ _ _ h=>h) (by assumption) (by rfl) ?_ ?_;rotate_left;· (intro w hSw;have e9:=hSw.cell 9;simp only [List.getElem?_toArray,List.getElem?_cons_zero,List.getElem?_cons_succ] at e9;go_simp;try with_reducible rfl);try simp only [Act.put,List.setIfInBounds_toArray,List.set_cons_zero,List.set_cons_succ])
  (refine wpAnyL_take0 2 (v:=?_) rfl (by kernel_rfl) (by kernel_rfl) (by kernel_rfl) (by kernel_rfl) (fun _ _ _ h=>h) (fun _=>by assumption) (by rfl) ?_ ?_;rotate_left;· (intro w;go_simp;try with_reducible rfl);try simp only [Act.put,List.setIfInBounds_toArray,List.set_cons_zero,List.set_cons_succ])
  (refine Lst.takeM 12 3 (v:=?_) rfl (by kernel_rfl) (by kernel_rfl) (by kernel_rfl) (by kernel_rfl) (by kernel_rfl) (by kernel_rfl) (fun _ _ _ h=>h) (by assumption) (by rfl) ?_ ?_;rotate_left;· (intro w hSw;have e9:=hSw.cell 9;simp only [List.getElem?_toArray,List.getElem?_cons_zero,List.getElem?_cons_succ] at e9;go_simp;try with_reducible rfl);try simp only [Act.put,List.setIfInBounds_toArray,List.set_cons_zero,List.set_cons_succ])
  (refine wpAnyL_take0 4 (v:=?_) rfl (by kernel_rfl) (by kernel_rfl) (by kernel_rfl) (by kernel_rfl) (fun _ _ _ h=>h) (fun _=>by assumption) (by rfl) ?_ ?_;rotate_left;· (intro w;go_simp;try with_reducible rfl);try simp only [Act.put,List.setIfInBounds_toArray,List.set_cons_zero,List.set_cons_succ])
  (refine wpAnyL_take0 5 (v:=?_) rfl (by kernel_rfl) (by kernel_rfl) (by kernel_rfl) (by kernel_rfl) (fun _ _ _ h=>h) (fun _=>by assumption) (by rfl) ?_ ?_;rotate_left;· (intro w;go_simp;try with_reducible rfl);try simp only [Act.put,List.setIfInBounds_toArray,List.set_cons_zero,List.set_cons_succ])
  (refine wpAnyL_take0 6 (v:=?_) rfl (by kernel_rfl) (by kernel_rfl) (by kernel_rfl) (by kernel_rfl) (fun _ _ _ h=>h) (fun _=>by assumption) (by rfl) ?_ ?_;rotate_left;· (intro w;go_simp;try with_reducible rfl);try simp only [Act.put,List.setIfInBounds_toArray,List.set_cons_zero,List.set_cons_succ])
  (refine wpAnyL_take0 7 (v:=?_) rfl (by kernel_rfl) (by kernel_rfl) (by kernel_rfl) (by kernel_rfl) (fun _ _ _ h=>h) (fun _=>by assumption) (by rfl) ?_ ?_;rotate_left;· (intro w;go_simp;try with_reducible rfl);try simp only [Act.put,List.setIfInBounds_toArray,List.set_cons_zero,List.set_cons_succ])
  (refine wpAnyL_take0 8 (v:=?_) rfl (by kernel_rfl) (by kernel_rfl) (by kernel_rfl) (by kernel_rfl) (fun _ _ _ h=>h) (fun _=>by assumption) (by rfl) ?_ ?_;rotate_left;· (intro w;go_simp;try with_reducible rfl);try simp only [Act.put,List.setIfInBounds_toArray,List.set_cons_zero,List.set_cons_succ])
  (refine wpAnyL_step 9 (by kernel_rfl) rfl (fun K hK=>?_))
  go_simp
  have hS9:Bk (W2.setCell ⟨w.heap.size+1+1+1+1+1,4,none⟩ (.int .u8 3)).drew (w.heap.size+2) 56 #[.int .u8 l0,.int .i64 l1,.int .i64 l2,.int .u64 l3,.string l4,.int .u64 l5,.string l6,.string l7,.int .i64 l8,.string l9]:=hXd.l.far (p:=⟨w.heap.size+5,4,none⟩) (by show w.heap.size+2≠w.heap.size+5;omega) _
  (refine hK.out _ _ (fun hnn=>hS9) ?_;clear hK K;try simp only [Act.put,List.setIfInBounds_toArray,List.set_cons_zero,List.set_cons_succ])
  (refine wpAnyL_take0 10 (v:=?_) rfl (by kernel_rfl) (by kernel_rfl) (by kernel_rfl) (by kernel_rfl) (fun _ _ _ h=>h) (fun _=>by assumption) (by rfl) ?_ ?_;rotate_left;· (intro w;go_simp;try with_reducible rfl);try simp only [Act.put,List.setIfInBounds_toArray,List.set_cons_zero,List.set_cons_succ])
  (refine wpAnyL_take0 11 (v:=?_) rfl (by kernel_rfl) (by kernel_rfl) (by kernel_rfl) (by kernel_rfl) (fun _ _ _ h=>h) (fun _=>by assumption) (by rfl) ?_ ?_;rotate_left;· (intro w;go_simp;try with_reducible rfl);try simp only [Act.put,List.setIfInBounds_toArray,List.set_cons_zero,List.set_cons_succ])
  (refine wpAnyL_step 12 (by kernel_rfl) rfl (fun K hK=>?_))
  go_simp
  (refine hK.out _ _ (fun hnn=>absurd hnn (by decide)) ?_;clear hK K;try simp only [Act.put,List.setIfInBounds_toArray,List.set_cons_zero,List.set_cons_succ])
  refine wpAnyL_done (by kernel_rfl) ?_ _
  refine NoPanic.normal ?_
  go_upto_region 21 with (fail)
  refine wp_named (fun V21 hV=>?_)
  have hX:Sg.Rp w V21 #[.string x.name,.slice A1 n1 c1,.slice A2 n2 c2,.slice A3 n3 c3] #[.string i,.string sg,.string ag,.int .i64 a,.int .u8 (p:Nat),.int .i64 t,.bool st,.int .i64 y,.string va] #[.int .u8 l0,.int .i64 l1,.int .i64 l2,.int .u64 l3,.string l4,.int .u64 l5,.string l6,.string l7,.int .i64 l8,.string l9] #[.string i,.string sg,.string ag,.int .i64 a,.int .u8 3,.int .i64 t,.bool false,.int .i64 y,.string BD,.string x.name,.slice A1 n1 c1,.slice A2 n2 c2,.slice A3 n3 c3,.int .i64 fr] (w.heap.size+1) (w.heap.size+2) (w.heap.size+3) (w.heap.size+4) (w.heap.size+5):=by rw [hV];exact (hXd.set_ 4 (.int .u8 3)).set_ 8 (.string BD)
  clear hXd x4 x8 f4 f8 x8w f8w hmin m0i m1i hBDm hV hS9
  have HE:Hid (R=(⟨i,sg,ag,a,3,t,false,y,BD⟩,Ev.Letter.zero,false,true)):=Lib.hid HR2.out.symm
  obtain ⟨⟨⟨m0,m1,m2,m3,m4,m5,m6,m7,m8⟩,⟨k0,k1,k2,k3,k4,k5,k6,k7,k8,k9⟩,cl,tk⟩,HQQ⟩:∃ q:Sg.Run × Ev.Letter × Bool × Bool,Hid (((⟨i,sg,ag,a,3,t,false,y,BD⟩,Ev.Letter.zero,false,true):Sg.Run × Ev.Letter × Bool × Bool)=q):=⟨_,Lib.hid rfl⟩
  have hco:=sgquiet_any ⟨i,sg,ag,a,3,t,false,y,BD⟩ (.string x.name) (.slice A1 n1 c1) (.slice A2 n2 c2) (.slice A3 n3 c3) fr V21
  rw [HQQ.out] at hco
  have HCO:=Lib.hid hco
  clear hco
  have hL:=hX.x
  go_wp2_with (refine wpList_load_row rfl _ _ rfl _ rfl _ _ _ _ hL Tryz.underlying140 rfl (by kernel_rfl) ?_)
  refine HCO.out.mono ?_
  unfold Sg.outV Sg.Run.val Sg.Run.cells Ev.Letter.val
  rintro e Wf ⟨rfl,hb⟩
  have hle:=hX.le
  have hB:=hX.bel.trans (hb.mono hX.bel.size)
  have hQ:=hX.q.below hb hX.q.r.lt hX.q.l.lt
  clear hb hL HCO hX
  (have hq1:=hQ.r;have hq2:=(hQ.setR #[.string m0,.string m1,.string m2,.int .i64 m3,.int .u8 (m4:Nat),.int .i64 m5,.bool m6,.int .i64 m7,.string m8]).l;unfold Bk at hq1 hq2)
  go_wp2_with (refine wpList_store_row rfl _ _ _ rfl _ _ rfl rfl _ _ (by with_reducible assumption) (by kernel_rfl) (by rfl) (by simp [Value.oneCell']) ?_)
  (refine Sg.ret_cctt rfl _ _ rfl rfl _ _ _ _ _ _ (hQ.both _ _).r (hQ.both _ _).l Tryz.underlying54 rfl (by kernel_rfl) Tryz.underlying56 rfl (by kernel_rfl) rfl ⟨?_,Sg.below_both hB (by omega) (by omega) _ _⟩)
  rw [HE.out,HQQ.out]
  rfl
 have hlb:((a:Int)==(N:Int) - 1)=false:=by rw [beq_eq_false_iff_ne];exact hlast
 rw [if_neg hlast] at HR2
 have hw3:IntKind.i64.wrap (a+1)=a+1:=by rw [IntKind.wrap_i64];omega
 go_upto_region 23 with (fail)
 refine wp_named (fun V23 hV=>?_)
 have hX2:Sg.Rp w V23 #[.string x.name,.slice A1 n1 c1,.slice A2 n2 c2,.slice A3 n3 c3] #[.string i,.string sg,.string ag,.int .i64 a,.int .u8 (p:Nat),.int .i64 t,.bool st,.int .i64 y,.string va] #[.int .u8 l0,.int .i64 l1,.int .i64 l2,.int .u64 l3,.string l4,.int .u64 l5,.string l6,.string l7,.int .i64 l8,.string l9] #[.string i,.string sg,.string ag,.int .i64 (a+1),.int .u8 (p:Nat),.int .i64 t,.bool false,.int .i64 y,.string va,.string x.name,.slice A1 n1 c1,.slice A2 n2 c2,.slice A3 n3 c3,.int .i64 fr] (w.heap.size+1) (w.heap.size+2) (w.heap.size+3) (w.heap.size+4) (w.heap.size+5):=by rw [hV];exact hX.set_ 3 _
 clear hX hV r3 y9 x3 x4 x8 f3 f4 f8
 have hX:=hX2
 clear hX2
 have HE:Hid (R=(⟨i,sg,ag,a+1,p,t,false,y,va⟩,Sg.nextL x ⟨i,sg,ag,a+1,p,t,false,y,va⟩ fr,true,true)):=Lib.hid HR2.out.symm
 obtain ⟨⟨⟨m0,m1,m2,m3,m4,m5,m6,m7,m8⟩,⟨k0,k1,k2,k3,k4,k5,k6,k7,k8,k9⟩,cl,tk⟩,HQQ⟩:∃ q:Sg.Run × Ev.Letter × Bool × Bool,Hid (((⟨i,sg,ag,a+1,p,t,false,y,va⟩,Sg.nextL x ⟨i,sg,ag,a+1,p,t,false,y,va⟩ fr,true,true):Sg.Run × Ev.Letter × Bool × Bool)=q):=⟨_,Lib.hid rfl⟩
 have hco:=sgcalling_any x HF.out ⟨i,sg,ag,a+1,p,t,false,y,va⟩ HID.out (.string x.name) (.slice A1 n1 c1) (.slice A2 n2 c2) (.slice A3 n3 c3) fr _ (HKW.out.below hX.bel) (Id.SchV.below hX.bel HV.out)
 rw [HQQ.out] at hco
 have HCO:=Lib.hid hco
 clear hco
 have hL:=hX.x
 go_wp2_with (refine wpList_load_row rfl _ _ rfl _ rfl _ _ _ _ hL Tryz.underlying140 rfl (by kernel_rfl) ?_)
 refine HCO.out.mono ?_
 unfold Sg.outV Sg.Run.val Sg.Run.cells Ev.Letter.val
 rintro e Wf ⟨rfl,hb⟩
 have hle:=hX.le
 have hB:=hX.bel.trans (hb.mono hX.bel.size)
 have hQ:=hX.q.below hb hX.q.r.lt hX.q.l.lt
 clear hb hL HCO hX
 (have hq1:=hQ.r;have hq2:=(hQ.setR #[.string m0,.string m1,.string m2,.int .i64 m3,.int .u8 (m4:Nat),.int .i64 m5,.bool m6,.int .i64 m7,.string m8]).l;unfold Bk at hq1 hq2)
 go_wp2_with (refine wpList_store_row rfl _ _ _ rfl _ _ rfl rfl _ _ (by with_reducible assumption) (by kernel_rfl) (by rfl) (by simp [Value.oneCell']) ?_)
 (refine Sg.ret_cctt rfl _ _ rfl rfl _ _ _ _ _ _ (hQ.both _ _).r (hQ.both _ _).l Tryz.underlying54 rfl (by kernel_rfl) Tryz.underlying56 rfl (by kernel_rfl) rfl ⟨?_,Sg.below_both hB (by omega) (by omega) _ _⟩)
 rw [HE.out,HQQ.out]
 rfl
end Go.Proofs.YtogijkhenihaaaaGreatDoor
