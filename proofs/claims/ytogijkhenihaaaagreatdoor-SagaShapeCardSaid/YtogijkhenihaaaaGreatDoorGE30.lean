/- saga: Settle, Stop, Outcome (printed by gen_sgd.py). No condition but the keywords' table and the ones the theorems state. -/
import Derived.Test.YtogijkhenihaaaaGreatDoorGE29
set_option linter.unusedVariables false
set_option linter.unusedSimpArgs false
namespace Go.Proofs.YtogijkhenihaaaaGreatDoor
open Go.RowKit Go.BigFrame
namespace Sg
open Go.Proofs.YtogijkhenihaaaaGreatDoor.Id Go.Proofs.YtogijkhenihaaaaGreatDoor.Chk Go.Proofs.YtogijkhenihaaaaGreatDoor.Ev Go.Proofs.YtogijkhenihaaaaGreatDoor.Sd
def outcome (r:Run):Nat × Int × ByteArray :=
 if r.phase=3 then (3,0,r.value)
 else if r.phase=4 then (if r.why=201 then (5,0,⟨#[]⟩) else (4,r.why,⟨#[]⟩))
 else if r.phase=5 then (4,133,⟨#[]⟩)
 else if r.stop=true then (2,0,⟨#[]⟩) else (1,0,⟨#[]⟩)
end Sg
set_option maxRecDepth 100000 in
set_option maxHeartbeats 32000000 in
theorem sgsettle_any (sv:Value) (x:Id.Sch) (hF:Chk.Fine x) (r:Sg.Run) (hid:r.id.size≤100000) (hag:r.arg.size≤1000000) (fr:Int) (l:Ev.Letter) (w:World) (hk:Tk.KW w) (hv:Id.SchV w none sv x) :
  Calls Tryz.prog 30 #[sv,r.val,.int .i64 fr,l.val] w fun e w'=>e=.returned (Sg.outV (Sg.settle Sg.argE x r fr l))∧Below w.heap.size w w':=by
 have hoo:=fun W k v=>sgon_any sv x hF r hid hag fr W k v
 obtain ⟨R,HR⟩:∃ R,Hid (Sg.settle Sg.argE x r fr l=R):=⟨_,Lib.hid rfl⟩
 rw [HR.out]
 unfold Sg.settle at HR
 obtain ⟨O,HO⟩:∃ R,Hid (Sg.on Sg.argE x r fr=R):=⟨_,Lib.hid rfl⟩
 have HRT:=Lib.hid (show O=true→Sg.Rt Sg.argE x r∧Sg.over r=false from fun h=>by
  rw [←HO.out] at h
  unfold Sg.on at h
  simp only [Bool.and_eq_true,decide_eq_true_eq,Bool.not_eq_true'] at h
  exact ⟨h.2,h.1.2⟩)
 rw [HO.out] at HR
 simp only [HO.out] at hoo
 have HKW:=Lib.hid hk
 have HV:=Lib.hid hv
 have HF:=Lib.hid hF
 have HID:=Lib.hid hid
 obtain ⟨A1,n1,c1,A2,n2,c2,A3,n3,c3,rfl,-,-,-⟩:=hv
 clear hk hF HO hag
 obtain ⟨i,sg,ag,a,p,t,st,y,va⟩:=r
 obtain ⟨l0,l1,l2,l3,l4,l5,l6,l7,l8,l9⟩:=l
 unfold Sg.Run.val Sg.Run.cells at hoo
 unfold Sg.Run.val Sg.Run.cells Ev.Letter.val
 simp only at hoo HR hid
 have HOO:=Lib.hid hoo
 clear hoo
 go_enter Tryz.func30,Tryz.ntmps30
 go_upto_region 2 with (fail)
 refine wp_named (fun V hV=>?_)
 have hX:Sg.Rp w V #[.string x.name,.slice A1 n1 c1,.slice A2 n2 c2,.slice A3 n3 c3] #[.string i,.string sg,.string ag,.int .i64 a,.int .u8 (p:Nat),.int .i64 t,.bool st,.int .i64 y,.string va] #[.int .u8 l0,.int .i64 l1,.int .i64 l2,.int .u64 l3,.string l4,.int .u64 l5,.string l6,.string l7,.int .i64 l8,.string l9] #[.string i,.string sg,.string ag,.int .i64 a,.int .u8 (p:Nat),.int .i64 t,.bool st,.int .i64 y,.string va,.string x.name,.slice A1 n1 c1,.slice A2 n2 c2,.slice A3 n3 c3,.int .i64 fr] (w.heap.size+1) (w.heap.size+2) (w.heap.size+3) (w.heap.size+4) (w.heap.size+5):=by rw [hV];exact Sg.Rp.start w _ _ _ _
 clear hV
 have hky:=fun W=>skey_any i hid a false W
 obtain ⟨KB,HKB⟩:∃ k,Hid (Sd.keyB i a false=k):=⟨_,Lib.hid rfl⟩
 simp only [HKB.out] at hky
 rw [HKB.out] at HR
 have dS:=fun (w':World) (hb:Bl V w')=>hX.s.below hb hX.s.lt
 have dR:=fun (w':World) (hb:Bl V w')=>hX.r.below hb hX.r.lt
 have dR0:=fun (w':World) (hb:Bl V w')=>(hX.r.below hb hX.r.lt).cell 0
 have dR3:=fun (w':World) (hb:Bl V w')=>(hX.r.below hb hX.r.lt).cell 3
 have dR6:=fun (w':World) (hb:Bl V w')=>(hX.r.below hb hX.r.lt).cell 6
 have dL0:=fun (w':World) (hb:Bl V w')=>(hX.l.below hb hX.l.lt).cell 0
 have dL4:=fun (w':World) (hb:Bl V w')=>(hX.l.below hb hX.l.lt).cell 4
 simp only [List.getElem?_toArray,List.getElem?_cons_zero,List.getElem?_cons_succ] at dR0 dR3 dR6 dL0 dL4
 have hOn:=fun (w':World) (hb:Bl V w')=>calls_bl hb (HOO.out w' (HKW.out.below (hX.bel.trans (Below.mono hb hX.bel.size))) (Id.SchV.below (hX.bel.trans (Below.mono hb hX.bel.size)) HV.out))
 have hKy:=fun (w':World) (hb:Bl V w')=>calls_bl hb (hky w')
 obtain ⟨KQ,HKQ⟩:∃ b,Hid ((l4.toList==KB.toList)=b):=⟨_,Lib.hid rfl⟩
 have hkq:=HKQ.out
 by_cases hgo:O=true∧st=true∧l0=4∧KQ=true
 case neg =>
  have HE0:Hid (R=(⟨i,sg,ag,a,p,t,st,y,va⟩,Ev.Letter.zero,false,false)):=Lib.hid (by rw [←HR.out,if_neg (fun h=>hgo ⟨h.1,h.2.1,h.2.2.1,by rw [←HKQ.out,beq_iff_eq];exact h.2.2.2⟩)])
  cases O with
  | false =>
   refine wp_region_bl V (by kernel_rfl) (by kernel_rfl) (Bl.refl _) ?_
   repeat (first | go_big_quiet_step ((intro hb;first | (go_at_call 76;exact hOn _ hb) | (go_at_call 29;exact hKy _ hb))) | (refine wpQuiet_step (fun K hK=>?_);rw [if_pos (by rfl)];refine quiet_load_row _ _ rfl _ rfl _ _ _ (by assumption) Tryz.underlying28 rfl (by kernel_rfl) ?_;go_simp;refine hK _ ?_;clear hK K) | (refine wpQuiet_step (fun K hK=>?_);rw [if_pos (by rfl)];refine quiet_load_row _ _ rfl _ rfl _ _ _ (by assumption) Tryz.underlying54 rfl (by kernel_rfl) ?_;go_simp;refine hK _ ?_;clear hK K) | (refine wpQuiet_step (fun K hK=>?_);rw [if_pos (by rfl)];refine Lst.load_cell _ _ rfl _ rfl _ (by assumption) _ Tryz.underlying9 rfl ?_;go_simp;refine hK _ ?_;clear hK K) | (refine wpQuiet_step (fun K hK=>?_);rw [if_pos (by rfl)];refine Lst.load_cell _ _ rfl _ rfl _ (by assumption) _ Tryz.underlying3 rfl ?_;go_simp;refine hK _ ?_;clear hK K) | (refine wpQuiet_step (fun K hK=>?_);rw [if_pos (by rfl)];refine Lst.load_cell _ _ rfl _ rfl _ (by assumption) _ Tryz.underlying5 rfl ?_;go_simp;refine hK _ ?_;clear hK K) | (refine wpQuiet_step (fun K hK=>?_);rw [if_pos (by rfl)];refine Lst.load_cell _ _ rfl _ rfl _ (by assumption) _ Tryz.underlying4 rfl ?_;go_simp;refine hK _ ?_;clear hK K) | (refine wpQuiet_step (fun K hK=>?_);go_simp;refine ⟨_,fun _ _=>rfl,hK _ ?_⟩;clear hK K))
   refine wpQuiet_nil ?_
   intro W1 hW1
   have hX2:=hX.below hW1
   clear dS dR dR0 dR3 dR6 dL0 dL4 hOn hKy hX hW1
   have hX:=hX2
   clear hX2
   have HE:Hid (R=(⟨i,sg,ag,a,p,t,st,y,va⟩,Ev.Letter.zero,false,false)):=Lib.hid HE0.out
   have hL:=hX.r
   have hle:=hX.le
   have hQ:=hX.q
   have hB:=hX.bel
   (have hq1:=hQ.r;have hq2:=(hQ.setR #[.string i,.string sg,.string ag,.int .i64 a,.int .u8 (p:Nat),.int .i64 t,.bool st,.int .i64 y,.string va]).l;unfold Bk at hq1 hq2)
   go_wp2_with (first | (refine wpList_load_row rfl _ _ rfl _ rfl _ _ _ _ hL Tryz.underlying54 rfl (by kernel_rfl) ?_) | (refine wpList_store_row rfl _ _ _ rfl _ _ rfl rfl _ _ (by with_reducible assumption) (by kernel_rfl) (by rfl) (by simp [Value.oneCell']) ?_))
   (refine Sg.ret_cctt rfl _ _ rfl rfl _ _ _ _ _ _ (hQ.both _ _).r (hQ.both _ _).l Tryz.underlying54 rfl (by kernel_rfl) Tryz.underlying56 rfl (by kernel_rfl) rfl ⟨?_,Sg.below_both hB (by omega) (by omega) _ _⟩)
   rw [HE.out]
   rfl
  | true =>
   cases st with
   | false =>
    refine wp_region_bl V (by kernel_rfl) (by kernel_rfl) (Bl.refl _) ?_
    repeat (first | go_big_quiet_step ((intro hb;first | (go_at_call 76;exact hOn _ hb) | (go_at_call 29;exact hKy _ hb))) | (refine wpQuiet_step (fun K hK=>?_);rw [if_pos (by rfl)];refine quiet_load_row _ _ rfl _ rfl _ _ _ (by assumption) Tryz.underlying28 rfl (by kernel_rfl) ?_;go_simp;refine hK _ ?_;clear hK K) | (refine wpQuiet_step (fun K hK=>?_);rw [if_pos (by rfl)];refine quiet_load_row _ _ rfl _ rfl _ _ _ (by assumption) Tryz.underlying54 rfl (by kernel_rfl) ?_;go_simp;refine hK _ ?_;clear hK K) | (refine wpQuiet_step (fun K hK=>?_);rw [if_pos (by rfl)];refine Lst.load_cell _ _ rfl _ rfl _ (by assumption) _ Tryz.underlying9 rfl ?_;go_simp;refine hK _ ?_;clear hK K) | (refine wpQuiet_step (fun K hK=>?_);rw [if_pos (by rfl)];refine Lst.load_cell _ _ rfl _ rfl _ (by assumption) _ Tryz.underlying3 rfl ?_;go_simp;refine hK _ ?_;clear hK K) | (refine wpQuiet_step (fun K hK=>?_);rw [if_pos (by rfl)];refine Lst.load_cell _ _ rfl _ rfl _ (by assumption) _ Tryz.underlying5 rfl ?_;go_simp;refine hK _ ?_;clear hK K) | (refine wpQuiet_step (fun K hK=>?_);rw [if_pos (by rfl)];refine Lst.load_cell _ _ rfl _ rfl _ (by assumption) _ Tryz.underlying4 rfl ?_;go_simp;refine hK _ ?_;clear hK K) | (refine wpQuiet_step (fun K hK=>?_);go_simp;refine ⟨_,fun _ _=>rfl,hK _ ?_⟩;clear hK K))
    refine wpQuiet_nil ?_
    intro W1 hW1
    have hX2:=hX.below hW1
    clear dS dR dR0 dR3 dR6 dL0 dL4 hOn hKy hX hW1
    have hX:=hX2
    clear hX2
    have HE:Hid (R=(⟨i,sg,ag,a,p,t,false,y,va⟩,Ev.Letter.zero,false,false)):=Lib.hid HE0.out
    have hL:=hX.r
    have hle:=hX.le
    have hQ:=hX.q
    have hB:=hX.bel
    (have hq1:=hQ.r;have hq2:=(hQ.setR #[.string i,.string sg,.string ag,.int .i64 a,.int .u8 (p:Nat),.int .i64 t,.bool false,.int .i64 y,.string va]).l;unfold Bk at hq1 hq2)
    go_wp2_with (first | (refine wpList_load_row rfl _ _ rfl _ rfl _ _ _ _ hL Tryz.underlying54 rfl (by kernel_rfl) ?_) | (refine wpList_store_row rfl _ _ _ rfl _ _ rfl rfl _ _ (by with_reducible assumption) (by kernel_rfl) (by rfl) (by simp [Value.oneCell']) ?_))
    (refine Sg.ret_cctt rfl _ _ rfl rfl _ _ _ _ _ _ (hQ.both _ _).r (hQ.both _ _).l Tryz.underlying54 rfl (by kernel_rfl) Tryz.underlying56 rfl (by kernel_rfl) rfl ⟨?_,Sg.below_both hB (by omega) (by omega) _ _⟩)
    rw [HE.out]
    rfl
   | true =>
    by_cases hl0:l0=4
    ·have hu0:((l0:Int) != 4)=false:=by rw [bne_eq_false_iff_eq];omega
     cases KQ with
     | true=>exact absurd ⟨rfl,rfl,hl0,rfl⟩ hgo
     | false =>
      refine wp_region_bl V (by kernel_rfl) (by kernel_rfl) (Bl.refl _) ?_
      repeat (first | go_big_quiet_step ((intro hb;first | (go_at_call 76;exact hOn _ hb) | (go_at_call 29;exact hKy _ hb))) | (refine wpQuiet_step (fun K hK=>?_);rw [if_pos (by rfl)];refine quiet_load_row _ _ rfl _ rfl _ _ _ (by assumption) Tryz.underlying28 rfl (by kernel_rfl) ?_;go_simp;refine hK _ ?_;clear hK K) | (refine wpQuiet_step (fun K hK=>?_);rw [if_pos (by rfl)];refine quiet_load_row _ _ rfl _ rfl _ _ _ (by assumption) Tryz.underlying54 rfl (by kernel_rfl) ?_;go_simp;refine hK _ ?_;clear hK K) | (refine wpQuiet_step (fun K hK=>?_);rw [if_pos (by rfl)];refine Lst.load_cell _ _ rfl _ rfl _ (by assumption) _ Tryz.underlying9 rfl ?_;go_simp;refine hK _ ?_;clear hK K) | (refine wpQuiet_step (fun K hK=>?_);rw [if_pos (by rfl)];refine Lst.load_cell _ _ rfl _ rfl _ (by assumption) _ Tryz.underlying3 rfl ?_;go_simp;refine hK _ ?_;clear hK K) | (refine wpQuiet_step (fun K hK=>?_);rw [if_pos (by rfl)];refine Lst.load_cell _ _ rfl _ rfl _ (by assumption) _ Tryz.underlying5 rfl ?_;go_simp;refine hK _ ?_;clear hK K) | (refine wpQuiet_step (fun K hK=>?_);rw [if_pos (by rfl)];refine Lst.load_cell _ _ rfl _ rfl _ (by assumption) _ Tryz.underlying4 rfl ?_;go_simp;refine hK _ ?_;clear hK K) | (refine wpQuiet_step (fun K hK=>?_);go_simp;refine ⟨_,fun _ _=>rfl,hK _ ?_⟩;clear hK K))
      refine wpQuiet_nil ?_
      intro W1 hW1
      have hX2:=hX.below hW1
      clear dS dR dR0 dR3 dR6 dL0 dL4 hOn hKy hX hW1
      have hX:=hX2
      clear hX2
      have HE:Hid (R=(⟨i,sg,ag,a,p,t,true,y,va⟩,Ev.Letter.zero,false,false)):=Lib.hid HE0.out
      have hL:=hX.r
      have hle:=hX.le
      have hQ:=hX.q
      have hB:=hX.bel
      (have hq1:=hQ.r;have hq2:=(hQ.setR #[.string i,.string sg,.string ag,.int .i64 a,.int .u8 (p:Nat),.int .i64 t,.bool true,.int .i64 y,.string va]).l;unfold Bk at hq1 hq2)
      go_wp2_with (first | (refine wpList_load_row rfl _ _ rfl _ rfl _ _ _ _ hL Tryz.underlying54 rfl (by kernel_rfl) ?_) | (refine wpList_store_row rfl _ _ _ rfl _ _ rfl rfl _ _ (by with_reducible assumption) (by kernel_rfl) (by rfl) (by simp [Value.oneCell']) ?_))
      (refine Sg.ret_cctt rfl _ _ rfl rfl _ _ _ _ _ _ (hQ.both _ _).r (hQ.both _ _).l Tryz.underlying54 rfl (by kernel_rfl) Tryz.underlying56 rfl (by kernel_rfl) rfl ⟨?_,Sg.below_both hB (by omega) (by omega) _ _⟩)
      rw [HE.out]
      rfl
    ·have hu0:((l0:Int) != 4)=true:=by rw [bne_iff_ne];omega
     refine wp_region_bl V (by kernel_rfl) (by kernel_rfl) (Bl.refl _) ?_
     repeat (first | go_big_quiet_step ((intro hb;first | (go_at_call 76;exact hOn _ hb) | (go_at_call 29;exact hKy _ hb))) | (refine wpQuiet_step (fun K hK=>?_);rw [if_pos (by rfl)];refine quiet_load_row _ _ rfl _ rfl _ _ _ (by assumption) Tryz.underlying28 rfl (by kernel_rfl) ?_;go_simp;refine hK _ ?_;clear hK K) | (refine wpQuiet_step (fun K hK=>?_);rw [if_pos (by rfl)];refine quiet_load_row _ _ rfl _ rfl _ _ _ (by assumption) Tryz.underlying54 rfl (by kernel_rfl) ?_;go_simp;refine hK _ ?_;clear hK K) | (refine wpQuiet_step (fun K hK=>?_);rw [if_pos (by rfl)];refine Lst.load_cell _ _ rfl _ rfl _ (by assumption) _ Tryz.underlying9 rfl ?_;go_simp;refine hK _ ?_;clear hK K) | (refine wpQuiet_step (fun K hK=>?_);rw [if_pos (by rfl)];refine Lst.load_cell _ _ rfl _ rfl _ (by assumption) _ Tryz.underlying3 rfl ?_;go_simp;refine hK _ ?_;clear hK K) | (refine wpQuiet_step (fun K hK=>?_);rw [if_pos (by rfl)];refine Lst.load_cell _ _ rfl _ rfl _ (by assumption) _ Tryz.underlying5 rfl ?_;go_simp;refine hK _ ?_;clear hK K) | (refine wpQuiet_step (fun K hK=>?_);rw [if_pos (by rfl)];refine Lst.load_cell _ _ rfl _ rfl _ (by assumption) _ Tryz.underlying4 rfl ?_;go_simp;refine hK _ ?_;clear hK K) | (refine wpQuiet_step (fun K hK=>?_);go_simp;refine ⟨_,fun _ _=>rfl,hK _ ?_⟩;clear hK K))
     refine wpQuiet_nil ?_
     intro W1 hW1
     have hX2:=hX.below hW1
     clear dS dR dR0 dR3 dR6 dL0 dL4 hOn hKy hX hW1
     have hX:=hX2
     clear hX2
     have HE:Hid (R=(⟨i,sg,ag,a,p,t,true,y,va⟩,Ev.Letter.zero,false,false)):=Lib.hid HE0.out
     have hL:=hX.r
     have hle:=hX.le
     have hQ:=hX.q
     have hB:=hX.bel
     (have hq1:=hQ.r;have hq2:=(hQ.setR #[.string i,.string sg,.string ag,.int .i64 a,.int .u8 (p:Nat),.int .i64 t,.bool true,.int .i64 y,.string va]).l;unfold Bk at hq1 hq2)
     go_wp2_with (first | (refine wpList_load_row rfl _ _ rfl _ rfl _ _ _ _ hL Tryz.underlying54 rfl (by kernel_rfl) ?_) | (refine wpList_store_row rfl _ _ _ rfl _ _ rfl rfl _ _ (by with_reducible assumption) (by kernel_rfl) (by rfl) (by simp [Value.oneCell']) ?_))
     (refine Sg.ret_cctt rfl _ _ rfl rfl _ _ _ _ _ _ (hQ.both _ _).r (hQ.both _ _).l Tryz.underlying54 rfl (by kernel_rfl) Tryz.underlying56 rfl (by kernel_rfl) rfl ⟨?_,Sg.below_both hB (by omega) (by omega) _ _⟩)
     rw [HE.out]
     rfl
 obtain ⟨rfl,rfl,hl0,rfl⟩:=hgo
 have HR2:Hid ((if l8=0 then Sg.back x ⟨i,sg,ag,a,p,t,true,y,va⟩ fr 201 else (⟨i,sg,ag,a,p,t,false,y,va⟩,Ev.Letter.zero,false,true))=R):=Lib.hid (by rw [←HR.out];exact (if_pos ⟨rfl,rfl,hl0,by have h:=HKQ.out;rwa [beq_iff_eq] at h⟩).symm)
 clear HR
 have hu0:((l0:Int) != 4)=false:=by rw [bne_eq_false_iff_eq];omega
 refine wp_region_bl V (by kernel_rfl) (by kernel_rfl) (Bl.refl _) ?_
 repeat (first | go_big_quiet_step ((intro hb;first | (go_at_call 76;exact hOn _ hb) | (go_at_call 29;exact hKy _ hb))) | (refine wpQuiet_step (fun K hK=>?_);rw [if_pos (by rfl)];refine quiet_load_row _ _ rfl _ rfl _ _ _ (by assumption) Tryz.underlying28 rfl (by kernel_rfl) ?_;go_simp;refine hK _ ?_;clear hK K) | (refine wpQuiet_step (fun K hK=>?_);rw [if_pos (by rfl)];refine quiet_load_row _ _ rfl _ rfl _ _ _ (by assumption) Tryz.underlying54 rfl (by kernel_rfl) ?_;go_simp;refine hK _ ?_;clear hK K) | (refine wpQuiet_step (fun K hK=>?_);rw [if_pos (by rfl)];refine Lst.load_cell _ _ rfl _ rfl _ (by assumption) _ Tryz.underlying9 rfl ?_;go_simp;refine hK _ ?_;clear hK K) | (refine wpQuiet_step (fun K hK=>?_);rw [if_pos (by rfl)];refine Lst.load_cell _ _ rfl _ rfl _ (by assumption) _ Tryz.underlying3 rfl ?_;go_simp;refine hK _ ?_;clear hK K) | (refine wpQuiet_step (fun K hK=>?_);rw [if_pos (by rfl)];refine Lst.load_cell _ _ rfl _ rfl _ (by assumption) _ Tryz.underlying5 rfl ?_;go_simp;refine hK _ ?_;clear hK K) | (refine wpQuiet_step (fun K hK=>?_);rw [if_pos (by rfl)];refine Lst.load_cell _ _ rfl _ rfl _ (by assumption) _ Tryz.underlying4 rfl ?_;go_simp;refine hK _ ?_;clear hK K) | (refine wpQuiet_step (fun K hK=>?_);go_simp;refine ⟨_,fun _ _=>rfl,hK _ ?_⟩;clear hK K))
 refine wpQuiet_nil ?_
 intro W1 hW1
 have hX2:=hX.below hW1
 clear dS dR dR0 dR3 dR6 dL0 dL4 hOn hKy hX hW1
 have hX:=hX2
 clear hX2
 obtain ⟨hrt,hov⟩:=HRT.out rfl
 have ha0:0≤a:=hrt.a0
 have han:a<((Sd.steps x sg).1:Int):=hrt.an
 have hns:=Sg.steps_small HF.out sg
 clear HRT hov hrt hu0 hkq hky HOO
 have y8:=hX.l.cell 8
 have x6:=hX.x.cell 6
 have f6:=hX.x.frozen 6
 simp only [List.getElem?_toArray,List.getElem?_cons_zero,List.getElem?_cons_succ] at y8 x6
 by_cases hc:l8=0
 case pos =>
  have hcb:((l8:Int)==0)=true:=by rw [beq_iff_eq];exact hc
  rw [if_pos hc] at HR2
  have HE:Hid (R=Sg.back x ⟨i,sg,ag,a,p,t,true,y,va⟩ fr 201):=Lib.hid HR2.out.symm
  obtain ⟨⟨⟨m0,m1,m2,m3,m4,m5,m6,m7,m8⟩,⟨k0,k1,k2,k3,k4,k5,k6,k7,k8,k9⟩,cl,tk⟩,HQQ⟩:∃ q:Sg.Run × Ev.Letter × Bool × Bool,Hid (Sg.back x ⟨i,sg,ag,a,p,t,true,y,va⟩ fr 201=q):=⟨_,Lib.hid rfl⟩
  have hco:=sgback_any x HF.out ⟨i,sg,ag,a,p,t,true,y,va⟩ HID.out (.string x.name) (.slice A1 n1 c1) (.slice A2 n2 c2) (.slice A3 n3 c3) fr 201 ⟨by show -9223372036854775808≤a - 1;omega,by show a≤9223372036854775807;omega⟩ _ (HKW.out.below hX.bel) (Id.SchV.below hX.bel HV.out)
  rw [HQQ.out] at hco
  have HCO:=Lib.hid hco
  clear hco
  have hL:=hX.x
  go_wp2_with (refine wpList_load_row rfl _ _ rfl _ rfl _ _ _ _ hL Tryz.underlying140 rfl (by kernel_rfl) ?_)
  refine HCO.out.mono ?_
  unfold Sg.outV Sg.Run.val Sg.Run.cells Ev.Letter.val
  rintro e Wf ⟨rfl,hb⟩
  have hle:=hX.le
  have hB:=hX.bel.trans (hb.mono hX.bel.size)
  have hQ:=hX.q.below hb hX.q.r.lt hX.q.l.lt
  clear hb hL HCO hX
  (have hq1:=hQ.r;have hq2:=(hQ.setR #[.string m0,.string m1,.string m2,.int .i64 m3,.int .u8 (m4:Nat),.int .i64 m5,.bool m6,.int .i64 m7,.string m8]).l;unfold Bk at hq1 hq2)
  go_wp2_with (refine wpList_store_row rfl _ _ _ rfl _ _ rfl rfl _ _ (by with_reducible assumption) (by kernel_rfl) (by rfl) (by simp [Value.oneCell']) ?_)
  (refine Sg.ret_cctt rfl _ _ rfl rfl _ _ _ _ _ _ (hQ.both _ _).r (hQ.both _ _).l Tryz.underlying54 rfl (by kernel_rfl) Tryz.underlying56 rfl (by kernel_rfl) rfl ⟨?_,Sg.below_both hB (by omega) (by omega) _ _⟩)
  rw [HE.out,HQQ.out]
  rfl
 have hcb:((l8:Int)==0)=false:=by rw [beq_eq_false_iff_ne];exact hc
 rw [if_neg hc] at HR2
 go_upto_region 7 with (fail)
 refine wp_named (fun V7 hV=>?_)
 have hX2:Sg.Rp w V7 #[.string x.name,.slice A1 n1 c1,.slice A2 n2 c2,.slice A3 n3 c3] #[.string i,.string sg,.string ag,.int .i64 a,.int .u8 (p:Nat),.int .i64 t,.bool true,.int .i64 y,.string va] #[.int .u8 l0,.int .i64 l1,.int .i64 l2,.int .u64 l3,.string l4,.int .u64 l5,.string l6,.string l7,.int .i64 l8,.string l9] #[.string i,.string sg,.string ag,.int .i64 a,.int .u8 (p:Nat),.int .i64 t,.bool false,.int .i64 y,.string va,.string x.name,.slice A1 n1 c1,.slice A2 n2 c2,.slice A3 n3 c3,.int .i64 fr] (w.heap.size+1) (w.heap.size+2) (w.heap.size+3) (w.heap.size+4) (w.heap.size+5):=by rw [hV];exact hX.set_ 6 _
 clear hX hV y8 x6 f6
 have hX:=hX2
 clear hX2
 have HE:Hid (R=(⟨i,sg,ag,a,p,t,false,y,va⟩,Ev.Letter.zero,false,true)):=Lib.hid HR2.out.symm
 obtain ⟨⟨⟨m0,m1,m2,m3,m4,m5,m6,m7,m8⟩,⟨k0,k1,k2,k3,k4,k5,k6,k7,k8,k9⟩,cl,tk⟩,HQQ⟩:∃ q:Sg.Run × Ev.Letter × Bool × Bool,Hid (((⟨i,sg,ag,a,p,t,false,y,va⟩,Ev.Letter.zero,false,true):Sg.Run × Ev.Letter × Bool × Bool)=q):=⟨_,Lib.hid rfl⟩
 have hco:=sgquiet_any ⟨i,sg,ag,a,p,t,false,y,va⟩ (.string x.name) (.slice A1 n1 c1) (.slice A2 n2 c2) (.slice A3 n3 c3) fr V7
 rw [HQQ.out] at hco
 have HCO:=Lib.hid hco
 clear hco
 have hL:=hX.x
 go_wp2_with (refine wpList_load_row rfl _ _ rfl _ rfl _ _ _ _ hL Tryz.underlying140 rfl (by kernel_rfl) ?_)
 refine HCO.out.mono ?_
 unfold Sg.outV Sg.Run.val Sg.Run.cells Ev.Letter.val
 rintro e Wf ⟨rfl,hb⟩
 have hle:=hX.le
 have hB:=hX.bel.trans (hb.mono hX.bel.size)
 have hQ:=hX.q.below hb hX.q.r.lt hX.q.l.lt
 clear hb hL HCO hX
 (have hq1:=hQ.r;have hq2:=(hQ.setR #[.string m0,.string m1,.string m2,.int .i64 m3,.int .u8 (m4:Nat),.int .i64 m5,.bool m6,.int .i64 m7,.string m8]).l;unfold Bk at hq1 hq2)
 go_wp2_with (refine wpList_store_row rfl _ _ _ rfl _ _ rfl rfl _ _ (by with_reducible assumption) (by kernel_rfl) (by rfl) (by simp [Value.oneCell']) ?_)
 (refine Sg.ret_cctt rfl _ _ rfl rfl _ _ _ _ _ _ (hQ.both _ _).r (hQ.both _ _).l Tryz.underlying54 rfl (by kernel_rfl) Tryz.underlying56 rfl (by kernel_rfl) rfl ⟨?_,Sg.below_both hB (by omega) (by omega) _ _⟩)
 rw [HE.out,HQQ.out]
 rfl
set_option maxRecDepth 100000 in
set_option maxHeartbeats 16000000 in
theorem sgoutcome_any (r:Sg.Run) (w:World):Calls Tryz.prog 70 #[r.val] w fun e w'=>e=.returned (.tuple #[.int .i64 ((Sg.outcome r).1:Nat),.int .i64 (Sg.outcome r).2.1,.string (Sg.outcome r).2.2])∧Below w.heap.size w w':=by
 obtain ⟨R,HR⟩:∃ R,Hid (Sg.outcome r=R):=⟨_,Lib.hid rfl⟩
 rw [HR.out]
 unfold Sg.outcome at HR
 obtain ⟨i,sg,ag,a,p,t,st,y,va⟩:=r
 simp only at HR
 unfold Sg.Run.val Sg.Run.cells
 go_enter Tryz.func70,Tryz.ntmps70
 go_upto_region 1 with (fail)
 refine wp_named (fun V hV=>?_)
 obtain ⟨hb,hq,-⟩:=fresh_box hV
 have HB:=Lib.hid hb
 clear hV hb
 have x4:=hq.cell 4
 have x6:=hq.cell 6
 have x7:=hq.cell 7
 have x8:=hq.cell 8
 simp only [List.getElem?_toArray,List.getElem?_cons_zero,List.getElem?_cons_succ] at x4 x6 x7 x8
 by_cases hp3:p=3
 case pos =>
  subst hp3
  have x4:_=some (Value.int .u8 3):=x4
  rw [if_pos rfl] at HR
  have HE:Hid (R=(3,0,va)):=Lib.hid HR.out.symm
  go_wp2_with fail
  go_quiet (fail)
  go_wp2_with fail
  go_ret3
  exact ⟨by rw [HE.out];rfl,below_drewN HB.out _⟩
 by_cases hp4:p=4
 case pos =>
  subst hp4
  have x4:_=some (Value.int .u8 4):=x4
  rw [if_neg (by decide),if_pos rfl] at HR
  by_cases hy:y=201
  case pos =>
   rw [if_pos hy] at HR
   have t1:((y:Int)==201)=true:=by rw [beq_iff_eq];exact hy
   have HE:Hid (R=(5,0,⟨#[]⟩)):=Lib.hid HR.out.symm
   go_wp2_with fail
   go_ret3
   exact ⟨by rw [HE.out];rfl,HB.out⟩
  rw [if_neg hy] at HR
  have t1:((y:Int)==201)=false:=by rw [beq_eq_false_iff_ne];exact hy
  have HE:Hid (R=(4,y,⟨#[]⟩)):=Lib.hid HR.out.symm
  go_wp2_with fail
  go_quiet (fail)
  go_wp2_with fail
  go_ret3
  exact ⟨by rw [HE.out];rfl,below_drewN HB.out _⟩
 by_cases hp5:p=5
 case pos =>
  subst hp5
  have x4:_=some (Value.int .u8 5):=x4
  rw [if_neg (by decide),if_neg (by decide),if_pos rfl] at HR
  have HE:Hid (R=(4,133,⟨#[]⟩)):=Lib.hid HR.out.symm
  go_wp2_with fail
  go_ret3
  exact ⟨by rw [HE.out];rfl,HB.out⟩
 rw [if_neg hp3,if_neg hp4,if_neg hp5] at HR
 have v3:((p:Int)==3)=false:=by rw [beq_eq_false_iff_ne];omega
 have v4:((p:Int)==4)=false:=by rw [beq_eq_false_iff_ne];omega
 have v5:((p:Int)==5)=false:=by rw [beq_eq_false_iff_ne];omega
 have u3:¬(p:Int)=3:=by omega
 have u4:¬(p:Int)=4:=by omega
 have u5:¬(p:Int)=5:=by omega
 cases st with
 | true =>
  rw [if_pos rfl] at HR
  have HE:Hid (R=(2,0,⟨#[]⟩)):=Lib.hid HR.out.symm
  go_wp2_with fail
  go_ret3
  exact ⟨by rw [HE.out];rfl,HB.out⟩
 | false =>
  rw [if_neg (by simp)] at HR
  have HE:Hid (R=(1,0,⟨#[]⟩)):=Lib.hid HR.out.symm
  go_wp2_with fail
  go_ret3
  exact ⟨by rw [HE.out];rfl,HB.out⟩
end Go.Proofs.YtogijkhenihaaaaGreatDoor
