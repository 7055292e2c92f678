/- SagaEnds: the law's walk (printed by gen_sgh.py). No condition but the ones the theorems state. -/
import Derived.Test.YtogijkhenihaaaaGreatDoorGE30
import Derived.Test.YtogijkhenihaaaaGreatDoorGE31
set_option linter.unusedVariables false
set_option linter.unusedSimpArgs false
namespace Go.Proofs.YtogijkhenihaaaaGreatDoor
open Go.RowKit Go.BigFrame
namespace Lst
section
variable {P : Program} {ops : Array Oper} {Q : Exit → Act → World → Prop} {md : Region.Mode} {S : World → Prop}
theorem three (i j m:Nat) {oi oj om:Oper} {D:List Nat} {fuel:Nat} {listed:Array Bool} {a:Act} {w:World} (hr:Region.ready md ops listed=[i,j,m]) (hoi:ops[i]?=some oi) (hoj:ops[j]?=some oj) (hom:ops[m]?=some om)
  (h1:∀ K':Act→World→Prop,Go.Shut (∀ a w,(noneOf D (listed.setIfInBounds i true)=true→S w)→wpAnyL P md ops Q S D fuel (listed.setIfInBounds i true) a w→K' a w)→if Region.wanted oi (yielded ops a.tmps)=true then Oper.wp P oi a w K' Q else K' (a.put oi.dst undef) w)
  (h2:∀ K':Act→World→Prop,Go.Shut (∀ a w,(noneOf D (listed.setIfInBounds j true)=true→S w)→wpAnyL P md ops Q S D fuel (listed.setIfInBounds j true) a w→K' a w)→if Region.wanted oj (yielded ops a.tmps)=true then Oper.wp P oj a w K' Q else K' (a.put oj.dst undef) w)
  (h3:∀ K':Act→World→Prop,Go.Shut (∀ a w,(noneOf D (listed.setIfInBounds m true)=true→S w)→wpAnyL P md ops Q S D fuel (listed.setIfInBounds m true) a w→K' a w)→if Region.wanted om (yielded ops a.tmps)=true then Oper.wp P om a w K' Q else K' (a.put om.dst undef) w) :
  wpAnyL P md ops Q S D (fuel+1) listed a w :=
 ⟨(fun h0=>by rw [hr] at h0;cases h0),fun k hk=>by
  rw [hr] at hk
  rcases List.mem_cons.1 hk with rfl | hk
  ·exact wpOp_step hoi (fun K' hK=>h1 K' (fun a w hS hW=>hK a w ⟨hS,hW⟩))
  ·rcases List.mem_cons.1 hk with rfl | hk
   ·exact wpOp_step hoj (fun K' hK=>h2 K' (fun a w hS hW=>hK a w ⟨hS,hW⟩))
   ·obtain rfl:=List.mem_singleton.1 hk
    exact wpOp_step hom (fun K' hK=>h3 K' (fun a w hS hW=>hK a w ⟨hS,hW⟩))⟩
end
end Lst
namespace Sg
open Go.Proofs.YtogijkhenihaaaaGreatDoor.Id Go.Proofs.YtogijkhenihaaaaGreatDoor.Chk Go.Proofs.YtogijkhenihaaaaGreatDoor.Ev Go.Proofs.YtogijkhenihaaaaGreatDoor.Sd
theorem reply_same {A:Sch→ByteArray→ByteArray→Nat} {x:Sch} {r:Run} {fr most:Int} {l:Letter}:(reply A x r fr most l).1.id=r.id∧(reply A x r fr most l).1.saga=r.saga∧(reply A x r fr most l).1.arg=r.arg:=by
 unfold reply
 split
 ·exact took_same
 ·exact ⟨rfl,rfl,rfl⟩
/-- The law's boxes: the schema's, the run's. -/
structure Eb (w V:World) (gR:Nat) (S R:Array Value):Prop where
 bel:Below w.heap.size w V
 s:Bk V w.heap.size 28 S
 r:Bk V gR 54 R
 lt:w.heap.size<gR
theorem Eb.below {w V V':World} {gR:Nat} {S R:Array Value} (h:Eb w V gR S R) (hb:Below V.heap.size V V'):Eb w V' gR S R:=⟨h.bel.trans (hb.mono h.bel.size),h.s.below hb h.s.lt,h.r.below hb h.r.lt,h.lt⟩
theorem Eb.setR {w V:World} {gR:Nat} {S R:Array Value} (h:Eb w V gR S R) (c:Array Value):Eb w (V.setRow gR c) gR S c:=by
 have hlt:=h.lt
 exact ⟨below_row h.bel (by omega) _,h.s.row_far (by omega) _,h.r.row _,hlt⟩
/-- Beside them two new ones, as far as they are made. -/
structure Er (w V:World) (gR:Nat) (S R:Array Value) (oa ob:Option Nat):Prop where
 eb:Eb w V gR S R
 a:∀ g,oa=some g→Bk V g 54 zrun∧gR<g
 b:∀ g,ob=some g→Bk V g 56 #[.int .u8 0,.int .i64 0,.int .i64 0,.int .u64 0,.string ⟨#[]⟩,.int .u64 0,.string ⟨#[]⟩,.string ⟨#[]⟩,.int .i64 0,.string ⟨#[]⟩]∧gR<g
theorem Er.below {w V V':World} {gR:Nat} {S R:Array Value} {oa ob:Option Nat} (h:Er w V gR S R oa ob) (hb:Below V.heap.size V V'):Er w V' gR S R oa ob :=
 ⟨h.eb.below hb,fun g e=>⟨(h.a g e).1.below hb (h.a g e).1.lt,(h.a g e).2⟩,fun g e=>⟨(h.b g e).1.below hb (h.b g e).1.lt,(h.b g e).2⟩⟩
theorem Er.allocA {w V:World} {gR:Nat} {S R:Array Value} {oa ob:Option Nat} (h:Er w V gR S R oa ob):Er w (V.alloc (.cells zrun 54)) gR S R (some V.heap.size) ob:=by
 have hb:=(Below.refl V.heap.size V).alloc (Nat.le_refl _) (.cells zrun 54)
 exact ⟨h.eb.below hb,fun g e=>by injection e with e;subst e;exact ⟨Bk.new _ _ _,h.eb.r.lt⟩,(h.below hb).b⟩
theorem Er.allocB {w V:World} {gR:Nat} {S R:Array Value} {oa ob:Option Nat} (h:Er w V gR S R oa ob):Er w (V.alloc (.cells #[.int .u8 0,.int .i64 0,.int .i64 0,.int .u64 0,.string ⟨#[]⟩,.int .u64 0,.string ⟨#[]⟩,.string ⟨#[]⟩,.int .i64 0,.string ⟨#[]⟩] 56)) gR S R oa (some V.heap.size):=by
 have hb:=(Below.refl V.heap.size V).alloc (Nat.le_refl _) (.cells #[.int .u8 0,.int .i64 0,.int .i64 0,.int .u64 0,.string ⟨#[]⟩,.int .u64 0,.string ⟨#[]⟩,.string ⟨#[]⟩,.int .i64 0,.string ⟨#[]⟩] 56)
 exact ⟨h.eb.below hb,(h.below hb).a,fun g e=>by injection e with e;subst e;exact ⟨Bk.new _ _ _,h.eb.r.lt⟩⟩
theorem Eb.far {w V:World} {gR g:Nat} {S R:Array Value} (h:Eb w V gR S R) (hg:gR<g) (c:Array Value):Eb w (V.setRow g c) gR S R:=by
 have hlt:=h.lt
 exact ⟨below_row h.bel (by omega) _,h.s.row_far (by omega) _,h.r.row_far (by omega) _,hlt⟩
structure Ef (w V:World) (gR:Nat) (S R:Array Value) (gA:Nat) (RN:Array Value):Prop where
 eb:Eb w V gR S R
 a:Bk V gA 54 RN
 lt:gR<gA
theorem Ef.below {w V V':World} {gR gA:Nat} {S R RN:Array Value} (h:Ef w V gR S R gA RN) (hb:Below V.heap.size V V'):Ef w V' gR S R gA RN:=⟨h.eb.below hb,h.a.below hb h.a.lt,h.lt⟩
theorem Run.one (r:Run):r.cells.all (·.oneCell')=true:=by
 unfold Run.cells
 simp [Value.oneCell']
theorem bk_ne {V:World} {g g':Nat} {t t':TypeId} {cs cs':Array Value} (h:Bk V g t cs) (h':Bk V g' t' cs') (hn:t≠t'):g≠g':=by
 rintro rfl
 unfold Bk at h h'
 rw [h] at h'
 injection h' with e
 injection e with e1 e2 e3
 exact hn e2
theorem Er.fill {w V:World} {gR gA gB:Nat} {S R:Array Value} (h:Er w V gR S R (some gA) (some gB)) (c c':Array Value):Ef w ((V.setRow gA c).setRow gB c') gR S R gA c:=by
 obtain ⟨a1,a2⟩:=h.a gA rfl
 obtain ⟨b1,b2⟩:=h.b gB rfl
 have hne:=bk_ne a1 b1 (by decide)
 exact ⟨(h.eb.far a2 c).far b2 c',(a1.row c).row_far hne c',a2⟩
theorem end_ok {A:Sch→ByteArray→ByteArray→Nat} {x:Sch} {g:ByteArray} {n m:Int} {r:Run} {i k:Int} (h:EndI A x g n m r i k) (hn:n=((steps x g).1:Int)) (hm:0≤m) (hi:0≤k):¬(2 * n+n * (m+1)<k):=by
 have:=end_bound h hn hm
 omega
end Sg
set_option maxRecDepth 100000 in
set_option maxHeartbeats 64000000 in
theorem sagaEnds_walk (sv:Value) (x:Id.Sch) (name id arg:ByteArray) (most:Int) (lv:Value) (ls:List Int) (w0:World) (hv0:Id.SchV w0 none sv x) (hn1:name.size≤maxLen) (hn2:id.size≤maxLen) (hn3:arg.size≤maxLen) (hmw:(Lit.int .u8 most).wf=true) (hl0:Sg.Nums w0 lv ls) (w:World) (hww:w0=w) (hk:Tk.KW w) :
  Calls Tryz.prog 5 #[sv,.string name,.string id,.string arg,.int .u8 most,lv] w fun e w'=>e=.returned (.bool true)∧Below w.heap.size w w':=by
 subst hww
 have HKW:=Lib.hid hk
 have HV:=Lib.hid hv0
 have HLS:=Lib.hid hl0
 have HMO:Hid (0≤most∧most≤255):=Lib.hid (by simp [Lit.wf,IntKind.min,IntKind.max,IntKind.bits,IntKind.signed] at hmw;omega)
 obtain ⟨A1,n1,c1,A2,n2,c2,A3,n3,c3,rfl,-,-,-⟩:=hv0
 obtain ⟨AL,nL,cL,rfl⟩:=ERow.is hl0
 have HNL:Hid (nL=ls.length∧nL≤9223372036854775807):=Lib.hid (by obtain ⟨_,_,e,h1,h2,_⟩:=ERow.slice hl0;injection e with _ e _;exact ⟨e,by omega⟩)
 clear hk hl0 hmw hn1 hn2 hn3
 go_enter Tryz.func5,Tryz.ntmps5
 go_upto_region 1 with (fail)
 refine wp_named (fun V hV=>?_)
 have HL:=Lib.hid (Chk.Lx.start hV)
 clear hV
 obtain ⟨⟨q0,q1,q2,q3⟩,-⟩:=HL.out.box.k4
 have hg:=sggreat_any _ x ⟨id,name,arg,0,0,0,false,0,⟨#[]⟩⟩ Ev.Letter.zero V (Id.SchV.below HL.out.bel HV.out)
 unfold Sg.Run.val Sg.Run.cells Ev.Letter.zero Ev.Letter.val at hg
 simp only [Int.cast_ofNat_Int] at hg
 have HG:=Lib.hid hg
 clear hg
 go_wp2_with fail
 refine HG.out.mono ?_
 rintro e W1 ⟨gb,rfl,hb,hf⟩
 have HL1:=Lib.hid (HL.out.below hb)
 clear hb q0 q1 q2 q3 HL HG
 cases gb with
 | true =>
  go_wp2_with fail
  refine (wakes25_any _ (HKW.out.below HL1.out.bel)).mono ?_
  rintro e Wk ⟨rfl,hb⟩
  have hbk:=HL1.out.bel.trans (hb.mono (HL1.out.bel).size)
  clear hb
  go_wp2_with fail
  go_ret
  exact ⟨rfl,hbk⟩
 | false =>
  have HFR:=Lib.hid (hf rfl)
  clear hf
  by_cases hlen:(400:Int)<(nL:Int)
  case pos =>
   go_wp2_with fail
   refine (wakes25_any _ (HKW.out.below HL1.out.bel)).mono ?_
   rintro e Wk ⟨rfl,hb⟩
   have hbk:=HL1.out.bel.trans (hb.mono (HL1.out.bel).size)
   clear hb
   go_wp2_with fail
   go_ret
   exact ⟨rfl,hbk⟩
  have HFI:Hid (Chk.Fine x):=Lib.hid HFR.out.x.fine
  have HID:Hid (id.size≤100000):=Lib.hid (Nat.le_trans HFR.out.id (by decide))
  have HAG:Hid (arg.size≤1000000):=Lib.hid (Nat.le_trans HFR.out.ag (by decide))
  have HLEN:Hid (nL≤400):=Lib.hid (by omega)
  obtain ⟨⟨q0,q1,q2,q3⟩,-⟩:=HL1.out.box.k4
  have hco:=sgbegin_any _ x HFI.out name id HID.out 0 arg HAG.out W1 (HKW.out.below HL1.out.bel) (Id.SchV.below HL1.out.bel HV.out)
  have hbo:=Sg.begin_ok (A:=Sg.argE) (x:=x) (g:=name) (id:=id) (b:=arg) (fr:=0)
  obtain ⟨⟨⟨m0,m1,m2,m3,m4,m5,m6,m7,m8⟩,⟨k0,k1,k2,k3,k4,k5,k6,k7,k8,k9⟩,BE⟩,HQQ⟩:∃ q:Sg.Run × Ev.Letter × Nat,Hid (Sg.begin_ Sg.argE x name id 0 arg=q):=⟨_,Lib.hid rfl⟩
  rw [HQQ.out] at hco hbo
  unfold Sg.out3V Sg.Run.val Sg.Run.cells Ev.Letter.val at hco
  have HCO:=Lib.hid hco
  have HBO:=Lib.hid hbo
  clear hco hbo
  go_wp2_with fail
  refine HCO.out.mono ?_
  rintro e W2 ⟨rfl,hb⟩
  have HL2:=Lib.hid (HL1.out.below hb)
  clear hb HCO q0 q1 q2 q3 HL1
  have hFr:=Sg.Two.fresh W2
  have hQ:=hFr.1
  (have hq1:=hQ.r;have hq2:=(hQ.setR #[.string m0,.string m1,.string m2,.int .i64 m3,.int .u8 (m4:Nat),.int .i64 m5,.bool m6,.int .i64 m7,.string m8]).l;unfold Bk at hq1 hq2)
  go_upto_region 4 with (refine wpList_store_row rfl _ _ _ rfl _ _ rfl rfl _ _ (by with_reducible assumption) (by kernel_rfl) (by rfl) (by simp [Value.oneCell']) ?_)
  refine wp_named (fun V4 hV=>?_)
  obtain ⟨gR,HgR⟩:∃ n,Hid (W2.heap.size=n):=⟨_,Lib.hid rfl⟩
  have hX:Sg.Eb w0 V4 gR #[.string x.name,.slice A1 n1 c1,.slice A2 n2 c2,.slice A3 n3 c3] #[.string m0,.string m1,.string m2,.int .i64 m3,.int .u8 (m4:Nat),.int .i64 m5,.bool m6,.int .i64 m7,.string m8]:=by
   have hb:Below W2.heap.size W2 V4:=by rw [hV];exact Sg.below_both hFr.2 (Nat.le_refl _) (by omega) _ _
   have hlt:=HL2.out.box.lt
   rw [←HgR.out]
   exact ⟨HL2.out.bel.trans (hb.mono HL2.out.bel.size),HL2.out.box.below hb hlt,by rw [hV];exact (hQ.both _ _).r,hlt⟩
  clear hV hq1 hq2 hQ hFr HL2
  rw [HgR.out]
  by_cases hE:BE=0
  case neg =>
   have t1:((BE:Int) != 0)=true:=by rw [bne_iff_ne];omega
   have t2:¬(BE:Int)=0:=by omega
   go_wp2_with fail
   refine (wakes25_any _ (HKW.out.below hX.bel)).mono ?_
   rintro e Wk ⟨rfl,hb⟩
   have hbk:=hX.bel.trans (hb.mono (hX.bel).size)
   clear hb
   go_wp2_with fail
   go_ret
   exact ⟨rfl,hbk⟩
  obtain ⟨hr0,hrt⟩:=HBO.out hE
  have HRT:=Lib.hid hrt
  have hr0:=hr0.symm
  simp only [Sg.Run.mk.injEq] at hr0
  obtain ⟨rfl,rfl,rfl,rfl,rfl,rfl,rfl,rfl,rfl⟩:=hr0
  subst hE
  clear hrt HBO HQQ
  simp only [Int.cast_ofNat_Int] at hX ⊢
  obtain ⟨N,HN⟩:∃ N,Hid ((Sd.steps x name).1=N):=⟨_,Lib.hid rfl⟩
  obtain ⟨NE,HNE⟩:∃ N,Hid ((Sd.steps x name).2=N):=⟨_,Lib.hid rfl⟩
  have HNS:Hid (N≤1000):=Lib.hid (by rw [←HN.out];exact Sg.steps_small HFI.out name)
  obtain ⟨⟨q0,q1,q2,q3⟩,-⟩:=hX.s.k4
  go_wp2_with fail
  refine (ssteps_any _ x HFI.out name _ (HKW.out.below hX.bel) (Id.SchV.below hX.bel HV.out)).mono ?_
  rw [HN.out,HNE.out]
  rintro e W6 ⟨rfl,hb⟩
  have hX6:=hX.below hb
  clear hX hb q0 q1 q2 q3
  obtain ⟨M,HM⟩:∃ M:Int,Hid (most % 30=M):=⟨_,Lib.hid rfl⟩
  have HM0:Hid (0≤M∧M≤29):=Lib.hid (by rw [←HM.out];omega)
  have hwi:IntKind.i64.wrap (most.tmod 30)=M:=by
   have h:=HMO.out
   rw [Int.tmod_eq_emod_of_nonneg h.1,HM.out]
   have h2:=HM0.out
   rw [IntKind.wrap_i64]
   omega
  go_wp2_with fail
  have HEI0:Hid (Sg.EndI Sg.argE x name N M ⟨id,name,arg,0,1,0,false,0,⟨#[]⟩⟩ 0 0):=Lib.hid (Sg.end_start HRT.out HM0.out.1)
  have HX6:=Lib.hid hX6
  have HNI:Hid ((N:Int)=((Sd.steps x name).1:Int)):=Lib.hid (by rw [HN.out])
  clear hwi hX6
  go_loopw [20,19] (fun iv tv wr=>∃ (k m:Nat) (r:Sg.Run),k≤nL∧m≤k∧iv=.int .i64 k∧tv=.int .i64 m∧Hid (r.id=id∧r.arg=arg)∧Hid (Sg.EndI Sg.argE x name N M r k m)∧Hid (Sg.Eb w0 wr gR #[.string x.name,.slice A1 n1 c1,.slice A2 n2 c2,.slice A3 n3 c3] r.cells)) (fun iv _ _=>nL - (intOf iv).toNat)
  case atStart=>exact ⟨0,0,_,by omega,by omega,rfl,rfl,Lib.hid ⟨rfl,rfl⟩,HEI0,HX6⟩
  case round =>
   obtain ⟨k,m,r,hk,hm,rfl,rfl,HRI,HEI,HX⟩:=hrel
   obtain ⟨U,rfl⟩:∃ wo:World,wo=wr:=⟨_,rfl⟩
   by_cases hlt:k<nL
   case neg =>
    have h1:¬(k:Int)<(nL:Int):=by omega
    have hkk:k=nL:=by omega
    have HKK:Hid (k=nL):=Lib.hid hkk
    clear hkk hlt hk
    have hk4:=HLEN.out
    have hns:=HNS.out
    have hm0:=HM0.out
    have w1:IntKind.i64.wrap (2 * (N:Int))=2 * (N:Int):=by rw [IntKind.wrap_i64];omega
    have w2:IntKind.i64.wrap (M+1)=M+1:=by rw [IntKind.wrap_i64];omega
    have hmul:(N:Int) * (M+1)≤30000:=by
     have a1:(N:Int) * (M+1)≤1000 * (M+1):=Int.mul_le_mul_of_nonneg_right (by omega) (by omega)
     omega
    have hmul0:0≤(N:Int) * (M+1):=Int.mul_nonneg (by omega) (by omega)
    have w3:IntKind.i64.wrap ((N:Int) * (M+1))=(N:Int) * (M+1):=by rw [IntKind.wrap_i64];omega
    have w4:IntKind.i64.wrap (2 * (N:Int)+(N:Int) * (M+1))=2 * (N:Int)+(N:Int) * (M+1):=by rw [IntKind.wrap_i64];omega
    have hbd:=Sg.end_ok HEI.out HNI.out hm0.1 (by omega)
    have hov:=fun W=>sgover_any r W
    obtain ⟨O,HO⟩:∃ o,Hid (Sg.over r=o):=⟨_,Lib.hid rfl⟩
    simp only [HO.out] at hov
    unfold Sg.Run.val at hov
    have HOV:=Lib.hid hov
    have hL:=HX.out.r
    clear hov hm hm0 hns hmul hmul0 hk4
    go_wp2_with (refine wpList_load_row rfl _ _ rfl _ rfl _ _ _ _ hL Tryz.underlying54 rfl (by kernel_rfl) ?_)
    refine (HOV.out _).mono ?_
    rintro e W7 ⟨rfl,hb⟩
    have hb7:=HX.out.bel.trans (hb.mono HX.out.bel.size)
    clear hb hL HOV w1 w2 w3 w4 hbd
    have hend:O=true∨m=k:=by
     rcases HEI.out.en with h | h
     ·left;rw [←HO.out];exact h
     ·right;omega
    cases O with
    | true =>
     go_wp2_with fail
     refine (wakes25_any _ (HKW.out.below hb7)).mono ?_
     rintro e Wk ⟨rfl,hb⟩
     have hbk:=hb7.trans (hb.mono hb7.size)
     clear hb
     go_wp2_with fail
     go_ret
     exact ⟨rfl,hbk⟩
    | false =>
     have hmk:((m:Int)==(nL:Int))=true:=by
      rcases hend with h | h
      ·cases h
      ·have:=HKK.out;rw [beq_iff_eq];omega
     clear hend
     go_wp2_with fail
     refine (wakes25_any _ (HKW.out.below hb7)).mono ?_
     rintro e Wk ⟨rfl,hb⟩
     have hbk:=hb7.trans (hb.mono hb7.size)
     clear hb
     go_wp2_with fail
     go_ret
     exact ⟨rfl,hbk⟩
   have h1:(k:Int)<(nL:Int):=by omega
   go_upto_region 12 with (fail)
   have hkl:k<ls.length:=by rw [←HNL.out.1];exact hlt
   have hnl:=HNL.out.2
   obtain ⟨gb,off,cs,rfl,-,he,hc⟩:=ERow.get HLS.out hkl (by decide)
   obtain ⟨code,Hcode⟩:∃ c,Hid (ls[k]=c):=⟨_,Lib.hid rfl⟩
   rw [Hcode.out] at he
   have hce:cs=[.int .i64 code]:=he
   subst hce
   have a0:=hc 0 _ rfl
   simp only [Nat.add_zero,Nat.mul_one] at a0
   have hgb:gb<w0.heap.size:=block_lt_of_cell a0
   have dA:∀ w',Below w0.heap.size w0 w'→w'.cell? ⟨gb,off+k,none⟩=some (.int .i64 code):=fun w' hw'=>(hw'.cell (p:=⟨gb,off+k,none⟩) hgb).trans a0
   have HDA:=Lib.hid dA
   obtain ⟨KB,HKB⟩:∃ b,Hid (Sg.waits r=b):=⟨_,Lib.hid rfl⟩
   have hlet:=fun W=>sgletter_any r (by rw [HRI.out.1];exact HID.out) 0 code 0 ⟨#[]⟩ W
   have hwl:Sg.wordL r 0 code 0 ⟨#[]⟩=⟨2,0,0,0,KB,0,⟨#[]⟩,⟨#[]⟩,code,⟨#[]⟩⟩:=by unfold Sg.wordL;rw [if_pos rfl,HKB.out]
   simp only [hwl] at hlet
   unfold Sg.Run.val Ev.Letter.val at hlet
   simp only [Int.cast_ofNat_Int] at hlet
   have HLET:=Lib.hid hlet
   have hrep:=fun W k v=>sgreply_any (.agg #[.string x.name,.slice A1 n1 c1,.slice A2 n2 c2,.slice A3 n3 c3]) x HFI.out r (by rw [HRI.out.1];exact HID.out) (by rw [HRI.out.2];exact HAG.out) 0 M ⟨2,0,0,0,KB,0,⟨#[]⟩,⟨#[]⟩,code,⟨#[]⟩⟩ W k v
   have hrd:=Sg.end_round (l:=(⟨2,0,0,0,KB,0,⟨#[]⟩,⟨#[]⟩,code,⟨#[]⟩⟩:Ev.Letter)) HEI.out HNI.out HM0.out.1 rfl (by show KB.toList=_;rw [HKB.out])
   have hsm:=Sg.reply_same (A:=Sg.argE) (x:=x) (r:=r) (fr:=0) (most:=M) (l:=(⟨2,0,0,0,KB,0,⟨#[]⟩,⟨#[]⟩,code,⟨#[]⟩⟩:Ev.Letter))
   obtain ⟨⟨rn,⟨k0,k1,k2,k3,k4,k5,k6,k7,k8,k9⟩,cl,tk⟩,HQQ⟩:∃ q:Sg.Run × Ev.Letter × Bool × Bool,Hid (Sg.reply Sg.argE x r 0 M ⟨2,0,0,0,KB,0,⟨#[]⟩,⟨#[]⟩,code,⟨#[]⟩⟩=q):=⟨_,Lib.hid rfl⟩
   rw [HQQ.out] at hrd hsm
   simp only [HQQ.out] at hrep
   simp only at hrd hsm
   unfold Sg.outV Sg.Run.val Ev.Letter.val at hrep
   simp only [Int.cast_ofNat_Int] at hrep
   have HREP:=Lib.hid hrep
   have HRD:=Lib.hid hrd
   have HSM:=Lib.hid hsm
   clear hlet hwl hrep hrd hsm dA a0 hc he Hcode hkl
   go_cut [21,24] (fun u d wx=>∃ gA,u=.pointer (some ⟨gA,0,none⟩)∧d=.bool tk∧Hid (Sg.Ef w0 wx gR #[.string x.name,.slice A1 n1 c1,.slice A2 n2 c2,.slice A3 n3 c3] r.cells gA rn.cells))
   case first =>
    have hd:Below U.heap.size U U.drew:=(Below.refl _ _).drew
    have hS:Sg.Er w0 U.drew gR #[.string x.name,.slice A1 n1 c1,.slice A2 n2 c2,.slice A3 n3 c3] r.cells none none:=⟨HX.out.below hd,(fun g e=>by cases e),(fun g e=>by cases e)⟩
    have hS0:=hS.eb
    clear hd
    refine wp_region_L_calm (fun w'=>Sg.Eb w0 w' gR #[.string x.name,.slice A1 n1 c1,.slice A2 n2 c2,.slice A3 n3 c3] r.cells) [21] (by kernel_rfl) hS0 (fun hHeld=>?_)
    (refine Lst.takeM 21 0 (v:=.agg #[.string x.name,.slice A1 n1 c1,.slice A2 n2 c2,.slice A3 n3 c3]) rfl (by kernel_rfl) (by kernel_rfl) (by kernel_rfl) (by kernel_rfl) (by kernel_rfl) (by kernel_rfl) (fun _ _ _ h=>h) (by assumption) (by kernel_rfl) (fun w' hSw=>Sg.exec_row _ _ rfl w0.heap.size rfl _ _ _ hSw.s Tryz.underlying28 rfl (by kernel_rfl)) ?_;try simp only [Act.put,List.setIfInBounds_toArray,List.set_cons_zero,List.set_cons_succ])
    (refine Lst.takeM 21 1 (v:=.agg r.cells) rfl (by kernel_rfl) (by kernel_rfl) (by kernel_rfl) (by kernel_rfl) (by kernel_rfl) (by kernel_rfl) (fun _ _ _ h=>h) (by assumption) (by kernel_rfl) (fun w' hSw=>Sg.exec_row _ _ rfl gR rfl _ _ _ hSw.r Tryz.underlying54 rfl (by kernel_rfl)) ?_;try simp only [Act.put,List.setIfInBounds_toArray,List.set_cons_zero,List.set_cons_succ])
    (refine wpAnyL_take0 2 (v:=?_) rfl (by kernel_rfl) (by kernel_rfl) (by kernel_rfl) (by kernel_rfl) (fun _ _ _ h=>h) (fun _=>by assumption) (by rfl) ?_ ?_;rotate_left;· (intro w;go_simp;try with_reducible rfl);try simp only [Act.put,List.setIfInBounds_toArray,List.set_cons_zero,List.set_cons_succ])
    (refine Lst.takeM 21 3 (v:=.agg r.cells) rfl (by kernel_rfl) (by kernel_rfl) (by kernel_rfl) (by kernel_rfl) (by kernel_rfl) (by kernel_rfl) (fun _ _ _ h=>h) (by assumption) (by kernel_rfl) (fun w' hSw=>Sg.exec_row _ _ rfl gR rfl _ _ _ hSw.r Tryz.underlying54 rfl (by kernel_rfl)) ?_;try simp only [Act.put,List.setIfInBounds_toArray,List.set_cons_zero,List.set_cons_succ])
    (refine wpAnyL_take0 4 (v:=?_) rfl (by kernel_rfl) (by kernel_rfl) (by kernel_rfl) (by kernel_rfl) (fun _ _ _ h=>h) (fun _=>by assumption) (by rfl) ?_ ?_;rotate_left;· (intro w;go_simp;try with_reducible rfl);try simp only [Act.put,List.setIfInBounds_toArray,List.set_cons_zero,List.set_cons_succ])
    (refine wpAnyL_take0 5 (v:=?_) rfl (by kernel_rfl) (by kernel_rfl) (by kernel_rfl) (by kernel_rfl) (fun _ _ _ h=>h) (fun _=>by assumption) (by rfl) ?_ ?_;rotate_left;· (intro w;go_simp;try with_reducible rfl);try simp only [Act.put,List.setIfInBounds_toArray,List.set_cons_zero,List.set_cons_succ])
    (refine wpAnyL_take0 6 (v:=?_) rfl (by kernel_rfl) (by kernel_rfl) (by kernel_rfl) (by kernel_rfl) (fun _ _ _ h=>h) (fun _=>by assumption) (by rfl) ?_ ?_;rotate_left;· (intro w;go_simp;try with_reducible rfl);try simp only [Act.put,List.setIfInBounds_toArray,List.set_cons_zero,List.set_cons_succ])
    (refine Lst.takeM 21 7 (v:=?_) rfl (by kernel_rfl) (by kernel_rfl) (by kernel_rfl) (by kernel_rfl) (by kernel_rfl) (by kernel_rfl) (fun _ _ _ h=>h) (by assumption) (by rfl) ?_ ?_;rotate_left;· (intro w hSw;have e7:=HDA.out _ hSw.bel;go_simp;try with_reducible rfl);try simp only [Act.put,List.setIfInBounds_toArray,List.set_cons_zero,List.set_cons_succ])
    (refine wpAnyL_take0 8 (v:=?_) rfl (by kernel_rfl) (by kernel_rfl) (by kernel_rfl) (by kernel_rfl) (fun _ _ _ h=>h) (fun _=>by assumption) (by rfl) ?_ ?_;rotate_left;· (intro w;go_simp;try with_reducible rfl);try simp only [Act.put,List.setIfInBounds_toArray,List.set_cons_zero,List.set_cons_succ])
    clear hHeld hS0
    refine Lst.three 9 16 17 (by kernel_rfl) rfl rfl rfl (fun K hK=>?_) (fun K hK=>?_) (fun K hK=>?_)
    ·(go_simp;refine (HLET.out _).mono ?_;rintro e X ⟨rfl,hb⟩;have hn:=hS.below hb;(refine hK.out _ _ (fun hnn=>hn.eb) ?_;clear hK K;try simp only [Act.put,List.setIfInBounds_toArray,List.set_cons_zero,List.set_cons_succ]);clear hb hS;have hS:=hn;clear hn)
     refine Lst.three 10 16 17 (by kernel_rfl) rfl rfl rfl (fun K hK=>?_) (fun K hK=>?_) (fun K hK=>?_)
     ·(go_simp;refine (HREP.out _ (HKW.out.below hS.eb.bel) (Id.SchV.below hS.eb.bel HV.out)).mono ?_;rintro e X ⟨rfl,hb⟩;have hn:=hS.below hb;(refine hK.out _ _ (fun hnn=>hn.eb) ?_;clear hK K;try simp only [Act.put,List.setIfInBounds_toArray,List.set_cons_zero,List.set_cons_succ]);clear hb hS;have hS:=hn;clear hn;have hSe:=hS.eb;(refine wpAnyL_take0 11 (v:=?_) rfl (by kernel_rfl) (by kernel_rfl) (by kernel_rfl) (by kernel_rfl) (fun _ _ _ h=>h) (fun _=>by assumption) (by rfl) ?_ ?_;rotate_left;· (intro w;go_simp;try with_reducible rfl);try simp only [Act.put,List.setIfInBounds_toArray,List.set_cons_zero,List.set_cons_succ]);(refine wpAnyL_take0 12 (v:=?_) rfl (by kernel_rfl) (by kernel_rfl) (by kernel_rfl) (by kernel_rfl) (fun _ _ _ h=>h) (fun _=>by assumption) (by rfl) ?_ ?_;rotate_left;· (intro w;go_simp;try with_reducible rfl);try simp only [Act.put,List.setIfInBounds_toArray,List.set_cons_zero,List.set_cons_succ]);(refine wpAnyL_take0 13 (v:=?_) rfl (by kernel_rfl) (by kernel_rfl) (by kernel_rfl) (by kernel_rfl) (fun _ _ _ h=>h) (fun _=>by assumption) (by rfl) ?_ ?_;rotate_left;· (intro w;go_simp;try with_reducible rfl);try simp only [Act.put,List.setIfInBounds_toArray,List.set_cons_zero,List.set_cons_succ]);(refine wpAnyL_take0 14 (v:=?_) rfl (by kernel_rfl) (by kernel_rfl) (by kernel_rfl) (by kernel_rfl) (fun _ _ _ h=>h) (fun _=>by assumption) (by rfl) ?_ ?_;rotate_left;· (intro w;go_simp;try with_reducible rfl);try simp only [Act.put,List.setIfInBounds_toArray,List.set_cons_zero,List.set_cons_succ]);(refine wpAnyL_take0 15 (v:=?_) rfl (by kernel_rfl) (by kernel_rfl) (by kernel_rfl) (by kernel_rfl) (fun _ _ _ h=>h) (fun _=>by assumption) (by rfl) ?_ ?_;rotate_left;· (intro w;go_simp;try with_reducible rfl);try simp only [Act.put,List.setIfInBounds_toArray,List.set_cons_zero,List.set_cons_succ]);clear hSe)
      refine Lst.two 16 17 (by kernel_rfl) rfl rfl (fun K hK=>?_) (fun K hK=>?_)
      ·(go_simp;have hn:=hS.allocA;(try simp only [World.size_alloc] at hn);(refine hK.out _ _ (fun hnn=>hn.eb) ?_;clear hK K;try simp only [Act.put,List.setIfInBounds_toArray,List.set_cons_zero,List.set_cons_succ]);clear hS;have hS:=hn;clear hn)
       refine wpAnyL_step 17 (by kernel_rfl) rfl (fun K hK=>?_)
       (go_simp;have hn:=hS.allocB;(try simp only [World.size_alloc] at hn);(refine hK.out _ _ (fun hnn=>hn.eb) ?_;clear hK K;try simp only [Act.put,List.setIfInBounds_toArray,List.set_cons_zero,List.set_cons_succ]);clear hS;have hS:=hn;clear hn)
       obtain ⟨hA,hlA⟩:=hS.a _ rfl
       obtain ⟨hBk,hlB⟩:=hS.b _ rfl
       have hSe:=hS.eb
       (refine wpAnyL_step 18 (by kernel_rfl) rfl (fun K hK=>?_))
       rw [if_pos (by rfl)]
       with_reducible refine wp_store_row 54 _ _ rfl _ rn.cells (by kernel_rfl) (by kernel_rfl) 54 _ (Sg.bk hA) (by kernel_rfl) (by kernel_rfl) (Sg.Run.one rn) ?_
       (refine hK.out _ _ (fun hnn=>hSe.far hlA _) ?_;clear hK K;try simp only [Act.put,List.setIfInBounds_toArray,List.set_cons_zero,List.set_cons_succ])
       (refine wpAnyL_step 19 (by kernel_rfl) rfl (fun K hK=>?_))
       rw [if_pos (by rfl)]
       with_reducible refine wp_store_row 56 _ _ rfl _ #[.int .u8 k0,.int .i64 k1,.int .i64 k2,.int .u64 k3,.string k4,.int .u64 k5,.string k6,.string k7,.int .i64 k8,.string k9] (by kernel_rfl) (by kernel_rfl) 56 _ (Sg.bk (hBk.row_far (Sg.bk_ne hBk hA (by decide)) rn.cells)) (by kernel_rfl) (by kernel_rfl) (by simp [Value.oneCell']) ?_
       (refine hK.out _ _ (fun hnn=>(hSe.far hlA _).far hlB _) ?_;clear hK K;try simp only [Act.put,List.setIfInBounds_toArray,List.set_cons_zero,List.set_cons_succ])
       (refine wpAnyL_step 20 (by kernel_rfl) rfl (fun K hK=>?_))
       go_simp
       (refine hK.out _ _ (fun hnn=>(hSe.far hlA _).far hlB _) ?_;clear hK K;try simp only [Act.put,List.setIfInBounds_toArray,List.set_cons_zero,List.set_cons_succ])
       (refine wpAnyL_step 21 (by kernel_rfl) rfl (fun K hK=>?_))
       go_simp
       (refine hK.out _ _ (fun hnn=>absurd hnn (by decide)) ?_;clear hK K;try simp only [Act.put,List.setIfInBounds_toArray,List.set_cons_zero,List.set_cons_succ])
       refine wpAnyL_done (by kernel_rfl) ?_ _
       refine NoPanic.normal ?_
       go_wp2_with fail
       go_meet
       case rel=>exact ⟨_,rfl,rfl,Lib.hid (hS.fill rn.cells #[.int .u8 k0,.int .i64 k1,.int .i64 k2,.int .u64 k3,.string k4,.int .u64 k5,.string k6,.string k7,.int .i64 k8,.string k9])⟩
      ·(go_simp;have hn:=hS.allocB;(try simp only [World.size_alloc] at hn);(refine hK.out _ _ (fun hnn=>hn.eb) ?_;clear hK K;try simp only [Act.put,List.setIfInBounds_toArray,List.set_cons_zero,List.set_cons_succ]);clear hS;have hS:=hn;clear hn)
       refine wpAnyL_step 16 (by kernel_rfl) rfl (fun K hK=>?_)
       (go_simp;have hn:=hS.allocA;(try simp only [World.size_alloc] at hn);(refine hK.out _ _ (fun hnn=>hn.eb) ?_;clear hK K;try simp only [Act.put,List.setIfInBounds_toArray,List.set_cons_zero,List.set_cons_succ]);clear hS;have hS:=hn;clear hn)
       obtain ⟨hA,hlA⟩:=hS.a _ rfl
       obtain ⟨hBk,hlB⟩:=hS.b _ rfl
       have hSe:=hS.eb
       (refine wpAnyL_step 18 (by kernel_rfl) rfl (fun K hK=>?_))
       rw [if_pos (by rfl)]
       with_reducible refine wp_store_row 54 _ _ rfl _ rn.cells (by kernel_rfl) (by kernel_rfl) 54 _ (Sg.bk hA) (by kernel_rfl) (by kernel_rfl) (Sg.Run.one rn) ?_
       (refine hK.out _ _ (fun hnn=>hSe.far hlA _) ?_;clear hK K;try simp only [Act.put,List.setIfInBounds_toArray,List.set_cons_zero,List.set_cons_succ])
       (refine wpAnyL_step 19 (by kernel_rfl) rfl (fun K hK=>?_))
       rw [if_pos (by rfl)]
       with_reducible refine wp_store_row 56 _ _ rfl _ #[.int .u8 k0,.int .i64 k1,.int .i64 k2,.int .u64 k3,.string k4,.int .u64 k5,.string k6,.string k7,.int .i64 k8,.string k9] (by kernel_rfl) (by kernel_rfl) 56 _ (Sg.bk (hBk.row_far (Sg.bk_ne hBk hA (by decide)) rn.cells)) (by kernel_rfl) (by kernel_rfl) (by simp [Value.oneCell']) ?_
       (refine hK.out _ _ (fun hnn=>(hSe.far hlA _).far hlB _) ?_;clear hK K;try simp only [Act.put,List.setIfInBounds_toArray,List.set_cons_zero,List.set_cons_succ])
       (refine wpAnyL_step 20 (by kernel_rfl) rfl (fun K hK=>?_))
       go_simp
       (refine hK.out _ _ (fun hnn=>(hSe.far hlA _).far hlB _) ?_;clear hK K;try simp only [Act.put,List.setIfInBounds_toArray,List.set_cons_zero,List.set_cons_succ])
       (refine wpAnyL_step 21 (by kernel_rfl) rfl (fun K hK=>?_))
       go_simp
       (refine hK.out _ _ (fun hnn=>absurd hnn (by decide)) ?_;clear hK K;try simp only [Act.put,List.setIfInBounds_toArray,List.set_cons_zero,List.set_cons_succ])
       refine wpAnyL_done (by kernel_rfl) ?_ _
       refine NoPanic.normal ?_
       go_wp2_with fail
       go_meet
       case rel=>exact ⟨_,rfl,rfl,Lib.hid (hS.fill rn.cells #[.int .u8 k0,.int .i64 k1,.int .i64 k2,.int .u64 k3,.string k4,.int .u64 k5,.string k6,.string k7,.int .i64 k8,.string k9])⟩
     ·(go_simp;have hn:=hS.allocA;(try simp only [World.size_alloc] at hn);(refine hK.out _ _ (fun hnn=>hn.eb) ?_;clear hK K;try simp only [Act.put,List.setIfInBounds_toArray,List.set_cons_zero,List.set_cons_succ]);clear hS;have hS:=hn;clear hn)
      refine Lst.two 10 17 (by kernel_rfl) rfl rfl (fun K hK=>?_) (fun K hK=>?_)
      ·(go_simp;refine (HREP.out _ (HKW.out.below hS.eb.bel) (Id.SchV.below hS.eb.bel HV.out)).mono ?_;rintro e X ⟨rfl,hb⟩;have hn:=hS.below hb;(refine hK.out _ _ (fun hnn=>hn.eb) ?_;clear hK K;try simp only [Act.put,List.setIfInBounds_toArray,List.set_cons_zero,List.set_cons_succ]);clear hb hS;have hS:=hn;clear hn;have hSe:=hS.eb;(refine wpAnyL_take0 11 (v:=?_) rfl (by kernel_rfl) (by kernel_rfl) (by kernel_rfl) (by kernel_rfl) (fun _ _ _ h=>h) (fun _=>by assumption) (by rfl) ?_ ?_;rotate_left;· (intro w;go_simp;try with_reducible rfl);try simp only [Act.put,List.setIfInBounds_toArray,List.set_cons_zero,List.set_cons_succ]);(refine wpAnyL_take0 12 (v:=?_) rfl (by kernel_rfl) (by kernel_rfl) (by kernel_rfl) (by kernel_rfl) (fun _ _ _ h=>h) (fun _=>by assumption) (by rfl) ?_ ?_;rotate_left;· (intro w;go_simp;try with_reducible rfl);try simp only [Act.put,List.setIfInBounds_toArray,List.set_cons_zero,List.set_cons_succ]);(refine wpAnyL_take0 13 (v:=?_) rfl (by kernel_rfl) (by kernel_rfl) (by kernel_rfl) (by kernel_rfl) (fun _ _ _ h=>h) (fun _=>by assumption) (by rfl) ?_ ?_;rotate_left;· (intro w;go_simp;try with_reducible rfl);try simp only [Act.put,List.setIfInBounds_toArray,List.set_cons_zero,List.set_cons_succ]);(refine wpAnyL_take0 14 (v:=?_) rfl (by kernel_rfl) (by kernel_rfl) (by kernel_rfl) (by kernel_rfl) (fun _ _ _ h=>h) (fun _=>by assumption) (by rfl) ?_ ?_;rotate_left;· (intro w;go_simp;try with_reducible rfl);try simp only [Act.put,List.setIfInBounds_toArray,List.set_cons_zero,List.set_cons_succ]);(refine wpAnyL_take0 15 (v:=?_) rfl (by kernel_rfl) (by kernel_rfl) (by kernel_rfl) (by kernel_rfl) (fun _ _ _ h=>h) (fun _=>by assumption) (by rfl) ?_ ?_;rotate_left;· (intro w;go_simp;try with_reducible rfl);try simp only [Act.put,List.setIfInBounds_toArray,List.set_cons_zero,List.set_cons_succ]);clear hSe)
       refine wpAnyL_step 17 (by kernel_rfl) rfl (fun K hK=>?_)
       (go_simp;have hn:=hS.allocB;(try simp only [World.size_alloc] at hn);(refine hK.out _ _ (fun hnn=>hn.eb) ?_;clear hK K;try simp only [Act.put,List.setIfInBounds_toArray,List.set_cons_zero,List.set_cons_succ]);clear hS;have hS:=hn;clear hn)
       obtain ⟨hA,hlA⟩:=hS.a _ rfl
       obtain ⟨hBk,hlB⟩:=hS.b _ rfl
       have hSe:=hS.eb
       (refine wpAnyL_step 18 (by kernel_rfl) rfl (fun K hK=>?_))
       rw [if_pos (by rfl)]
       with_reducible refine wp_store_row 54 _ _ rfl _ rn.cells (by kernel_rfl) (by kernel_rfl) 54 _ (Sg.bk hA) (by kernel_rfl) (by kernel_rfl) (Sg.Run.one rn) ?_
       (refine hK.out _ _ (fun hnn=>hSe.far hlA _) ?_;clear hK K;try simp only [Act.put,List.setIfInBounds_toArray,List.set_cons_zero,List.set_cons_succ])
       (refine wpAnyL_step 19 (by kernel_rfl) rfl (fun K hK=>?_))
       rw [if_pos (by rfl)]
       with_reducible refine wp_store_row 56 _ _ rfl _ #[.int .u8 k0,.int .i64 k1,.int .i64 k2,.int .u64 k3,.string k4,.int .u64 k5,.string k6,.string k7,.int .i64 k8,.string k9] (by kernel_rfl) (by kernel_rfl) 56 _ (Sg.bk (hBk.row_far (Sg.bk_ne hBk hA (by decide)) rn.cells)) (by kernel_rfl) (by kernel_rfl) (by simp [Value.oneCell']) ?_
       (refine hK.out _ _ (fun hnn=>(hSe.far hlA _).far hlB _) ?_;clear hK K;try simp only [Act.put,List.setIfInBounds_toArray,List.set_cons_zero,List.set_cons_succ])
       (refine wpAnyL_step 20 (by kernel_rfl) rfl (fun K hK=>?_))
       go_simp
       (refine hK.out _ _ (fun hnn=>(hSe.far hlA _).far hlB _) ?_;clear hK K;try simp only [Act.put,List.setIfInBounds_toArray,List.set_cons_zero,List.set_cons_succ])
       (refine wpAnyL_step 21 (by kernel_rfl) rfl (fun K hK=>?_))
       go_simp
       (refine hK.out _ _ (fun hnn=>absurd hnn (by decide)) ?_;clear hK K;try simp only [Act.put,List.setIfInBounds_toArray,List.set_cons_zero,List.set_cons_succ])
       refine wpAnyL_done (by kernel_rfl) ?_ _
       refine NoPanic.normal ?_
       go_wp2_with fail
       go_meet
       case rel=>exact ⟨_,rfl,rfl,Lib.hid (hS.fill rn.cells #[.int .u8 k0,.int .i64 k1,.int .i64 k2,.int .u64 k3,.string k4,.int .u64 k5,.string k6,.string k7,.int .i64 k8,.string k9])⟩
      ·(go_simp;have hn:=hS.allocB;(try simp only [World.size_alloc] at hn);(refine hK.out _ _ (fun hnn=>hn.eb) ?_;clear hK K;try simp only [Act.put,List.setIfInBounds_toArray,List.set_cons_zero,List.set_cons_succ]);clear hS;have hS:=hn;clear hn)
       refine wpAnyL_step 10 (by kernel_rfl) rfl (fun K hK=>?_)
       (go_simp;refine (HREP.out _ (HKW.out.below hS.eb.bel) (Id.SchV.below hS.eb.bel HV.out)).mono ?_;rintro e X ⟨rfl,hb⟩;have hn:=hS.below hb;(refine hK.out _ _ (fun hnn=>hn.eb) ?_;clear hK K;try simp only [Act.put,List.setIfInBounds_toArray,List.set_cons_zero,List.set_cons_succ]);clear hb hS;have hS:=hn;clear hn;have hSe:=hS.eb;(refine wpAnyL_take0 11 (v:=?_) rfl (by kernel_rfl) (by kernel_rfl) (by kernel_rfl) (by kernel_rfl) (fun _ _ _ h=>h) (fun _=>by assumption) (by rfl) ?_ ?_;rotate_left;· (intro w;go_simp;try with_reducible rfl);try simp only [Act.put,List.setIfInBounds_toArray,List.set_cons_zero,List.set_cons_succ]);(refine wpAnyL_take0 12 (v:=?_) rfl (by kernel_rfl) (by kernel_rfl) (by kernel_rfl) (by kernel_rfl) (fun _ _ _ h=>h) (fun _=>by assumption) (by rfl) ?_ ?_;rotate_left;· (intro w;go_simp;try with_reducible rfl);try simp only [Act.put,List.setIfInBounds_toArray,List.set_cons_zero,List.set_cons_succ]);(refine wpAnyL_take0 13 (v:=?_) rfl (by kernel_rfl) (by kernel_rfl) (by kernel_rfl) (by kernel_rfl) (fun _ _ _ h=>h) (fun _=>by assumption) (by rfl) ?_ ?_;rotate_left;· (intro w;go_simp;try with_reducible rfl);try simp only [Act.put,List.setIfInBounds_toArray,List.set_cons_zero,List.set_cons_succ]);(refine wpAnyL_take0 14 (v:=?_) rfl (by kernel_rfl) (by kernel_rfl) (by kernel_rfl) (by kernel_rfl) (fun _ _ _ h=>h) (fun _=>by assumption) (by rfl) ?_ ?_;rotate_left;· (intro w;go_simp;try with_reducible rfl);try simp only [Act.put,List.setIfInBounds_toArray,List.set_cons_zero,List.set_cons_succ]);(refine wpAnyL_take0 15 (v:=?_) rfl (by kernel_rfl) (by kernel_rfl) (by kernel_rfl) (by kernel_rfl) (fun _ _ _ h=>h) (fun _=>by assumption) (by rfl) ?_ ?_;rotate_left;· (intro w;go_simp;try with_reducible rfl);try simp only [Act.put,List.setIfInBounds_toArray,List.set_cons_zero,List.set_cons_succ]);clear hSe)
       obtain ⟨hA,hlA⟩:=hS.a _ rfl
       obtain ⟨hBk,hlB⟩:=hS.b _ rfl
       have hSe:=hS.eb
       (refine wpAnyL_step 18 (by kernel_rfl) rfl (fun K hK=>?_))
       rw [if_pos (by rfl)]
       with_reducible refine wp_store_row 54 _ _ rfl _ rn.cells (by kernel_rfl) (by kernel_rfl) 54 _ (Sg.bk hA) (by kernel_rfl) (by kernel_rfl) (Sg.Run.one rn) ?_
       (refine hK.out _ _ (fun hnn=>hSe.far hlA _) ?_;clear hK K;try simp only [Act.put,List.setIfInBounds_toArray,List.set_cons_zero,List.set_cons_succ])
       (refine wpAnyL_step 19 (by kernel_rfl) rfl (fun K hK=>?_))
       rw [if_pos (by rfl)]
       with_reducible refine wp_store_row 56 _ _ rfl _ #[.int .u8 k0,.int .i64 k1,.int .i64 k2,.int .u64 k3,.string k4,.int .u64 k5,.string k6,.string k7,.int .i64 k8,.string k9] (by kernel_rfl) (by kernel_rfl) 56 _ (Sg.bk (hBk.row_far (Sg.bk_ne hBk hA (by decide)) rn.cells)) (by kernel_rfl) (by kernel_rfl) (by simp [Value.oneCell']) ?_
       (refine hK.out _ _ (fun hnn=>(hSe.far hlA _).far hlB _) ?_;clear hK K;try simp only [Act.put,List.setIfInBounds_toArray,List.set_cons_zero,List.set_cons_succ])
       (refine wpAnyL_step 20 (by kernel_rfl) rfl (fun K hK=>?_))
       go_simp
       (refine hK.out _ _ (fun hnn=>(hSe.far hlA _).far hlB _) ?_;clear hK K;try simp only [Act.put,List.setIfInBounds_toArray,List.set_cons_zero,List.set_cons_succ])
       (refine wpAnyL_step 21 (by kernel_rfl) rfl (fun K hK=>?_))
       go_simp
       (refine hK.out _ _ (fun hnn=>absurd hnn (by decide)) ?_;clear hK K;try simp only [Act.put,List.setIfInBounds_toArray,List.set_cons_zero,List.set_cons_succ])
       refine wpAnyL_done (by kernel_rfl) ?_ _
       refine NoPanic.normal ?_
       go_wp2_with fail
       go_meet
       case rel=>exact ⟨_,rfl,rfl,Lib.hid (hS.fill rn.cells #[.int .u8 k0,.int .i64 k1,.int .i64 k2,.int .u64 k3,.string k4,.int .u64 k5,.string k6,.string k7,.int .i64 k8,.string k9])⟩
     ·(go_simp;have hn:=hS.allocB;(try simp only [World.size_alloc] at hn);(refine hK.out _ _ (fun hnn=>hn.eb) ?_;clear hK K;try simp only [Act.put,List.setIfInBounds_toArray,List.set_cons_zero,List.set_cons_succ]);clear hS;have hS:=hn;clear hn)
      refine Lst.two 10 16 (by kernel_rfl) rfl rfl (fun K hK=>?_) (fun K hK=>?_)
      ·(go_simp;refine (HREP.out _ (HKW.out.below hS.eb.bel) (Id.SchV.below hS.eb.bel HV.out)).mono ?_;rintro e X ⟨rfl,hb⟩;have hn:=hS.below hb;(refine hK.out _ _ (fun hnn=>hn.eb) ?_;clear hK K;try simp only [Act.put,List.setIfInBounds_toArray,List.set_cons_zero,List.set_cons_succ]);clear hb hS;have hS:=hn;clear hn;have hSe:=hS.eb;(refine wpAnyL_take0 11 (v:=?_) rfl (by kernel_rfl) (by kernel_rfl) (by kernel_rfl) (by kernel_rfl) (fun _ _ _ h=>h) (fun _=>by assumption) (by rfl) ?_ ?_;rotate_left;· (intro w;go_simp;try with_reducible rfl);try simp only [Act.put,List.setIfInBounds_toArray,List.set_cons_zero,List.set_cons_succ]);(refine wpAnyL_take0 12 (v:=?_) rfl (by kernel_rfl) (by kernel_rfl) (by kernel_rfl) (by kernel_rfl) (fun _ _ _ h=>h) (fun _=>by assumption) (by rfl) ?_ ?_;rotate_left;· (intro w;go_simp;try with_reducible rfl);try simp only [Act.put,List.setIfInBounds_toArray,List.set_cons_zero,List.set_cons_succ]);(refine wpAnyL_take0 13 (v:=?_) rfl (by kernel_rfl) (by kernel_rfl) (by kernel_rfl) (by kernel_rfl) (fun _ _ _ h=>h) (fun _=>by assumption) (by rfl) ?_ ?_;rotate_left;· (intro w;go_simp;try with_reducible rfl);try simp only [Act.put,List.setIfInBounds_toArray,List.set_cons_zero,List.set_cons_succ]);(refine wpAnyL_take0 14 (v:=?_) rfl (by kernel_rfl) (by kernel_rfl) (by kernel_rfl) (by kernel_rfl) (fun _ _ _ h=>h) (fun _=>by assumption) (by rfl) ?_ ?_;rotate_left;· (intro w;go_simp;try with_reducible rfl);try simp only [Act.put,List.setIfInBounds_toArray,List.set_cons_zero,List.set_cons_succ]);(refine wpAnyL_take0 15 (v:=?_) rfl (by kernel_rfl) (by kernel_rfl) (by kernel_rfl) (by kernel_rfl) (fun _ _ _ h=>h) (fun _=>by assumption) (by rfl) ?_ ?_;rotate_left;· (intro w;go_simp;try with_reducible rfl);try simp only [Act.put,List.setIfInBounds_toArray,List.set_cons_zero,List.set_cons_succ]);clear hSe)
       refine wpAnyL_step 16 (by kernel_rfl) rfl (fun K hK=>?_)
       (go_simp;have hn:=hS.allocA;(try simp only [World.size_alloc] at hn);(refine hK.out _ _ (fun hnn=>hn.eb) ?_;clear hK K;try simp only [Act.put,List.setIfInBounds_toArray,List.set_cons_zero,List.set_cons_succ]);clear hS;have hS:=hn;clear hn)
       obtain ⟨hA,hlA⟩:=hS.a _ rfl
       obtain ⟨hBk,hlB⟩:=hS.b _ rfl
       have hSe:=hS.eb
       (refine wpAnyL_step 18 (by kernel_rfl) rfl (fun K hK=>?_))
       rw [if_pos (by rfl)]
       with_reducible refine wp_store_row 54 _ _ rfl _ rn.cells (by kernel_rfl) (by kernel_rfl) 54 _ (Sg.bk hA) (by kernel_rfl) (by kernel_rfl) (Sg.Run.one rn) ?_
       (refine hK.out _ _ (fun hnn=>hSe.far hlA _) ?_;clear hK K;try simp only [Act.put,List.setIfInBounds_toArray,List.set_cons_zero,List.set_cons_succ])
       (refine wpAnyL_step 19 (by kernel_rfl) rfl (fun K hK=>?_))
       rw [if_pos (by rfl)]
       with_reducible refine wp_store_row 56 _ _ rfl _ #[.int .u8 k0,.int .i64 k1,.int .i64 k2,.int .u64 k3,.string k4,.int .u64 k5,.string k6,.string k7,.int .i64 k8,.string k9] (by kernel_rfl) (by kernel_rfl) 56 _ (Sg.bk (hBk.row_far (Sg.bk_ne hBk hA (by decide)) rn.cells)) (by kernel_rfl) (by kernel_rfl) (by simp [Value.oneCell']) ?_
       (refine hK.out _ _ (fun hnn=>(hSe.far hlA _).far hlB _) ?_;clear hK K;try simp only [Act.put,List.setIfInBounds_toArray,List.set_cons_zero,List.set_cons_succ])
       (refine wpAnyL_step 20 (by kernel_rfl) rfl (fun K hK=>?_))
       go_simp
       (refine hK.out _ _ (fun hnn=>(hSe.far hlA _).far hlB _) ?_;clear hK K;try simp only [Act.put,List.setIfInBounds_toArray,List.set_cons_zero,List.set_cons_succ])
       (refine wpAnyL_step 21 (by kernel_rfl) rfl (fun K hK=>?_))
       go_simp
       (refine hK.out _ _ (fun hnn=>absurd hnn (by decide)) ?_;clear hK K;try simp only [Act.put,List.setIfInBounds_toArray,List.set_cons_zero,List.set_cons_succ])
       refine wpAnyL_done (by kernel_rfl) ?_ _
       refine NoPanic.normal ?_
       go_wp2_with fail
       go_meet
       case rel=>exact ⟨_,rfl,rfl,Lib.hid (hS.fill rn.cells #[.int .u8 k0,.int .i64 k1,.int .i64 k2,.int .u64 k3,.string k4,.int .u64 k5,.string k6,.string k7,.int .i64 k8,.string k9])⟩
      ·(go_simp;have hn:=hS.allocA;(try simp only [World.size_alloc] at hn);(refine hK.out _ _ (fun hnn=>hn.eb) ?_;clear hK K;try simp only [Act.put,List.setIfInBounds_toArray,List.set_cons_zero,List.set_cons_succ]);clear hS;have hS:=hn;clear hn)
       refine wpAnyL_step 10 (by kernel_rfl) rfl (fun K hK=>?_)
       (go_simp;refine (HREP.out _ (HKW.out.below hS.eb.bel) (Id.SchV.below hS.eb.bel HV.out)).mono ?_;rintro e X ⟨rfl,hb⟩;have hn:=hS.below hb;(refine hK.out _ _ (fun hnn=>hn.eb) ?_;clear hK K;try simp only [Act.put,List.setIfInBounds_toArray,List.set_cons_zero,List.set_cons_succ]);clear hb hS;have hS:=hn;clear hn;have hSe:=hS.eb;(refine wpAnyL_take0 11 (v:=?_) rfl (by kernel_rfl) (by kernel_rfl) (by kernel_rfl) (by kernel_rfl) (fun _ _ _ h=>h) (fun _=>by assumption) (by rfl) ?_ ?_;rotate_left;· (intro w;go_simp;try with_reducible rfl);try simp only [Act.put,List.setIfInBounds_toArray,List.set_cons_zero,List.set_cons_succ]);(refine wpAnyL_take0 12 (v:=?_) rfl (by kernel_rfl) (by kernel_rfl) (by kernel_rfl) (by kernel_rfl) (fun _ _ _ h=>h) (fun _=>by assumption) (by rfl) ?_ ?_;rotate_left;· (intro w;go_simp;try with_reducible rfl);try simp only [Act.put,List.setIfInBounds_toArray,List.set_cons_zero,List.set_cons_succ]);(refine wpAnyL_take0 13 (v:=?_) rfl (by kernel_rfl) (by kernel_rfl) (by kernel_rfl) (by kernel_rfl) (fun _ _ _ h=>h) (fun _=>by assumption) (by rfl) ?_ ?_;rotate_left;· (intro w;go_simp;try with_reducible rfl);try simp only [Act.put,List.setIfInBounds_toArray,List.set_cons_zero,List.set_cons_succ]);(refine wpAnyL_take0 14 (v:=?_) rfl (by kernel_rfl) (by kernel_rfl) (by kernel_rfl) (by kernel_rfl) (fun _ _ _ h=>h) (fun _=>by assumption) (by rfl) ?_ ?_;rotate_left;· (intro w;go_simp;try with_reducible rfl);try simp only [Act.put,List.setIfInBounds_toArray,List.set_cons_zero,List.set_cons_succ]);(refine wpAnyL_take0 15 (v:=?_) rfl (by kernel_rfl) (by kernel_rfl) (by kernel_rfl) (by kernel_rfl) (fun _ _ _ h=>h) (fun _=>by assumption) (by rfl) ?_ ?_;rotate_left;· (intro w;go_simp;try with_reducible rfl);try simp only [Act.put,List.setIfInBounds_toArray,List.set_cons_zero,List.set_cons_succ]);clear hSe)
       obtain ⟨hA,hlA⟩:=hS.a _ rfl
       obtain ⟨hBk,hlB⟩:=hS.b _ rfl
       have hSe:=hS.eb
       (refine wpAnyL_step 18 (by kernel_rfl) rfl (fun K hK=>?_))
       rw [if_pos (by rfl)]
       with_reducible refine wp_store_row 54 _ _ rfl _ rn.cells (by kernel_rfl) (by kernel_rfl) 54 _ (Sg.bk hA) (by kernel_rfl) (by kernel_rfl) (Sg.Run.one rn) ?_
       (refine hK.out _ _ (fun hnn=>hSe.far hlA _) ?_;clear hK K;try simp only [Act.put,List.setIfInBounds_toArray,List.set_cons_zero,List.set_cons_succ])
       (refine wpAnyL_step 19 (by kernel_rfl) rfl (fun K hK=>?_))
       rw [if_pos (by rfl)]
       with_reducible refine wp_store_row 56 _ _ rfl _ #[.int .u8 k0,.int .i64 k1,.int .i64 k2,.int .u64 k3,.string k4,.int .u64 k5,.string k6,.string k7,.int .i64 k8,.string k9] (by kernel_rfl) (by kernel_rfl) 56 _ (Sg.bk (hBk.row_far (Sg.bk_ne hBk hA (by decide)) rn.cells)) (by kernel_rfl) (by kernel_rfl) (by simp [Value.oneCell']) ?_
       (refine hK.out _ _ (fun hnn=>(hSe.far hlA _).far hlB _) ?_;clear hK K;try simp only [Act.put,List.setIfInBounds_toArray,List.set_cons_zero,List.set_cons_succ])
       (refine wpAnyL_step 20 (by kernel_rfl) rfl (fun K hK=>?_))
       go_simp
       (refine hK.out _ _ (fun hnn=>(hSe.far hlA _).far hlB _) ?_;clear hK K;try simp only [Act.put,List.setIfInBounds_toArray,List.set_cons_zero,List.set_cons_succ])
       (refine wpAnyL_step 21 (by kernel_rfl) rfl (fun K hK=>?_))
       go_simp
       (refine hK.out _ _ (fun hnn=>absurd hnn (by decide)) ?_;clear hK K;try simp only [Act.put,List.setIfInBounds_toArray,List.set_cons_zero,List.set_cons_succ])
       refine wpAnyL_done (by kernel_rfl) ?_ _
       refine NoPanic.normal ?_
       go_wp2_with fail
       go_meet
       case rel=>exact ⟨_,rfl,rfl,Lib.hid (hS.fill rn.cells #[.int .u8 k0,.int .i64 k1,.int .i64 k2,.int .u64 k3,.string k4,.int .u64 k5,.string k6,.string k7,.int .i64 k8,.string k9])⟩
    ·(go_simp;have hn:=hS.allocA;(try simp only [World.size_alloc] at hn);(refine hK.out _ _ (fun hnn=>hn.eb) ?_;clear hK K;try simp only [Act.put,List.setIfInBounds_toArray,List.set_cons_zero,List.set_cons_succ]);clear hS;have hS:=hn;clear hn)
     refine Lst.two 9 17 (by kernel_rfl) rfl rfl (fun K hK=>?_) (fun K hK=>?_)
     ·(go_simp;refine (HLET.out _).mono ?_;rintro e X ⟨rfl,hb⟩;have hn:=hS.below hb;(refine hK.out _ _ (fun hnn=>hn.eb) ?_;clear hK K;try simp only [Act.put,List.setIfInBounds_toArray,List.set_cons_zero,List.set_cons_succ]);clear hb hS;have hS:=hn;clear hn)
      refine Lst.two 10 17 (by kernel_rfl) rfl rfl (fun K hK=>?_) (fun K hK=>?_)
      ·(go_simp;refine (HREP.out _ (HKW.out.below hS.eb.bel) (Id.SchV.below hS.eb.bel HV.out)).mono ?_;rintro e X ⟨rfl,hb⟩;have hn:=hS.below hb;(refine hK.out _ _ (fun hnn=>hn.eb) ?_;clear hK K;try simp only [Act.put,List.setIfInBounds_toArray,List.set_cons_zero,List.set_cons_succ]);clear hb hS;have hS:=hn;clear hn;have hSe:=hS.eb;(refine wpAnyL_take0 11 (v:=?_) rfl (by kernel_rfl) (by kernel_rfl) (by kernel_rfl) (by kernel_rfl) (fun _ _ _ h=>h) (fun _=>by assumption) (by rfl) ?_ ?_;rotate_left;· (intro w;go_simp;try with_reducible rfl);try simp only [Act.put,List.setIfInBounds_toArray,List.set_cons_zero,List.set_cons_succ]);(refine wpAnyL_take0 12 (v:=?_) rfl (by kernel_rfl) (by kernel_rfl) (by kernel_rfl) (by kernel_rfl) (fun _ _ _ h=>h) (fun _=>by assumption) (by rfl) ?_ ?_;rotate_left;· (intro w;go_simp;try with_reducible rfl);try simp only [Act.put,List.setIfInBounds_toArray,List.set_cons_zero,List.set_cons_succ]);(refine wpAnyL_take0 13 (v:=?_) rfl (by kernel_rfl) (by kernel_rfl) (by kernel_rfl) (by kernel_rfl) (fun _ _ _ h=>h) (fun _=>by assumption) (by rfl) ?_ ?_;rotate_left;· (intro w;go_simp;try with_reducible rfl);try simp only [Act.put,List.setIfInBounds_toArray,List.set_cons_zero,List.set_cons_succ]);(refine wpAnyL_take0 14 (v:=?_) rfl (by kernel_rfl) (by kernel_rfl) (by kernel_rfl) (by kernel_rfl) (fun _ _ _ h=>h) (fun _=>by assumption) (by rfl) ?_ ?_;rotate_left;· (intro w;go_simp;try with_reducible rfl);try simp only [Act.put,List.setIfInBounds_toArray,List.set_cons_zero,List.set_cons_succ]);(refine wpAnyL_take0 15 (v:=?_) rfl (by kernel_rfl) (by kernel_rfl) (by kernel_rfl) (by kernel_rfl) (fun _ _ _ h=>h) (fun _=>by assumption) (by rfl) ?_ ?_;rotate_left;· (intro w;go_simp;try with_reducible rfl);try simp only [Act.put,List.setIfInBounds_toArray,List.set_cons_zero,List.set_cons_succ]);clear hSe)
       refine wpAnyL_step 17 (by kernel_rfl) rfl (fun K hK=>?_)
       (go_simp;have hn:=hS.allocB;(try simp only [World.size_alloc] at hn);(refine hK.out _ _ (fun hnn=>hn.eb) ?_;clear hK K;try simp only [Act.put,List.setIfInBounds_toArray,List.set_cons_zero,List.set_cons_succ]);clear hS;have hS:=hn;clear hn)
       obtain ⟨hA,hlA⟩:=hS.a _ rfl
       obtain ⟨hBk,hlB⟩:=hS.b _ rfl
       have hSe:=hS.eb
       (refine wpAnyL_step 18 (by kernel_rfl) rfl (fun K hK=>?_))
       rw [if_pos (by rfl)]
       with_reducible refine wp_store_row 54 _ _ rfl _ rn.cells (by kernel_rfl) (by kernel_rfl) 54 _ (Sg.bk hA) (by kernel_rfl) (by kernel_rfl) (Sg.Run.one rn) ?_
       (refine hK.out _ _ (fun hnn=>hSe.far hlA _) ?_;clear hK K;try simp only [Act.put,List.setIfInBounds_toArray,List.set_cons_zero,List.set_cons_succ])
       (refine wpAnyL_step 19 (by kernel_rfl) rfl (fun K hK=>?_))
       rw [if_pos (by rfl)]
       with_reducible refine wp_store_row 56 _ _ rfl _ #[.int .u8 k0,.int .i64 k1,.int .i64 k2,.int .u64 k3,.string k4,.int .u64 k5,.string k6,.string k7,.int .i64 k8,.string k9] (by kernel_rfl) (by kernel_rfl) 56 _ (Sg.bk (hBk.row_far (Sg.bk_ne hBk hA (by decide)) rn.cells)) (by kernel_rfl) (by kernel_rfl) (by simp [Value.oneCell']) ?_
       (refine hK.out _ _ (fun hnn=>(hSe.far hlA _).far hlB _) ?_;clear hK K;try simp only [Act.put,List.setIfInBounds_toArray,List.set_cons_zero,List.set_cons_succ])
       (refine wpAnyL_step 20 (by kernel_rfl) rfl (fun K hK=>?_))
       go_simp
       (refine hK.out _ _ (fun hnn=>(hSe.far hlA _).far hlB _) ?_;clear hK K;try simp only [Act.put,List.setIfInBounds_toArray,List.set_cons_zero,List.set_cons_succ])
       (refine wpAnyL_step 21 (by kernel_rfl) rfl (fun K hK=>?_))
       go_simp
       (refine hK.out _ _ (fun hnn=>absurd hnn (by decide)) ?_;clear hK K;try simp only [Act.put,List.setIfInBounds_toArray,List.set_cons_zero,List.set_cons_succ])
       refine wpAnyL_done (by kernel_rfl) ?_ _
       refine NoPanic.normal ?_
       go_wp2_with fail
       go_meet
       case rel=>exact ⟨_,rfl,rfl,Lib.hid (hS.fill rn.cells #[.int .u8 k0,.int .i64 k1,.int .i64 k2,.int .u64 k3,.string k4,.int .u64 k5,.string k6,.string k7,.int .i64 k8,.string k9])⟩
      ·(go_simp;have hn:=hS.allocB;(try simp only [World.size_alloc] at hn);(refine hK.out _ _ (fun hnn=>hn.eb) ?_;clear hK K;try simp only [Act.put,List.setIfInBounds_toArray,List.set_cons_zero,List.set_cons_succ]);clear hS;have hS:=hn;clear hn)
       refine wpAnyL_step 10 (by kernel_rfl) rfl (fun K hK=>?_)
       (go_simp;refine (HREP.out _ (HKW.out.below hS.eb.bel) (Id.SchV.below hS.eb.bel HV.out)).mono ?_;rintro e X ⟨rfl,hb⟩;have hn:=hS.below hb;(refine hK.out _ _ (fun hnn=>hn.eb) ?_;clear hK K;try simp only [Act.put,List.setIfInBounds_toArray,List.set_cons_zero,List.set_cons_succ]);clear hb hS;have hS:=hn;clear hn;have hSe:=hS.eb;(refine wpAnyL_take0 11 (v:=?_) rfl (by kernel_rfl) (by kernel_rfl) (by kernel_rfl) (by kernel_rfl) (fun _ _ _ h=>h) (fun _=>by assumption) (by rfl) ?_ ?_;rotate_left;· (intro w;go_simp;try with_reducible rfl);try simp only [Act.put,List.setIfInBounds_toArray,List.set_cons_zero,List.set_cons_succ]);(refine wpAnyL_take0 12 (v:=?_) rfl (by kernel_rfl) (by kernel_rfl) (by kernel_rfl) (by kernel_rfl) (fun _ _ _ h=>h) (fun _=>by assumption) (by rfl) ?_ ?_;rotate_left;· (intro w;go_simp;try with_reducible rfl);try simp only [Act.put,List.setIfInBounds_toArray,List.set_cons_zero,List.set_cons_succ]);(refine wpAnyL_take0 13 (v:=?_) rfl (by kernel_rfl) (by kernel_rfl) (by kernel_rfl) (by kernel_rfl) (fun _ _ _ h=>h) (fun _=>by assumption) (by rfl) ?_ ?_;rotate_left;· (intro w;go_simp;try with_reducible rfl);try simp only [Act.put,List.setIfInBounds_toArray,List.set_cons_zero,List.set_cons_succ]);(refine wpAnyL_take0 14 (v:=?_) rfl (by kernel_rfl) (by kernel_rfl) (by kernel_rfl) (by kernel_rfl) (fun _ _ _ h=>h) (fun _=>by assumption) (by rfl) ?_ ?_;rotate_left;· (intro w;go_simp;try with_reducible rfl);try simp only [Act.put,List.setIfInBounds_toArray,List.set_cons_zero,List.set_cons_succ]);(refine wpAnyL_take0 15 (v:=?_) rfl (by kernel_rfl) (by kernel_rfl) (by kernel_rfl) (by kernel_rfl) (fun _ _ _ h=>h) (fun _=>by assumption) (by rfl) ?_ ?_;rotate_left;· (intro w;go_simp;try with_reducible rfl);try simp only [Act.put,List.setIfInBounds_toArray,List.set_cons_zero,List.set_cons_succ]);clear hSe)
       obtain ⟨hA,hlA⟩:=hS.a _ rfl
       obtain ⟨hBk,hlB⟩:=hS.b _ rfl
       have hSe:=hS.eb
       (refine wpAnyL_step 18 (by kernel_rfl) rfl (fun K hK=>?_))
       rw [if_pos (by rfl)]
       with_reducible refine wp_store_row 54 _ _ rfl _ rn.cells (by kernel_rfl) (by kernel_rfl) 54 _ (Sg.bk hA) (by kernel_rfl) (by kernel_rfl) (Sg.Run.one rn) ?_
       (refine hK.out _ _ (fun hnn=>hSe.far hlA _) ?_;clear hK K;try simp only [Act.put,List.setIfInBounds_toArray,List.set_cons_zero,List.set_cons_succ])
       (refine wpAnyL_step 19 (by kernel_rfl) rfl (fun K hK=>?_))
       rw [if_pos (by rfl)]
       with_reducible refine wp_store_row 56 _ _ rfl _ #[.int .u8 k0,.int .i64 k1,.int .i64 k2,.int .u64 k3,.string k4,.int .u64 k5,.string k6,.string k7,.int .i64 k8,.string k9] (by kernel_rfl) (by kernel_rfl) 56 _ (Sg.bk (hBk.row_far (Sg.bk_ne hBk hA (by decide)) rn.cells)) (by kernel_rfl) (by kernel_rfl) (by simp [Value.oneCell']) ?_
       (refine hK.out _ _ (fun hnn=>(hSe.far hlA _).far hlB _) ?_;clear hK K;try simp only [Act.put,List.setIfInBounds_toArray,List.set_cons_zero,List.set_cons_succ])
       (refine wpAnyL_step 20 (by kernel_rfl) rfl (fun K hK=>?_))
       go_simp
       (refine hK.out _ _ (fun hnn=>(hSe.far hlA _).far hlB _) ?_;clear hK K;try simp only [Act.put,List.setIfInBounds_toArray,List.set_cons_zero,List.set_cons_succ])
       (refine wpAnyL_step 21 (by kernel_rfl) rfl (fun K hK=>?_))
       go_simp
       (refine hK.out _ _ (fun hnn=>absurd hnn (by decide)) ?_;clear hK K;try simp only [Act.put,List.setIfInBounds_toArray,List.set_cons_zero,List.set_cons_succ])
       refine wpAnyL_done (by kernel_rfl) ?_ _
       refine NoPanic.normal ?_
       go_wp2_with fail
       go_meet
       case rel=>exact ⟨_,rfl,rfl,Lib.hid (hS.fill rn.cells #[.int .u8 k0,.int .i64 k1,.int .i64 k2,.int .u64 k3,.string k4,.int .u64 k5,.string k6,.string k7,.int .i64 k8,.string k9])⟩
     ·(go_simp;have hn:=hS.allocB;(try simp only [World.size_alloc] at hn);(refine hK.out _ _ (fun hnn=>hn.eb) ?_;clear hK K;try simp only [Act.put,List.setIfInBounds_toArray,List.set_cons_zero,List.set_cons_succ]);clear hS;have hS:=hn;clear hn)
      refine wpAnyL_step 9 (by kernel_rfl) rfl (fun K hK=>?_)
      (go_simp;refine (HLET.out _).mono ?_;rintro e X ⟨rfl,hb⟩;have hn:=hS.below hb;(refine hK.out _ _ (fun hnn=>hn.eb) ?_;clear hK K;try simp only [Act.put,List.setIfInBounds_toArray,List.set_cons_zero,List.set_cons_succ]);clear hb hS;have hS:=hn;clear hn)
      refine wpAnyL_step 10 (by kernel_rfl) rfl (fun K hK=>?_)
      (go_simp;refine (HREP.out _ (HKW.out.below hS.eb.bel) (Id.SchV.below hS.eb.bel HV.out)).mono ?_;rintro e X ⟨rfl,hb⟩;have hn:=hS.below hb;(refine hK.out _ _ (fun hnn=>hn.eb) ?_;clear hK K;try simp only [Act.put,List.setIfInBounds_toArray,List.set_cons_zero,List.set_cons_succ]);clear hb hS;have hS:=hn;clear hn;have hSe:=hS.eb;(refine wpAnyL_take0 11 (v:=?_) rfl (by kernel_rfl) (by kernel_rfl) (by kernel_rfl) (by kernel_rfl) (fun _ _ _ h=>h) (fun _=>by assumption) (by rfl) ?_ ?_;rotate_left;· (intro w;go_simp;try with_reducible rfl);try simp only [Act.put,List.setIfInBounds_toArray,List.set_cons_zero,List.set_cons_succ]);(refine wpAnyL_take0 12 (v:=?_) rfl (by kernel_rfl) (by kernel_rfl) (by kernel_rfl) (by kernel_rfl) (fun _ _ _ h=>h) (fun _=>by assumption) (by rfl) ?_ ?_;rotate_left;· (intro w;go_simp;try with_reducible rfl);try simp only [Act.put,List.setIfInBounds_toArray,List.set_cons_zero,List.set_cons_succ]);(refine wpAnyL_take0 13 (v:=?_) rfl (by kernel_rfl) (by kernel_rfl) (by kernel_rfl) (by kernel_rfl) (fun _ _ _ h=>h) (fun _=>by assumption) (by rfl) ?_ ?_;rotate_left;· (intro w;go_simp;try with_reducible rfl);try simp only [Act.put,List.setIfInBounds_toArray,List.set_cons_zero,List.set_cons_succ]);(refine wpAnyL_take0 14 (v:=?_) rfl (by kernel_rfl) (by kernel_rfl) (by kernel_rfl) (by kernel_rfl) (fun _ _ _ h=>h) (fun _=>by assumption) (by rfl) ?_ ?_;rotate_left;· (intro w;go_simp;try with_reducible rfl);try simp only [Act.put,List.setIfInBounds_toArray,List.set_cons_zero,List.set_cons_succ]);(refine wpAnyL_take0 15 (v:=?_) rfl (by kernel_rfl) (by kernel_rfl) (by kernel_rfl) (by kernel_rfl) (fun _ _ _ h=>h) (fun _=>by assumption) (by rfl) ?_ ?_;rotate_left;· (intro w;go_simp;try with_reducible rfl);try simp only [Act.put,List.setIfInBounds_toArray,List.set_cons_zero,List.set_cons_succ]);clear hSe)
      obtain ⟨hA,hlA⟩:=hS.a _ rfl
      obtain ⟨hBk,hlB⟩:=hS.b _ rfl
      have hSe:=hS.eb
      (refine wpAnyL_step 18 (by kernel_rfl) rfl (fun K hK=>?_))
      rw [if_pos (by rfl)]
      with_reducible refine wp_store_row 54 _ _ rfl _ rn.cells (by kernel_rfl) (by kernel_rfl) 54 _ (Sg.bk hA) (by kernel_rfl) (by kernel_rfl) (Sg.Run.one rn) ?_
      (refine hK.out _ _ (fun hnn=>hSe.far hlA _) ?_;clear hK K;try simp only [Act.put,List.setIfInBounds_toArray,List.set_cons_zero,List.set_cons_succ])
      (refine wpAnyL_step 19 (by kernel_rfl) rfl (fun K hK=>?_))
      rw [if_pos (by rfl)]
      with_reducible refine wp_store_row 56 _ _ rfl _ #[.int .u8 k0,.int .i64 k1,.int .i64 k2,.int .u64 k3,.string k4,.int .u64 k5,.string k6,.string k7,.int .i64 k8,.string k9] (by kernel_rfl) (by kernel_rfl) 56 _ (Sg.bk (hBk.row_far (Sg.bk_ne hBk hA (by decide)) rn.cells)) (by kernel_rfl) (by kernel_rfl) (by simp [Value.oneCell']) ?_
      (refine hK.out _ _ (fun hnn=>(hSe.far hlA _).far hlB _) ?_;clear hK K;try simp only [Act.put,List.setIfInBounds_toArray,List.set_cons_zero,List.set_cons_succ])
      (refine wpAnyL_step 20 (by kernel_rfl) rfl (fun K hK=>?_))
      go_simp
      (refine hK.out _ _ (fun hnn=>(hSe.far hlA _).far hlB _) ?_;clear hK K;try simp only [Act.put,List.setIfInBounds_toArray,List.set_cons_zero,List.set_cons_succ])
      (refine wpAnyL_step 21 (by kernel_rfl) rfl (fun K hK=>?_))
      go_simp
      (refine hK.out _ _ (fun hnn=>absurd hnn (by decide)) ?_;clear hK K;try simp only [Act.put,List.setIfInBounds_toArray,List.set_cons_zero,List.set_cons_succ])
      refine wpAnyL_done (by kernel_rfl) ?_ _
      refine NoPanic.normal ?_
      go_wp2_with fail
      go_meet
      case rel=>exact ⟨_,rfl,rfl,Lib.hid (hS.fill rn.cells #[.int .u8 k0,.int .i64 k1,.int .i64 k2,.int .u64 k3,.string k4,.int .u64 k5,.string k6,.string k7,.int .i64 k8,.string k9])⟩
    ·(go_simp;have hn:=hS.allocB;(try simp only [World.size_alloc] at hn);(refine hK.out _ _ (fun hnn=>hn.eb) ?_;clear hK K;try simp only [Act.put,List.setIfInBounds_toArray,List.set_cons_zero,List.set_cons_succ]);clear hS;have hS:=hn;clear hn)
     refine Lst.two 9 16 (by kernel_rfl) rfl rfl (fun K hK=>?_) (fun K hK=>?_)
     ·(go_simp;refine (HLET.out _).mono ?_;rintro e X ⟨rfl,hb⟩;have hn:=hS.below hb;(refine hK.out _ _ (fun hnn=>hn.eb) ?_;clear hK K;try simp only [Act.put,List.setIfInBounds_toArray,List.set_cons_zero,List.set_cons_succ]);clear hb hS;have hS:=hn;clear hn)
      refine Lst.two 10 16 (by kernel_rfl) rfl rfl (fun K hK=>?_) (fun K hK=>?_)
      ·(go_simp;refine (HREP.out _ (HKW.out.below hS.eb.bel) (Id.SchV.below hS.eb.bel HV.out)).mono ?_;rintro e X ⟨rfl,hb⟩;have hn:=hS.below hb;(refine hK.out _ _ (fun hnn=>hn.eb) ?_;clear hK K;try simp only [Act.put,List.setIfInBounds_toArray,List.set_cons_zero,List.set_cons_succ]);clear hb hS;have hS:=hn;clear hn;have hSe:=hS.eb;(refine wpAnyL_take0 11 (v:=?_) rfl (by kernel_rfl) (by kernel_rfl) (by kernel_rfl) (by kernel_rfl) (fun _ _ _ h=>h) (fun _=>by assumption) (by rfl) ?_ ?_;rotate_left;· (intro w;go_simp;try with_reducible rfl);try simp only [Act.put,List.setIfInBounds_toArray,List.set_cons_zero,List.set_cons_succ]);(refine wpAnyL_take0 12 (v:=?_) rfl (by kernel_rfl) (by kernel_rfl) (by kernel_rfl) (by kernel_rfl) (fun _ _ _ h=>h) (fun _=>by assumption) (by rfl) ?_ ?_;rotate_left;· (intro w;go_simp;try with_reducible rfl);try simp only [Act.put,List.setIfInBounds_toArray,List.set_cons_zero,List.set_cons_succ]);(refine wpAnyL_take0 13 (v:=?_) rfl (by kernel_rfl) (by kernel_rfl) (by kernel_rfl) (by kernel_rfl) (fun _ _ _ h=>h) (fun _=>by assumption) (by rfl) ?_ ?_;rotate_left;· (intro w;go_simp;try with_reducible rfl);try simp only [Act.put,List.setIfInBounds_toArray,List.set_cons_zero,List.set_cons_succ]);(refine wpAnyL_take0 14 (v:=?_) rfl (by kernel_rfl) (by kernel_rfl) (by kernel_rfl) (by kernel_rfl) (fun _ _ _ h=>h) (fun _=>by assumption) (by rfl) ?_ ?_;rotate_left;· (intro w;go_simp;try with_reducible rfl);try simp only [Act.put,List.setIfInBounds_toArray,List.set_cons_zero,List.set_cons_succ]);(refine wpAnyL_take0 15 (v:=?_) rfl (by kernel_rfl) (by kernel_rfl) (by kernel_rfl) (by kernel_rfl) (fun _ _ _ h=>h) (fun _=>by assumption) (by rfl) ?_ ?_;rotate_left;· (intro w;go_simp;try with_reducible rfl);try simp only [Act.put,List.setIfInBounds_toArray,List.set_cons_zero,List.set_cons_succ]);clear hSe)
       refine wpAnyL_step 16 (by kernel_rfl) rfl (fun K hK=>?_)
       (go_simp;have hn:=hS.allocA;(try simp only [World.size_alloc] at hn);(refine hK.out _ _ (fun hnn=>hn.eb) ?_;clear hK K;try simp only [Act.put,List.setIfInBounds_toArray,List.set_cons_zero,List.set_cons_succ]);clear hS;have hS:=hn;clear hn)
       obtain ⟨hA,hlA⟩:=hS.a _ rfl
       obtain ⟨hBk,hlB⟩:=hS.b _ rfl
       have hSe:=hS.eb
       (refine wpAnyL_step 18 (by kernel_rfl) rfl (fun K hK=>?_))
       rw [if_pos (by rfl)]
       with_reducible refine wp_store_row 54 _ _ rfl _ rn.cells (by kernel_rfl) (by kernel_rfl) 54 _ (Sg.bk hA) (by kernel_rfl) (by kernel_rfl) (Sg.Run.one rn) ?_
       (refine hK.out _ _ (fun hnn=>hSe.far hlA _) ?_;clear hK K;try simp only [Act.put,List.setIfInBounds_toArray,List.set_cons_zero,List.set_cons_succ])
       (refine wpAnyL_step 19 (by kernel_rfl) rfl (fun K hK=>?_))
       rw [if_pos (by rfl)]
       with_reducible refine wp_store_row 56 _ _ rfl _ #[.int .u8 k0,.int .i64 k1,.int .i64 k2,.int .u64 k3,.string k4,.int .u64 k5,.string k6,.string k7,.int .i64 k8,.string k9] (by kernel_rfl) (by kernel_rfl) 56 _ (Sg.bk (hBk.row_far (Sg.bk_ne hBk hA (by decide)) rn.cells)) (by kernel_rfl) (by kernel_rfl) (by simp [Value.oneCell']) ?_
       (refine hK.out _ _ (fun hnn=>(hSe.far hlA _).far hlB _) ?_;clear hK K;try simp only [Act.put,List.setIfInBounds_toArray,List.set_cons_zero,List.set_cons_succ])
       (refine wpAnyL_step 20 (by kernel_rfl) rfl (fun K hK=>?_))
       go_simp
       (refine hK.out _ _ (fun hnn=>(hSe.far hlA _).far hlB _) ?_;clear hK K;try simp only [Act.put,List.setIfInBounds_toArray,List.set_cons_zero,List.set_cons_succ])
       (refine wpAnyL_step 21 (by kernel_rfl) rfl (fun K hK=>?_))
       go_simp
       (refine hK.out _ _ (fun hnn=>absurd hnn (by decide)) ?_;clear hK K;try simp only [Act.put,List.setIfInBounds_toArray,List.set_cons_zero,List.set_cons_succ])
       refine wpAnyL_done (by kernel_rfl) ?_ _
       refine NoPanic.normal ?_
       go_wp2_with fail
       go_meet
       case rel=>exact ⟨_,rfl,rfl,Lib.hid (hS.fill rn.cells #[.int .u8 k0,.int .i64 k1,.int .i64 k2,.int .u64 k3,.string k4,.int .u64 k5,.string k6,.string k7,.int .i64 k8,.string k9])⟩
      ·(go_simp;have hn:=hS.allocA;(try simp only [World.size_alloc] at hn);(refine hK.out _ _ (fun hnn=>hn.eb) ?_;clear hK K;try simp only [Act.put,List.setIfInBounds_toArray,List.set_cons_zero,List.set_cons_succ]);clear hS;have hS:=hn;clear hn)
       refine wpAnyL_step 10 (by kernel_rfl) rfl (fun K hK=>?_)
       (go_simp;refine (HREP.out _ (HKW.out.below hS.eb.bel) (Id.SchV.below hS.eb.bel HV.out)).mono ?_;rintro e X ⟨rfl,hb⟩;have hn:=hS.below hb;(refine hK.out _ _ (fun hnn=>hn.eb) ?_;clear hK K;try simp only [Act.put,List.setIfInBounds_toArray,List.set_cons_zero,List.set_cons_succ]);clear hb hS;have hS:=hn;clear hn;have hSe:=hS.eb;(refine wpAnyL_take0 11 (v:=?_) rfl (by kernel_rfl) (by kernel_rfl) (by kernel_rfl) (by kernel_rfl) (fun _ _ _ h=>h) (fun _=>by assumption) (by rfl) ?_ ?_;rotate_left;· (intro w;go_simp;try with_reducible rfl);try simp only [Act.put,List.setIfInBounds_toArray,List.set_cons_zero,List.set_cons_succ]);(refine wpAnyL_take0 12 (v:=?_) rfl (by kernel_rfl) (by kernel_rfl) (by kernel_rfl) (by kernel_rfl) (fun _ _ _ h=>h) (fun _=>by assumption) (by rfl) ?_ ?_;rotate_left;· (intro w;go_simp;try with_reducible rfl);try simp only [Act.put,List.setIfInBounds_toArray,List.set_cons_zero,List.set_cons_succ]);(refine wpAnyL_take0 13 (v:=?_) rfl (by kernel_rfl) (by kernel_rfl) (by kernel_rfl) (by kernel_rfl) (fun _ _ _ h=>h) (fun _=>by assumption) (by rfl) ?_ ?_;rotate_left;· (intro w;go_simp;try with_reducible rfl);try simp only [Act.put,List.setIfInBounds_toArray,List.set_cons_zero,List.set_cons_succ]);(refine wpAnyL_take0 14 (v:=?_) rfl (by kernel_rfl) (by kernel_rfl) (by kernel_rfl) (by kernel_rfl) (fun _ _ _ h=>h) (fun _=>by assumption) (by rfl) ?_ ?_;rotate_left;· (intro w;go_simp;try with_reducible rfl);try simp only [Act.put,List.setIfInBounds_toArray,List.set_cons_zero,List.set_cons_succ]);(refine wpAnyL_take0 15 (v:=?_) rfl (by kernel_rfl) (by kernel_rfl) (by kernel_rfl) (by kernel_rfl) (fun _ _ _ h=>h) (fun _=>by assumption) (by rfl) ?_ ?_;rotate_left;· (intro w;go_simp;try with_reducible rfl);try simp only [Act.put,List.setIfInBounds_toArray,List.set_cons_zero,List.set_cons_succ]);clear hSe)
       obtain ⟨hA,hlA⟩:=hS.a _ rfl
       obtain ⟨hBk,hlB⟩:=hS.b _ rfl
       have hSe:=hS.eb
       (refine wpAnyL_step 18 (by kernel_rfl) rfl (fun K hK=>?_))
       rw [if_pos (by rfl)]
       with_reducible refine wp_store_row 54 _ _ rfl _ rn.cells (by kernel_rfl) (by kernel_rfl) 54 _ (Sg.bk hA) (by kernel_rfl) (by kernel_rfl) (Sg.Run.one rn) ?_
       (refine hK.out _ _ (fun hnn=>hSe.far hlA _) ?_;clear hK K;try simp only [Act.put,List.setIfInBounds_toArray,List.set_cons_zero,List.set_cons_succ])
       (refine wpAnyL_step 19 (by kernel_rfl) rfl (fun K hK=>?_))
       rw [if_pos (by rfl)]
       with_reducible refine wp_store_row 56 _ _ rfl _ #[.int .u8 k0,.int .i64 k1,.int .i64 k2,.int .u64 k3,.string k4,.int .u64 k5,.string k6,.string k7,.int .i64 k8,.string k9] (by kernel_rfl) (by kernel_rfl) 56 _ (Sg.bk (hBk.row_far (Sg.bk_ne hBk hA (by decide)) rn.cells)) (by kernel_rfl) (by kernel_rfl) (by simp [Value.oneCell']) ?_
       (refine hK.out _ _ (fun hnn=>(hSe.far hlA _).far hlB _) ?_;clear hK K;try simp only [Act.put,List.setIfInBounds_toArray,List.set_cons_zero,List.set_cons_succ])
       (refine wpAnyL_step 20 (by kernel_rfl) rfl (fun K hK=>?_))
       go_simp
       (refine hK.out _ _ (fun hnn=>(hSe.far hlA _).far hlB _) ?_;clear hK K;try simp only [Act.put,List.setIfInBounds_toArray,List.set_cons_zero,List.set_cons_succ])
       (refine wpAnyL_step 21 (by kernel_rfl) rfl (fun K hK=>?_))
       go_simp
       (refine hK.out _ _ (fun hnn=>absurd hnn (by decide)) ?_;clear hK K;try simp only [Act.put,List.setIfInBounds_toArray,List.set_cons_zero,List.set_cons_succ])
       refine wpAnyL_done (by kernel_rfl) ?_ _
       refine NoPanic.normal ?_
       go_wp2_with fail
       go_meet
       case rel=>exact ⟨_,rfl,rfl,Lib.hid (hS.fill rn.cells #[.int .u8 k0,.int .i64 k1,.int .i64 k2,.int .u64 k3,.string k4,.int .u64 k5,.string k6,.string k7,.int .i64 k8,.string k9])⟩
     ·(go_simp;have hn:=hS.allocA;(try simp only [World.size_alloc] at hn);(refine hK.out _ _ (fun hnn=>hn.eb) ?_;clear hK K;try simp only [Act.put,List.setIfInBounds_toArray,List.set_cons_zero,List.set_cons_succ]);clear hS;have hS:=hn;clear hn)
      refine wpAnyL_step 9 (by kernel_rfl) rfl (fun K hK=>?_)
      (go_simp;refine (HLET.out _).mono ?_;rintro e X ⟨rfl,hb⟩;have hn:=hS.below hb;(refine hK.out _ _ (fun hnn=>hn.eb) ?_;clear hK K;try simp only [Act.put,List.setIfInBounds_toArray,List.set_cons_zero,List.set_cons_succ]);clear hb hS;have hS:=hn;clear hn)
      refine wpAnyL_step 10 (by kernel_rfl) rfl (fun K hK=>?_)
      (go_simp;refine (HREP.out _ (HKW.out.below hS.eb.bel) (Id.SchV.below hS.eb.bel HV.out)).mono ?_;rintro e X ⟨rfl,hb⟩;have hn:=hS.below hb;(refine hK.out _ _ (fun hnn=>hn.eb) ?_;clear hK K;try simp only [Act.put,List.setIfInBounds_toArray,List.set_cons_zero,List.set_cons_succ]);clear hb hS;have hS:=hn;clear hn;have hSe:=hS.eb;(refine wpAnyL_take0 11 (v:=?_) rfl (by kernel_rfl) (by kernel_rfl) (by kernel_rfl) (by kernel_rfl) (fun _ _ _ h=>h) (fun _=>by assumption) (by rfl) ?_ ?_;rotate_left;· (intro w;go_simp;try with_reducible rfl);try simp only [Act.put,List.setIfInBounds_toArray,List.set_cons_zero,List.set_cons_succ]);(refine wpAnyL_take0 12 (v:=?_) rfl (by kernel_rfl) (by kernel_rfl) (by kernel_rfl) (by kernel_rfl) (fun _ _ _ h=>h) (fun _=>by assumption) (by rfl) ?_ ?_;rotate_left;· (intro w;go_simp;try with_reducible rfl);try simp only [Act.put,List.setIfInBounds_toArray,List.set_cons_zero,List.set_cons_succ]);(refine wpAnyL_take0 13 (v:=?_) rfl (by kernel_rfl) (by kernel_rfl) (by kernel_rfl) (by kernel_rfl) (fun _ _ _ h=>h) (fun _=>by assumption) (by rfl) ?_ ?_;rotate_left;· (intro w;go_simp;try with_reducible rfl);try simp only [Act.put,List.setIfInBounds_toArray,List.set_cons_zero,List.set_cons_succ]);(refine wpAnyL_take0 14 (v:=?_) rfl (by kernel_rfl) (by kernel_rfl) (by kernel_rfl) (by kernel_rfl) (fun _ _ _ h=>h) (fun _=>by assumption) (by rfl) ?_ ?_;rotate_left;· (intro w;go_simp;try with_reducible rfl);try simp only [Act.put,List.setIfInBounds_toArray,List.set_cons_zero,List.set_cons_succ]);(refine wpAnyL_take0 15 (v:=?_) rfl (by kernel_rfl) (by kernel_rfl) (by kernel_rfl) (by kernel_rfl) (fun _ _ _ h=>h) (fun _=>by assumption) (by rfl) ?_ ?_;rotate_left;· (intro w;go_simp;try with_reducible rfl);try simp only [Act.put,List.setIfInBounds_toArray,List.set_cons_zero,List.set_cons_succ]);clear hSe)
      obtain ⟨hA,hlA⟩:=hS.a _ rfl
      obtain ⟨hBk,hlB⟩:=hS.b _ rfl
      have hSe:=hS.eb
      (refine wpAnyL_step 18 (by kernel_rfl) rfl (fun K hK=>?_))
      rw [if_pos (by rfl)]
      with_reducible refine wp_store_row 54 _ _ rfl _ rn.cells (by kernel_rfl) (by kernel_rfl) 54 _ (Sg.bk hA) (by kernel_rfl) (by kernel_rfl) (Sg.Run.one rn) ?_
      (refine hK.out _ _ (fun hnn=>hSe.far hlA _) ?_;clear hK K;try simp only [Act.put,List.setIfInBounds_toArray,List.set_cons_zero,List.set_cons_succ])
      (refine wpAnyL_step 19 (by kernel_rfl) rfl (fun K hK=>?_))
      rw [if_pos (by rfl)]
      with_reducible refine wp_store_row 56 _ _ rfl _ #[.int .u8 k0,.int .i64 k1,.int .i64 k2,.int .u64 k3,.string k4,.int .u64 k5,.string k6,.string k7,.int .i64 k8,.string k9] (by kernel_rfl) (by kernel_rfl) 56 _ (Sg.bk (hBk.row_far (Sg.bk_ne hBk hA (by decide)) rn.cells)) (by kernel_rfl) (by kernel_rfl) (by simp [Value.oneCell']) ?_
      (refine hK.out _ _ (fun hnn=>(hSe.far hlA _).far hlB _) ?_;clear hK K;try simp only [Act.put,List.setIfInBounds_toArray,List.set_cons_zero,List.set_cons_succ])
      (refine wpAnyL_step 20 (by kernel_rfl) rfl (fun K hK=>?_))
      go_simp
      (refine hK.out _ _ (fun hnn=>(hSe.far hlA _).far hlB _) ?_;clear hK K;try simp only [Act.put,List.setIfInBounds_toArray,List.set_cons_zero,List.set_cons_succ])
      (refine wpAnyL_step 21 (by kernel_rfl) rfl (fun K hK=>?_))
      go_simp
      (refine hK.out _ _ (fun hnn=>absurd hnn (by decide)) ?_;clear hK K;try simp only [Act.put,List.setIfInBounds_toArray,List.set_cons_zero,List.set_cons_succ])
      refine wpAnyL_done (by kernel_rfl) ?_ _
      refine NoPanic.normal ?_
      go_wp2_with fail
      go_meet
      case rel=>exact ⟨_,rfl,rfl,Lib.hid (hS.fill rn.cells #[.int .u8 k0,.int .i64 k1,.int .i64 k2,.int .u64 k3,.string k4,.int .u64 k5,.string k6,.string k7,.int .i64 k8,.string k9])⟩
   case rest =>
    obtain ⟨gA,rfl,rfl,HF⟩:=hcut
    obtain ⟨Y,rfl⟩:∃ wo:World,wo=wc:=⟨_,rfl⟩
    have hov:=fun W=>sgover_any r W
    obtain ⟨O,HO⟩:∃ o,Hid (Sg.over r=o):=⟨_,Lib.hid rfl⟩
    simp only [HO.out] at hov
    unfold Sg.Run.val at hov
    have HOV:=Lib.hid hov
    have htk:tk=!O:=by rw [←HO.out];exact HRD.out.1
    have HNX:=Lib.hid HRD.out.2
    subst htk
    have hL:=HF.out.eb.r
    clear hov HRD
    go_wp2_with (refine wpList_load_row rfl _ _ rfl _ rfl _ _ _ _ hL Tryz.underlying54 rfl (by kernel_rfl) ?_)
    refine (HOV.out _).mono ?_
    rintro e W7 ⟨rfl,hb⟩
    have hF:=HF.out.below hb
    clear hb hL HOV HF
    have hla:=Sg.bk hF.a
    have hlr:=Sg.bk hF.eb.r
    have hnk:m≤nL:=by omega
    have wm:IntKind.i64.wrap ((m:Int)+1)=(m:Int)+1:=by have:=HLEN.out;rw [IntKind.wrap_i64];omega
    have wk:IntKind.i64.wrap ((k:Int)+1)=(k:Int)+1:=by have:=HLEN.out;rw [IntKind.wrap_i64];omega
    have HRI2:Hid (rn.id=id∧rn.arg=arg):=Lib.hid ⟨HSM.out.1.trans HRI.out.1,HSM.out.2.2.trans HRI.out.2⟩
    have HXN:=Lib.hid (hF.eb.setR rn.cells)
    have HMK:=Lib.hid hm
    clear hF hm
    cases O with
    | true =>
     go_wp2_with (first | (refine wpList_load_row rfl _ _ rfl _ rfl _ _ _ _ hla Tryz.underlying54 rfl (by kernel_rfl) ?_) | (refine wpList_store_row rfl _ _ _ rfl _ _ rfl rfl _ _ (by with_reducible assumption) (by kernel_rfl) (by rfl) (Sg.Run.one rn) ?_))
     go_roundw
     case rel=>exact ⟨k+1,m,rn,by omega,by have:=HMK.out;omega,by go_num,rfl,HRI2,HNX,HXN⟩
     case measure=>simp [intOf];omega
    | false =>
     go_wp2_with (first | (refine wpList_load_row rfl _ _ rfl _ rfl _ _ _ _ hla Tryz.underlying54 rfl (by kernel_rfl) ?_) | (refine wpList_store_row rfl _ _ _ rfl _ _ rfl rfl _ _ (by with_reducible assumption) (by kernel_rfl) (by rfl) (Sg.Run.one rn) ?_))
     go_roundw
     case rel=>exact ⟨k+1,m+1,rn,by omega,by have:=HMK.out;omega,by go_num,by go_num,HRI2,HNX,HXN⟩
     case measure=>simp [intOf];omega
end Go.Proofs.YtogijkhenihaaaaGreatDoor
