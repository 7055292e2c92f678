/- SagadefLetters: what the letters are (plain), and the law's walk. No condition but the keywords' table and what the card opens. -/
import Derived.Test.YtlbihaikppkecaaGreatDoorPS30
import Derived.Test.YtlbihaikppkecaaGreatDoorPS31
set_option linter.unusedVariables false
set_option linter.unusedSimpArgs false
namespace Go.Proofs.YtlbihaikppkecaaGreatDoor
open Go.RowKit Go.BigFrame
namespace Sd
open Go.Proofs.YtlbihaikppkecaaGreatDoor.Id Go.Proofs.YtlbihaikppkecaaGreatDoor.Chk Go.Proofs.YtlbihaikppkecaaGreatDoor.Ev
theorem call_bad {x:Sch} {g id:ByteArray} {i fr:Int} {back:Bool} {body:ByteArray} (h:letE x g id i fr≠0):call x g id i back fr body=(Letter.zero,letE x g id i fr):=if_pos h
theorem cancel_bad {x:Sch} {g id:ByteArray} {i fr:Int} (h:letE x g id i fr≠0):cancel x g id i fr=(Letter.zero,letE x g id i fr):=if_pos h
theorem name_small {w:ByteArray} (h:Tk.isName w=true):w.size≤32:=by
 unfold Tk.isName at h
 simp only [Bool.and_eq_true,decide_eq_true_eq] at h
 exact h.1.1.1.2
theorem pack_ok {l:Letter} (h:right l=true):(pack l).2=0:=by
 unfold pack
 rw [if_pos h]
theorem letters_ok {x:Sch} {g id:ByteArray} {i fr:Int} {body:ByteArray} (h:letE x g id i fr=0) (hb:body.size≤500):∃ K1 at_ P sv mt,
  call x g id i false fr body=(⟨1,fr,at_,0,K1,P,sv,mt,0,body⟩,0)∧cancel x g id i fr=(⟨3,fr,at_,0,K1,P,sv,mt,0,⟨#[]⟩⟩,0) ∧
  (pack ⟨1,fr,at_,0,K1,P,sv,mt,0,body⟩).2=0∧(pack ⟨3,fr,at_,0,K1,P,sv,mt,0,⟨#[]⟩⟩).2=0∧P<18446744073709551616∧sv.size≤32∧mt.size≤32 ∧
  steps x g=((sag x g).steps.length,0)∧(sag x g).steps.length≤8 ∧
  ((call x g id i true fr body=(Letter.zero,133)∧i=((sag x g).steps.length:Int) - 1) ∨
   ∃ U,call x g id i true fr body=(⟨1,fr,at_,0,keyB id i true,P,sv,U,0,body⟩,0)∧(pack ⟨1,fr,at_,0,keyB id i true,P,sv,U,0,body⟩).2=0∧U.size≤32∧(keyB id i true).size≤64∧readP (keyB id i true).data.toList=some (id.data.toList,i,true)):=by
 have hG:=good_of h
 obtain ⟨f1,f2,f3,f4,f5,f6⟩:=letE_ok h
 obtain ⟨p1,p2,p3⟩:=found_ok f1
 obtain ⟨m,hm,_⟩:=hG.m
 obtain ⟨n1,n2⟩:=meth_names hG.rt hm
 obtain ⟨r1,r2⟩:=call_right hG hb
 have hP:(Prn.print x).1<18446744073709551616:=by
  unfold Prn.print
  split
  ·show (0:Nat)<18446744073709551616
   decide
  ·exact Sm.print_lt _
 refine ⟨keyB id i false,(stp x g i).at_,(Prn.print x).1,(stp x g i).service,(stp x g i).method,?_,?_,pack_ok r1,pack_ok r2,hP,name_small n1,name_small n2,steps_ok f1,steps_le hG.rt p3,?_⟩
 ·unfold call
  rw [if_neg (by simp [h]),if_pos rfl]
  rfl
 ·unfold cancel
  rw [if_neg (by simp [h])]
  rfl
 by_cases hu:(undoOf x (base x g id i fr)).toList.isEmpty=true
 ·left
  refine ⟨?_,undo_last h hu⟩
  unfold call
  rw [if_neg (by simp [h]),if_neg (by simp),if_pos hu]
 ·right
  have hu':(undoOf x (base x g id i fr)).toList.isEmpty=false:=by simpa using hu
  have r3:=undo_right hG hb hu'
  have hk:=keyB_size (b:=true) hG.idok hG.i0 hG.i8
  have hne:keyL id.data.toList i true≠[]:=fun e=>by
   rcases key_none.1 e with h | h | h
   ·rw [hG.idok] at h;cases h
   ·have:=hG.i0;omega
   ·have:=hG.i8;omega
  refine ⟨undoOf x (base x g id i fr),?_,pack_ok r3,?_,hk.2,readP_key hne⟩
  ·unfold call
   rw [if_neg (by simp [h]),if_neg (by simp),if_neg hu]
   rfl
  ·unfold Ev.right at r3
   simp only [Bool.and_eq_true] at r3
   have h4:=r3.2
   simp only [true_or,if_true] at h4
   refine name_small ?_
   simp only [Bool.and_eq_true] at h4
   exact h4.1.1.2
theorem letters_gen {x:Sch} {g id:ByteArray} {i fr:Int} {body:ByteArray} (h:letE x g id i fr=0) (hb:body.size≤500):∃ l1 l2:Letter,
  call x g id i false fr body=(l1,0)∧cancel x g id i fr=(l2,0)∧(pack l1).2=0∧(pack l2).2=0∧l1.ok∧l2.ok∧(l1.svc.size≤10000∧l1.mth.size≤10000) ∧
  (l2.svc=l1.svc∧l2.mth=l1.mth∧l2.to_=l1.to_∧l2.key=l1.key∧l1.from_=fr∧l2.body=⟨#[]⟩) ∧
  steps x g=((sag x g).steps.length,0)∧(sag x g).steps.length≤8 ∧
  ((call x g id i true fr body=(Letter.zero,133)∧i=((sag x g).steps.length:Int) - 1) ∨
   ∃ l3:Letter,call x g id i true fr body=(l3,0)∧(pack l3).2=0∧l3.ok∧(l3.svc.size≤10000∧l3.mth.size≤10000)∧(l3.to_=l1.to_∧l3.svc=l1.svc∧l3.body=l1.body∧l3.print=l1.print)∧l3.key.size≤64∧readP l3.key.data.toList=some (id.data.toList,i,true)):=by
 obtain ⟨K1,at_,P,sv,mt,c1,c2,p1,p2,hP,s1,s2,hs,hl,hcase⟩:=letters_ok h hb
 refine ⟨_,_,c1,c2,p1,p2,⟨(by decide:1<256),(by decide:0<18446744073709551616),hP⟩,⟨(by decide:3<256),(by decide:0<18446744073709551616),hP⟩,⟨Nat.le_trans s1 (by decide),Nat.le_trans s2 (by decide)⟩,⟨rfl,rfl,rfl,rfl,rfl,rfl⟩,hs,hl,?_⟩
 rcases hcase with h | ⟨U,c3,p3,s3,hk,hr⟩
 ·exact .inl h
 ·exact .inr ⟨_,c3,p3,⟨(by decide:1<256),(by decide:0<18446744073709551616),hP⟩,⟨Nat.le_trans s1 (by decide),Nat.le_trans s3 (by decide)⟩,⟨rfl,rfl,rfl,rfl⟩,hk,hr⟩
end Sd
set_option maxRecDepth 100000 in
set_option maxHeartbeats 16000000 in
theorem sagadefLetters_walk (v:Value) (x:Id.Sch) (g id:ByteArray) (i fr:Int) (body:ByteArray) (w0:World) (hv:Id.SchV w0 none v x) (hw1:g.size≤maxLen) (hw2:id.size≤maxLen) (hw3:(Lit.int .i64 i).wf=true) (hw4:(Lit.int .i64 fr).wf=true) (hw5:body.size≤maxLen) (w:World) (he:w=w0) (hk:Tk.KW w) :
  Calls Tryz.prog 6 #[v,.string g,.string id,.int .i64 i,.int .i64 fr,.string body] w fun e w'=>e=.returned (.bool true)∧Below w.heap.size w w':=by
 subst he
 have HV:=Lib.hid hv
 have HKW:=Lib.hid hk
 obtain ⟨A1,n1,c1,A2,n2,c2,A3,n3,c3,rfl,-⟩:=hv
 clear hw1 hw2 hw3 hw4 hw5 hk
 go_enter Tryz.func6,Tryz.ntmps6
 go_upto_region 1 with (fail)
 refine wp_named (fun W0 hW0=>?_)
 have HL:Hid (Chk.Lx w W0 #[.string x.name,.slice A1 n1 c1,.slice A2 n2 c2,.slice A3 n3 c3]):=Lib.hid (by subst hW0;exact ⟨(Below.refl _ _).alloc (Nat.le_refl _) _,Bk.new w _ _⟩)
 clear hW0
 obtain ⟨⟨q0,q1,q2,q3⟩,-⟩:=HL.out.box.k4
 go_wp2_with fail
 refine (cgreat_any _ x _ (Id.SchV.below HL.out.bel HV.out)).mono ?_
 rintro e W1 ⟨b,rfl,hb,hg⟩
 have HL1:=Lib.hid (HL.out.below hb)
 have HG:=Lib.hid hg
 clear HL hb hg q0 q1 q2 q3
 have done:∀ W,Below w.heap.size w W→Calls Tryz.prog 13 #[] W fun e w'=>e=.returned (.bool true)∧Below w.heap.size w w':=fun W hW=>(wakes22_any W (HKW.out.below hW)).mono fun _ _ ⟨h1,h2⟩=>⟨h1,hW.trans (h2.mono hW.size)⟩
 have HDN:=Lib.hid done
 clear done
 cases b
 case true =>
  go_wp2_with fail
  refine (HDN.out _ HL1.out.bel).mono ?_
  rintro e W2 ⟨rfl,hb2⟩
  go_wp2_with fail
  go_ret
  exact ⟨rfl,hb2⟩
 have HFG:=Lib.hid (HG.out rfl)
 have HFi:=Lib.hid HFG.out.fine
 clear HG
 by_cases hbig:(500:Int)<(g.size:Int)∨(500:Int)<(id.size:Int)∨(500:Int)<(body.size:Int)
 case pos =>
  by_cases g1:(500:Int)<(g.size:Int)
  ·go_wp2_with fail
   refine (HDN.out _ HL1.out.bel).mono ?_
   rintro e W2 ⟨rfl,hb2⟩
   go_wp2_with fail
   go_ret
   exact ⟨rfl,hb2⟩
  ·by_cases g2:(500:Int)<(id.size:Int)
   ·go_wp2_with fail
    refine (HDN.out _ HL1.out.bel).mono ?_
    rintro e W2 ⟨rfl,hb2⟩
    go_wp2_with fail
    go_ret
    exact ⟨rfl,hb2⟩
   ·have g3:(500:Int)<(body.size:Int):=by omega
    go_wp2_with fail
    refine (HDN.out _ HL1.out.bel).mono ?_
    rintro e W2 ⟨rfl,hb2⟩
    go_wp2_with fail
    go_ret
    exact ⟨rfl,hb2⟩
 have g1:¬(500:Int)<(g.size:Int):=by omega
 have g2:¬(500:Int)<(id.size:Int):=by omega
 have g3:¬(500:Int)<(body.size:Int):=by omega
 have hid:id.size≤100000:=by omega
 have hbd:body.size≤500:=by omega
 clear hbig
 have CC:=Lib.hid (fun sv W k s=>scall_any sv x HFi.out g id hid i false fr body W k s)
 have CN:=Lib.hid (fun sv W k s=>scancel_any sv x HFi.out g id hid i fr W k s)
 obtain ⟨⟨q0,q1,q2,q3⟩,-⟩:=HL1.out.box.k4
 go_wp2_with fail
 refine (CC.out _ _ (HKW.out.below HL1.out.bel) (Id.SchV.below HL1.out.bel HV.out)).mono ?_
 obtain ⟨⟨a1,e1⟩,HR1⟩:∃ R,Hid (Sd.call x g id i false fr body=R):=⟨_,Lib.hid rfl⟩
 obtain ⟨⟨a2,e2⟩,HR2⟩:∃ R,Hid (Sd.cancel x g id i fr=R):=⟨_,Lib.hid rfl⟩
 rw [HR1.out]
 rintro e W4 ⟨rfl,hb⟩
 have HL4:=Lib.hid (HL1.out.below hb)
 clear hb q0 q1 q2 q3 HL1 CC
 simp only
 obtain ⟨k0,k1,k2,k3,k4,k5,k6,k7,k8,k9⟩:=a1
 obtain ⟨r0,r1,r2,r3,r4,r5,r6,r7,r8,r9⟩:=a2
 simp only [HR2.out,Ev.Letter.val] at CN ⊢
 go_upto_region 4 with (fail)
 refine wp_named (fun V4 hV=>?_)
 obtain ⟨hbV,hq,-⟩:=fresh_box hV
 have HL5:=Lib.hid (HL4.out.below hbV)
 have HA5:=Lib.hid hq
 obtain ⟨gA,HgA⟩:∃ n,Hid (W4.heap.size=n):=⟨_,Lib.hid rfl⟩
 rw [HgA.out] at HA5 ⊢
 clear hbV hq hV HL4
 obtain ⟨⟨q0,q1,q2,q3⟩,-⟩:=HL5.out.box.k4
 go_wp2_with fail
 refine (CN.out _ _ (HKW.out.below HL5.out.bel) (Id.SchV.below HL5.out.bel HV.out)).mono ?_
 rintro e W5 ⟨rfl,hb⟩
 have HL6:=Lib.hid (HL5.out.below hb)
 have HA6:=Lib.hid (HA5.out.below hb HA5.out.lt)
 clear hb q0 q1 q2 q3 HL5 HA5 CN
 go_upto_region 5 with (fail)
 refine wp_named (fun V5 hV=>?_)
 obtain ⟨hbV,hq,-⟩:=fresh_box hV
 have HL7:=Lib.hid (HL6.out.below hbV)
 have HA7:=Lib.hid (HA6.out.below hbV HA6.out.lt)
 have hAB:=HA6.out.lt
 have HB7:=Lib.hid hq
 obtain ⟨gB,HgB⟩:∃ n,Hid (W5.heap.size=n):=⟨_,Lib.hid rfl⟩
 rw [HgB.out] at HB7 hAB ⊢
 clear hbV hq hV HL6 HA6
 by_cases hE:Sd.letE x g id i fr=0
 case neg =>
  have x1:=HR1.out
  have x2:=HR2.out
  rw [Sd.call_bad hE] at x1
  rw [Sd.cancel_bad hE] at x2
  injection x1 with y1 y2
  injection x2 with z1 z2
  have e12:e1=e2:=by rw [←y2,←z2]
  subst e12
  have hE1:¬e1=0:=by rw [←y2];exact hE
  unfold Ev.Letter.zero at y1 z1
  injection y1 with j0 j1 j2 j3 j4 j5 j6 j7 j8 j9
  injection z1 with l0 l1 l2 l3 l4 l5 l6 l7 l8 l9
  subst j0 j1 j2 j3 j4 j5 j6 j7 j8 j9 l0 l1 l2 l3 l4 l5 l6 l7 l8 l9
  clear y2 z2
  have t1:((e1:Int) != 0)=true:=by rw [bne_iff_ne];omega
  have t2:¬(e1:Int)=0:=by omega
  obtain ⟨c0,c1,c2,c3,c4,c5,c6,c7,c8,c9⟩:=Sd.ten HA7.out
  obtain ⟨d0,d1,d2,d3,d4,d5,d6,d7,d8,d9⟩:=Sd.ten HB7.out
  go_wp2_with fail
  refine (HDN.out _ HL7.out.bel).mono ?_
  rintro e W8 ⟨rfl,hb2⟩
  clear c0 c1 c2 c3 c4 c5 c6 c7 c8 c9 d0 d1 d2 d3 d4 d5 d6 d7 d8 d9
  go_wp2_with fail
  go_ret
  exact ⟨rfl,hb2⟩
 obtain ⟨l1,l2,x1,x2,p1,p2,o1,o2,z1,⟨m1,m2,m3,m4,m5,m6⟩,hst,hl8,hcase⟩:=Sd.letters_gen hE hbd
 rw [HR1.out] at x1
 rw [HR2.out] at x2
 injection x1 with y1 y2
 injection x2 with y3 y4
 subst y1 y2 y3 y4
 simp only at m1 m2 m3 m4 m5 m6 z1
 subst m1 m2 m3 m4 m5 m6
 have HC:=Lib.hid hcase
 clear hcase
 have hp1:=fun W k=>pack_any _ o1 z1 W k
 have hp2:=fun W k=>pack_any _ o2 z1 W k
 generalize Ev.pack ⟨k0,k1,r2,k3,r4,k5,r6,r7,k8,k9⟩=Q1 at hp1 p1
 generalize Ev.pack ⟨r0,r1,r2,r3,r4,r5,r6,r7,r8,⟨#[]⟩⟩=Q2 at hp2 p2
 obtain ⟨B1,C1⟩:=Q1
 obtain ⟨B2,C2⟩:=Q2
 simp only at p1 p2
 subst p1 p2
 unfold Ev.Letter.val at hp1 hp2
 have P1:=Lib.hid hp1
 have P2:=Lib.hid hp2
 have CS:=Lib.hid (fun sv W k s=>ssteps_any sv x HFi.out g W k s)
 have CC:=Lib.hid (fun sv W k s=>scall_any sv x HFi.out g id hid i true k1 body W k s)
 rw [hst] at CS
 generalize (Sd.sag x g).steps.length=n at *
 have H8:=Lib.hid hl8
 clear hp1 hp2 o1 o2 z1 hst hl8 HR1 HR2 hE hbd
 obtain ⟨c0,c1,c2,c3,c4,c5,c6,c7,c8,c9⟩:=Sd.ten HA7.out
 go_wp2_with fail
 refine (P1.out _ (HKW.out.below HL7.out.bel)).mono ?_
 rintro e W8 ⟨rfl,hb⟩
 have HL8:=Lib.hid (HL7.out.below hb)
 have HA8:=Lib.hid (HA7.out.below hb HA7.out.lt)
 have HB8:=Lib.hid (HB7.out.below hb HB7.out.lt)
 clear hb c0 c1 c2 c3 c4 c5 c6 c7 c8 c9 HL7 HA7 HB7 P1
 obtain ⟨d0,d1,d2,d3,d4,d5,d6,d7,d8,d9⟩:=Sd.ten HB8.out
 go_wp2_with fail
 refine (P2.out _ (HKW.out.below HL8.out.bel)).mono ?_
 rintro e W9 ⟨rfl,hb⟩
 have HL9:=Lib.hid (HL8.out.below hb)
 have HA9:=Lib.hid (HA8.out.below hb HA8.out.lt)
 have HB9:=Lib.hid (HB8.out.below hb HB8.out.lt)
 clear hb d0 d1 d2 d3 d4 d5 d6 d7 d8 d9 HL8 HA8 HB8 P2
 obtain ⟨c0,c1,c2,c3,c4,c5,c6,c7,c8,c9⟩:=Sd.ten HA9.out
 obtain ⟨d0,d1,d2,d3,d4,d5,d6,d7,d8,d9⟩:=Sd.ten HB9.out
 obtain ⟨⟨q0,q1,q2,q3⟩,-⟩:=HL9.out.box.k4
 go_wp2_with fail
 refine (CS.out _ _ (HKW.out.below HL9.out.bel) (Id.SchV.below HL9.out.bel HV.out)).mono ?_
 rintro e W10 ⟨rfl,hb⟩
 have HL10:=Lib.hid (HL9.out.below hb)
 have HA10:=Lib.hid (HA9.out.below hb HA9.out.lt)
 clear hb c0 c1 c2 c3 c4 c5 c6 c7 c8 c9 d0 d1 d2 d3 d4 d5 d6 d7 d8 d9 q0 q1 q2 q3 HL9 HA9 HB9 CS
 obtain ⟨⟨q0,q1,q2,q3⟩,-⟩:=HL10.out.box.k4
 go_wp2_with fail
 refine (CC.out _ _ (HKW.out.below HL10.out.bel) (Id.SchV.below HL10.out.bel HV.out)).mono ?_
 have hcc:=HC.out
 generalize Sd.call x g id i true k1 body=CR at hcc ⊢
 rcases hcc with ⟨rfl,hin⟩ | ⟨⟨t0,t1,t2,t3,t4,t5,t6,t7,t8,t9⟩,rfl,p3,o3,z3,⟨m1,m2,m3,m4⟩,hks,hrp⟩
 ·unfold Ev.Letter.zero Ev.Letter.val
  rintro e W11 ⟨rfl,hb⟩
  have HL11:=Lib.hid (HL10.out.below hb)
  clear hb q0 q1 q2 q3 HL10 CC HC
  go_upto_region 15 with (fail)
  refine wp_named (fun V5 hV=>?_)
  obtain ⟨hbV,-,-⟩:=fresh_box hV
  have HL12:=Lib.hid (HL11.out.below hbV)
  clear hbV hV HL11
  have h8:=H8.out
  have hw:wrap64 ((n:Int) - 1)=(n:Int) - 1:=by
   have e:∀ n,wrap64 n=IntKind.i64.wrap n:=fun n=>by first | (rw [IntKind.wrap_i64];rfl) | (rw [IntKind.wrap_i64];unfold wrap64;rfl) | simp [wrap64,IntKind.wrap,IntKind.bits,IntKind.signed]
   rw [e,IntKind.wrap_i64]
   omega
  have hie:(i==(n:Int) - 1)=true:=by rw [hin];simp
  go_wp2_with fail
  refine (HDN.out _ HL12.out.bel).mono ?_
  rintro e W8 ⟨rfl,hb2⟩
  go_wp2_with fail
  go_ret
  exact ⟨rfl,hb2⟩
 ·simp only at m1 m2 m3 m4 z3 hks hrp
  subst m1 m2 m3 m4
  have hp3:=fun W k=>pack_any _ o3 z3 W k
  generalize Ev.pack ⟨t0,t1,t2,t3,t4,t5,t6,t7,t8,t9⟩=Q3 at hp3 p3
  obtain ⟨B3,C3⟩:=Q3
  simp only at p3
  subst p3
  unfold Ev.Letter.val at hp3 ⊢
  have P3:=Lib.hid hp3
  have hrd:=fun W=>sread_any t4 (by omega) W
  have hv:Sd.readV (Sd.readP t4.data.toList)=.tuple #[.string id,.int .i64 i,.bool true,.bool true]:=by
   rw [hrp]
   rfl
  rw [hv] at hrd
  have RD:=Lib.hid hrd
  clear hp3 hrd hv o3 z3 hks hrp
  rintro e W11 ⟨rfl,hb⟩
  have HL11:=Lib.hid (HL10.out.below hb)
  have HA11:=Lib.hid (HA10.out.below hb HA10.out.lt)
  clear hb q0 q1 q2 q3 HL10 HA10 CC HC
  go_upto_region 15 with (fail)
  refine wp_named (fun V5 hV=>?_)
  obtain ⟨hbV,hq,-⟩:=fresh_box hV
  have HL12:=Lib.hid (HL11.out.below hbV)
  have HA12:=Lib.hid (HA11.out.below hbV HA11.out.lt)
  have HD12:=Lib.hid hq
  obtain ⟨gD,HgD⟩:∃ n,Hid (W11.heap.size=n):=⟨_,Lib.hid rfl⟩
  rw [HgD.out] at HD12 ⊢
  clear hbV hV hq HL11 HA11
  obtain ⟨c0,c1,c2,c3,c4,c5,c6,c7,c8,c9⟩:=Sd.ten HD12.out
  go_wp2_with fail
  refine (P3.out _ (HKW.out.below HL12.out.bel)).mono ?_
  rintro e W12 ⟨rfl,hb⟩
  have HL13:=Lib.hid (HL12.out.below hb)
  have HA13:=Lib.hid (HA12.out.below hb HA12.out.lt)
  have HD13:=Lib.hid (HD12.out.below hb HD12.out.lt)
  clear hb c0 c1 c2 c3 c4 c5 c6 c7 c8 c9 HL12 HA12 HD12 P3
  obtain ⟨c0,c1,c2,c3,c4,c5,c6,c7,c8,c9⟩:=Sd.ten HD13.out
  go_wp2_with fail
  refine (RD.out _).mono ?_
  rintro e W13 ⟨rfl,hb⟩
  have HL14:=Lib.hid (HL13.out.below hb)
  have HA14:=Lib.hid (HA13.out.below hb HA13.out.lt)
  have HD14:=Lib.hid (HD13.out.below hb HD13.out.lt)
  clear hb c0 c1 c2 c3 c4 c5 c6 c7 c8 c9 HL13 HA13 HD13 RD
  obtain ⟨c0,c1,c2,c3,c4,c5,c6,c7,c8,c9⟩:=Sd.ten HD14.out
  obtain ⟨d0,d1,d2,d3,d4,d5,d6,d7,d8,d9⟩:=Sd.ten HA14.out
  go_wp2_with fail
  refine (HDN.out _ HL14.out.bel).mono ?_
  rintro e W8 ⟨rfl,hb2⟩
  clear c0 c1 c2 c3 c4 c5 c6 c7 c8 c9 d0 d1 d2 d3 d4 d5 d6 d7 d8 d9
  go_wp2_with fail
  go_ret
  exact ⟨rfl,hb2⟩
end Go.Proofs.YtlbihaikppkecaaGreatDoor
