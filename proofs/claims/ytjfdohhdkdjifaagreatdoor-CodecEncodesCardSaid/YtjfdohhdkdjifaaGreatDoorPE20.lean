/- value's cursor: of (printed by gen_valh.py). No condition but the ones the theorems state. -/
import Derived.Test.YtjfdohhdkdjifaaGreatDoorPE19
set_option linter.unusedVariables false
set_option linter.unusedSimpArgs false
namespace Go.Proofs.YtjfdohhdkdjifaaGreatDoor
open Go.RowKit Go.BigFrame
set_option maxRecDepth 100000 in
set_option maxHeartbeats 16000000 in
theorem vof_step (s:Id.Sch) (v:List Vl.Node) (vs:Value) (w0:World) (b g m k:Nat) (hv:Vl.ValR w0 none vs v) (hl:v.length≤100000) (hR:Chk.Right s) (ih:Vl.OfC s v vs w0 b g m k):Vl.OfC s v vs w0 b g m (k+1):=by
 intro tv t a w ht h12 ha hlen hE hC hs
 obtain ⟨⟨xk,xn⟩,t,rfl⟩:∃ x l,t=x::l:=List.exists_cons_of_ne_nil (Vl.okT_ne ht)
 obtain ⟨R,HR⟩:∃ R,Hid (Vl.ofF s none (k+1) (⟨xk,xn⟩::t) (v.drop a)=R):=⟨_,Lib.hid rfl⟩
 rw [HR.out]
 have HV:=Lib.hid hv
 have HIH:=Lib.hid ih
 have HE:=Lib.hid hE
 have HC:=Lib.hid hC
 have HS:=Lib.hid hs
 have HTT:=Lib.hid ht
 have hRR:=Lib.hid hR
 obtain ⟨A,n,c,rfl⟩:=ERow.is hs
 have hn:n=t.length+1:=by obtain ⟨_,_,e,_⟩:=ERow.slice hs;injection e
 have hnm:n≤12:=by rw [hn];simpa using h12
 obtain ⟨g7,off7,cs,rfl,-,e1,hc⟩:=ERow.get hs (i:=0) (by simp) (by omega)
 unfold Id.SortE Id.Srt.cells at e1
 simp only [List.getElem_cons_zero] at e1
 subst e1
 have a0:=hc 0 _ rfl
 have a1:=hc 1 _ rfl
 simp only [Nat.zero_mul,Nat.add_zero] at a0 a1
 have hg7:g7<w0.heap.size:=World.block_lt_of_cell? w0 _ a0
 have hn0:(0:Int)<(n:Int):=by omega
 have hn1:0<n:=by omega
 have HLT:Hid (n=t.length+1):=Lib.hid hn
 have HKN:=Lib.hid (Vl.okT_kind ht)
 obtain ⟨B0,hB0⟩:∃ B:Nat,B=g7:=⟨_,rfl⟩
 clear hv ih hE hC hs hc ht hR hB0 hn h12 B0
 go_enter Tryz.func55,Tryz.ntmps55
 go_upto_region 1 with (fail)
 refine wp_named (fun V hV=>?_)
 obtain ⟨hb1,hq1,-⟩:=fresh_box hV
 clear hV
 have HEV:=Lib.hid (HE.out.below hb1)
 have HCV:=Lib.hid (HC.out.below hb1)
 have HGV:=Lib.hid (gb_below hb1 (some b))
 have HQ:=Lib.hid hq1
 have hrw:w.heap.size<V.heap.size:=hq1.lt
 have hbw:b<w.heap.size:=HE.out.lt
 have hbr:b≠w.heap.size:=by omega
 obtain ⟨q0,-⟩:=hq1.k1
 have a0:=(HEV.out.bel.cell hg7).trans a0
 have a1:=(HEV.out.bel.cell hg7).trans a1
 clear hb1 hq1
 by_cases h1:xk=1
 case pos =>
  subst h1
  rw [Vl.of_leafT (x:=⟨1,xn⟩) (by simp)] at HR
  clear HIH HTT
  go_wp2_with fail
  refine (vnext_any b a vs (Vl.fndV g) v 1 w0 V HV.out HEV.out.bel HEV.out.lo HCV.out ha hl).mono ?_
  rintro e V1 ⟨rfl,hg1,hc1⟩
  have HEN:=Lib.hid (HEV.out.grown hg1)
  have HGN:=Lib.hid (Vl.gb_trans HGV.out hg1)
  have HQ1:Hid (Bk V1 w.heap.size 45 #[.slice (some ⟨g7,off7,none⟩) n c]):=Lib.hid (HQ.out.grown hg1 (by intro e;injection e with e;exact hbr e.symm))
  unfold Vl.nxtTo at hc1
  obtain ⟨Z,hz⟩:∃ Z,Vl.nxt (v.drop a) 1=Z:=⟨_,rfl⟩
  rw [hz] at hc1
  rw [hz]
  have HZ:=Lib.hid hz
  clear hz q0 a0 a1
  cases Z with
  | none =>
   have HCN:=Lib.hid hc1
   clear hc1 hg1
   have HX:Hid (R=none):=Lib.hid (by rw [←HR.out];rw [if_neg (by unfold Vl.okLeaf;rw [HZ.out];decide)])
   simp only [Option.getD_none,Option.isSome_none,Vl.zeroN,Vl.Node.val]
   go_wp2_with fail
   refine (vone_any false _).mono ?_
   rintro e W9 ⟨rfl,rfl⟩
   go_wp2_with fail
   go_ret
   refine ⟨a,by rw [HX.out];rfl,Vl.gb_trans HGN.out (gb_below ?_ _),Vl.Cur.below HCN.out ?_,ha,fun p hp=>by rw [HX.out] at hp;cases hp⟩
   all_goals exact (Below.refl _ _).alloc (Nat.le_refl _) _
  | some nd =>
   have HCN:=Lib.hid hc1
   obtain ⟨n0,n1,n2,n3⟩:=nd
   clear hc1 hg1
   simp only [Option.getD_some,Option.isSome_some,Vl.Node.val,if_true] at HCN ⊢
   have hlt:a<v.length:=by
    by_cases h:a<v.length
    ·exact h
    ·exfalso
     have h1:=HZ.out
     rw [List.drop_of_length_le (by omega)] at h1
     cases h1
   go_upto_region 4 with (fail)
   refine wp_named (fun V2 hV=>?_)
   obtain ⟨hb2,hq2,-⟩:=fresh_box hV
   clear hV
   have HE2:=Lib.hid (HEN.out.below hb2)
   have HC2:=Lib.hid (HCN.out.below hb2)
   have HG2:=Lib.hid (Vl.gb_trans HGN.out (gb_below hb2 _))
   have HQt2:=Lib.hid (HQ1.out.below hb2 HQ1.out.lt)
   have HQn2:=Lib.hid hq2
   have hnb:V1.heap.size<V2.heap.size:=hq2.lt
   obtain ⟨⟨p0,p1,p2,p3⟩,-⟩:=hq2.k4
   obtain ⟨q0,-⟩:=HQt2.out.k1
   clear hb2 hq2 HEN HCN HGN HQ1
   obtain ⟨B,HBB⟩:∃ B,Hid (Vl.bare ⟨n0,n1,n2,n3⟩ false false false=B):=⟨_,Lib.hid rfl⟩
   go_wp2_with fail
   refine (vbare_any ⟨n0,n1,n2,n3⟩ false false false _).mono ?_
   rw [HBB.out]
   rintro e V3 ⟨rfl,hb3⟩
   have HE3:=Lib.hid (HE2.out.below hb3)
   have HC3:=Lib.hid (HC2.out.below hb3)
   have HG3:=Lib.hid (Vl.gb_trans HG2.out (gb_below hb3 _))
   have HQt3:=Lib.hid (HQt2.out.below hb3 HQt2.out.lt)
   have HQn3:=Lib.hid (HQn2.out.below hb3 HQn2.out.lt)
   clear p0 p1 p2 p3 q0
   obtain ⟨⟨p0,p1,p2,p3⟩,-⟩:=HQn3.out.k4
   obtain ⟨q0,-⟩:=HQt3.out.k1
   clear hb3 HE2 HC2 HG2 HQt2 HQn2
   cases B
   case false =>
    have hok:Vl.leafT 1 ⟨n0,n1,n2,n3⟩=false:=HBB.out
    have HX:Hid (R=none):=Lib.hid (by rw [←HR.out,if_neg (by unfold Vl.okLeaf;rw [HZ.out];simp only;rw [hok];decide)])
    go_wp2_with fail
    refine (vone_any false _).mono ?_
    rintro e W9 ⟨rfl,rfl⟩
    go_wp2_with fail
    go_ret
    exact ⟨a+1,by rw [HX.out];rfl,HG3.out,HC3.out,by omega,fun p hp=>by rw [HX.out] at hp;cases hp⟩
   have hok:Vl.leafT 1 ⟨n0,n1,n2,n3⟩=true:=HBB.out
   have HX:Hid (R=some (1,v.drop (a+1))):=Lib.hid (by rw [←HR.out,if_pos (by unfold Vl.okLeaf;rw [HZ.out];exact hok),List.drop_drop])
   go_wp2_with fail
   refine (vone_any true _).mono ?_
   rintro e W9 ⟨rfl,rfl⟩
   go_wp2_with fail
   go_ret
   exact ⟨a+1,by rw [HX.out];rfl,HG3.out,HC3.out,by omega,fun p hp=>by rw [HX.out] at hp;injection hp with hp;rw [←hp]⟩
 by_cases h2:xk=2
 case pos =>
  subst h2
  rw [Vl.of_leafT (x:=⟨2,xn⟩) (by simp)] at HR
  clear HIH HTT
  go_wp2_with fail
  refine (vnext_any b a vs (Vl.fndV g) v 2 w0 V HV.out HEV.out.bel HEV.out.lo HCV.out ha hl).mono ?_
  rintro e V1 ⟨rfl,hg1,hc1⟩
  have HEN:=Lib.hid (HEV.out.grown hg1)
  have HGN:=Lib.hid (Vl.gb_trans HGV.out hg1)
  have HQ1:Hid (Bk V1 w.heap.size 45 #[.slice (some ⟨g7,off7,none⟩) n c]):=Lib.hid (HQ.out.grown hg1 (by intro e;injection e with e;exact hbr e.symm))
  unfold Vl.nxtTo at hc1
  obtain ⟨Z,hz⟩:∃ Z,Vl.nxt (v.drop a) 2=Z:=⟨_,rfl⟩
  rw [hz] at hc1
  rw [hz]
  have HZ:=Lib.hid hz
  clear hz q0 a0 a1
  cases Z with
  | none =>
   have HCN:=Lib.hid hc1
   clear hc1 hg1
   have HX:Hid (R=none):=Lib.hid (by rw [←HR.out];rw [if_neg (by unfold Vl.okLeaf;rw [HZ.out];decide)])
   simp only [Option.getD_none,Option.isSome_none,Vl.zeroN,Vl.Node.val]
   go_wp2_with fail
   refine (vone_any false _).mono ?_
   rintro e W9 ⟨rfl,rfl⟩
   go_wp2_with fail
   go_ret
   refine ⟨a,by rw [HX.out];rfl,Vl.gb_trans HGN.out (gb_below ?_ _),Vl.Cur.below HCN.out ?_,ha,fun p hp=>by rw [HX.out] at hp;cases hp⟩
   all_goals exact (Below.refl _ _).alloc (Nat.le_refl _) _
  | some nd =>
   have HCN:=Lib.hid hc1
   obtain ⟨n0,n1,n2,n3⟩:=nd
   clear hc1 hg1
   simp only [Option.getD_some,Option.isSome_some,Vl.Node.val,if_true] at HCN ⊢
   have hlt:a<v.length:=by
    by_cases h:a<v.length
    ·exact h
    ·exfalso
     have h1:=HZ.out
     rw [List.drop_of_length_le (by omega)] at h1
     cases h1
   go_upto_region 7 with (fail)
   refine wp_named (fun V2 hV=>?_)
   obtain ⟨hb2,hq2,-⟩:=fresh_box hV
   clear hV
   have HE2:=Lib.hid (HEN.out.below hb2)
   have HC2:=Lib.hid (HCN.out.below hb2)
   have HG2:=Lib.hid (Vl.gb_trans HGN.out (gb_below hb2 _))
   have HQt2:=Lib.hid (HQ1.out.below hb2 HQ1.out.lt)
   have HQn2:=Lib.hid hq2
   have hnb:V1.heap.size<V2.heap.size:=hq2.lt
   obtain ⟨⟨p0,p1,p2,p3⟩,-⟩:=hq2.k4
   obtain ⟨q0,-⟩:=HQt2.out.k1
   clear hb2 hq2 HEN HCN HGN HQ1
   obtain ⟨B,HBB⟩:∃ B,Hid (Vl.bare ⟨n0,n1,n2,n3⟩ true false false=B):=⟨_,Lib.hid rfl⟩
   go_wp2_with fail
   refine (vbare_any ⟨n0,n1,n2,n3⟩ true false false _).mono ?_
   rw [HBB.out]
   rintro e V3 ⟨rfl,hb3⟩
   have HE3:=Lib.hid (HE2.out.below hb3)
   have HC3:=Lib.hid (HC2.out.below hb3)
   have HG3:=Lib.hid (Vl.gb_trans HG2.out (gb_below hb3 _))
   have HQt3:=Lib.hid (HQt2.out.below hb3 HQt2.out.lt)
   have HQn3:=Lib.hid (HQn2.out.below hb3 HQn2.out.lt)
   clear p0 p1 p2 p3 q0
   obtain ⟨⟨p0,p1,p2,p3⟩,-⟩:=HQn3.out.k4
   obtain ⟨q0,-⟩:=HQt3.out.k1
   clear hb3 HE2 HC2 HG2 HQt2 HQn2
   cases B
   case false =>
    have hok:Vl.leafT 2 ⟨n0,n1,n2,n3⟩=false:=by unfold Vl.leafT;rw [if_neg (by decide),if_pos rfl,HBB.out];rfl
    have HX:Hid (R=none):=Lib.hid (by rw [←HR.out,if_neg (by unfold Vl.okLeaf;rw [HZ.out];simp only;rw [hok];decide)])
    go_wp2_with fail
    refine (vone_any false _).mono ?_
    rintro e W9 ⟨rfl,rfl⟩
    go_wp2_with fail
    go_ret
    exact ⟨a+1,by rw [HX.out];rfl,HG3.out,HC3.out,by omega,fun p hp=>by rw [HX.out] at hp;cases hp⟩
   by_cases g0:0≤n1
   case neg =>
    have d0:decide (0≤n1)=false:=decide_eq_false g0
    have hok:Vl.leafT 2 ⟨n0,n1,n2,n3⟩=false:=by unfold Vl.leafT;rw [if_neg (by decide),if_pos rfl,decide_eq_false g0,Bool.and_false,Bool.false_and]
    have HX:Hid (R=none):=Lib.hid (by rw [←HR.out,if_neg (by unfold Vl.okLeaf;rw [HZ.out];simp only;rw [hok];decide)])
    go_wp2_with fail
    refine (vone_any false _).mono ?_
    rintro e W9 ⟨rfl,rfl⟩
    go_wp2_with fail
    go_ret
    exact ⟨a+1,by rw [HX.out];rfl,HG3.out,HC3.out,by omega,fun p hp=>by rw [HX.out] at hp;cases hp⟩
   have d0:decide (0≤n1)=true:=decide_eq_true g0
   by_cases g1:n1≤1
   case neg =>
    have d1:decide (n1≤1)=false:=decide_eq_false g1
    have hok:Vl.leafT 2 ⟨n0,n1,n2,n3⟩=false:=by unfold Vl.leafT;rw [if_neg (by decide),if_pos rfl,decide_eq_false g1,Bool.and_false]
    have HX:Hid (R=none):=Lib.hid (by rw [←HR.out,if_neg (by unfold Vl.okLeaf;rw [HZ.out];simp only;rw [hok];decide)])
    go_wp2_with fail
    refine (vone_any false _).mono ?_
    rintro e W9 ⟨rfl,rfl⟩
    go_wp2_with fail
    go_ret
    exact ⟨a+1,by rw [HX.out];rfl,HG3.out,HC3.out,by omega,fun p hp=>by rw [HX.out] at hp;cases hp⟩
   have d1:decide (n1≤1)=true:=decide_eq_true g1
   have hok:Vl.leafT 2 ⟨n0,n1,n2,n3⟩=true:=by unfold Vl.leafT;rw [if_neg (by decide),if_pos rfl,HBB.out,decide_eq_true g0,decide_eq_true g1];rfl
   have HX:Hid (R=some (1,v.drop (a+1))):=Lib.hid (by rw [←HR.out,if_pos (by unfold Vl.okLeaf;rw [HZ.out];exact hok),List.drop_drop])
   go_wp2_with fail
   refine (vone_any true _).mono ?_
   rintro e W9 ⟨rfl,rfl⟩
   go_wp2_with fail
   go_ret
   exact ⟨a+1,by rw [HX.out];rfl,HG3.out,HC3.out,by omega,fun p hp=>by rw [HX.out] at hp;injection hp with hp;rw [←hp]⟩
 by_cases h3:xk=3
 case pos =>
  subst h3
  rw [Vl.of_leafT (x:=⟨3,xn⟩) (by simp)] at HR
  clear HIH HTT
  go_wp2_with fail
  refine (vnext_any b a vs (Vl.fndV g) v 3 w0 V HV.out HEV.out.bel HEV.out.lo HCV.out ha hl).mono ?_
  rintro e V1 ⟨rfl,hg1,hc1⟩
  have HEN:=Lib.hid (HEV.out.grown hg1)
  have HGN:=Lib.hid (Vl.gb_trans HGV.out hg1)
  have HQ1:Hid (Bk V1 w.heap.size 45 #[.slice (some ⟨g7,off7,none⟩) n c]):=Lib.hid (HQ.out.grown hg1 (by intro e;injection e with e;exact hbr e.symm))
  unfold Vl.nxtTo at hc1
  obtain ⟨Z,hz⟩:∃ Z,Vl.nxt (v.drop a) 3=Z:=⟨_,rfl⟩
  rw [hz] at hc1
  rw [hz]
  have HZ:=Lib.hid hz
  clear hz q0 a0 a1
  cases Z with
  | none =>
   have HCN:=Lib.hid hc1
   clear hc1 hg1
   have HX:Hid (R=none):=Lib.hid (by rw [←HR.out];rw [if_neg (by unfold Vl.okLeaf;rw [HZ.out];decide)])
   simp only [Option.getD_none,Option.isSome_none,Vl.zeroN,Vl.Node.val]
   go_wp2_with fail
   refine (vone_any false _).mono ?_
   rintro e W9 ⟨rfl,rfl⟩
   go_wp2_with fail
   go_ret
   refine ⟨a,by rw [HX.out];rfl,Vl.gb_trans HGN.out (gb_below ?_ _),Vl.Cur.below HCN.out ?_,ha,fun p hp=>by rw [HX.out] at hp;cases hp⟩
   all_goals exact (Below.refl _ _).alloc (Nat.le_refl _) _
  | some nd =>
   have HCN:=Lib.hid hc1
   obtain ⟨n0,n1,n2,n3⟩:=nd
   clear hc1 hg1
   simp only [Option.getD_some,Option.isSome_some,Vl.Node.val,if_true] at HCN ⊢
   have hlt:a<v.length:=by
    by_cases h:a<v.length
    ·exact h
    ·exfalso
     have h1:=HZ.out
     rw [List.drop_of_length_le (by omega)] at h1
     cases h1
   go_upto_region 10 with (fail)
   refine wp_named (fun V2 hV=>?_)
   obtain ⟨hb2,hq2,-⟩:=fresh_box hV
   clear hV
   have HE2:=Lib.hid (HEN.out.below hb2)
   have HC2:=Lib.hid (HCN.out.below hb2)
   have HG2:=Lib.hid (Vl.gb_trans HGN.out (gb_below hb2 _))
   have HQt2:=Lib.hid (HQ1.out.below hb2 HQ1.out.lt)
   have HQn2:=Lib.hid hq2
   have hnb:V1.heap.size<V2.heap.size:=hq2.lt
   obtain ⟨⟨p0,p1,p2,p3⟩,-⟩:=hq2.k4
   obtain ⟨q0,-⟩:=HQt2.out.k1
   clear hb2 hq2 HEN HCN HGN HQ1
   obtain ⟨B,HBB⟩:∃ B,Hid (Vl.bare ⟨n0,n1,n2,n3⟩ true false false=B):=⟨_,Lib.hid rfl⟩
   go_wp2_with fail
   refine (vbare_any ⟨n0,n1,n2,n3⟩ true false false _).mono ?_
   rw [HBB.out]
   rintro e V3 ⟨rfl,hb3⟩
   have HE3:=Lib.hid (HE2.out.below hb3)
   have HC3:=Lib.hid (HC2.out.below hb3)
   have HG3:=Lib.hid (Vl.gb_trans HG2.out (gb_below hb3 _))
   have HQt3:=Lib.hid (HQt2.out.below hb3 HQt2.out.lt)
   have HQn3:=Lib.hid (HQn2.out.below hb3 HQn2.out.lt)
   clear p0 p1 p2 p3 q0
   obtain ⟨⟨p0,p1,p2,p3⟩,-⟩:=HQn3.out.k4
   obtain ⟨q0,-⟩:=HQt3.out.k1
   clear hb3 HE2 HC2 HG2 HQt2 HQn2
   cases B
   case false =>
    have hok:Vl.leafT 3 ⟨n0,n1,n2,n3⟩=false:=HBB.out
    have HX:Hid (R=none):=Lib.hid (by rw [←HR.out,if_neg (by unfold Vl.okLeaf;rw [HZ.out];simp only;rw [hok];decide)])
    go_wp2_with fail
    refine (vone_any false _).mono ?_
    rintro e W9 ⟨rfl,rfl⟩
    go_wp2_with fail
    go_ret
    exact ⟨a+1,by rw [HX.out];rfl,HG3.out,HC3.out,by omega,fun p hp=>by rw [HX.out] at hp;cases hp⟩
   have hok:Vl.leafT 3 ⟨n0,n1,n2,n3⟩=true:=HBB.out
   have HX:Hid (R=some (1,v.drop (a+1))):=Lib.hid (by rw [←HR.out,if_pos (by unfold Vl.okLeaf;rw [HZ.out];exact hok),List.drop_drop])
   go_wp2_with fail
   refine (vone_any true _).mono ?_
   rintro e W9 ⟨rfl,rfl⟩
   go_wp2_with fail
   go_ret
   exact ⟨a+1,by rw [HX.out];rfl,HG3.out,HC3.out,by omega,fun p hp=>by rw [HX.out] at hp;injection hp with hp;rw [←hp]⟩
 by_cases h4:xk=4
 case pos =>
  subst h4
  rw [Vl.of_leafT (x:=⟨4,xn⟩) (by simp)] at HR
  clear HIH HTT
  go_wp2_with fail
  refine (vnext_any b a vs (Vl.fndV g) v 4 w0 V HV.out HEV.out.bel HEV.out.lo HCV.out ha hl).mono ?_
  rintro e V1 ⟨rfl,hg1,hc1⟩
  have HEN:=Lib.hid (HEV.out.grown hg1)
  have HGN:=Lib.hid (Vl.gb_trans HGV.out hg1)
  have HQ1:Hid (Bk V1 w.heap.size 45 #[.slice (some ⟨g7,off7,none⟩) n c]):=Lib.hid (HQ.out.grown hg1 (by intro e;injection e with e;exact hbr e.symm))
  unfold Vl.nxtTo at hc1
  obtain ⟨Z,hz⟩:∃ Z,Vl.nxt (v.drop a) 4=Z:=⟨_,rfl⟩
  rw [hz] at hc1
  rw [hz]
  have HZ:=Lib.hid hz
  clear hz q0 a0 a1
  cases Z with
  | none =>
   have HCN:=Lib.hid hc1
   clear hc1 hg1
   have HX:Hid (R=none):=Lib.hid (by rw [←HR.out];rw [if_neg (by unfold Vl.okLeaf;rw [HZ.out];decide)])
   simp only [Option.getD_none,Option.isSome_none,Vl.zeroN,Vl.Node.val]
   go_wp2_with fail
   refine (vone_any false _).mono ?_
   rintro e W9 ⟨rfl,rfl⟩
   go_wp2_with fail
   go_ret
   refine ⟨a,by rw [HX.out];rfl,Vl.gb_trans HGN.out (gb_below ?_ _),Vl.Cur.below HCN.out ?_,ha,fun p hp=>by rw [HX.out] at hp;cases hp⟩
   all_goals exact (Below.refl _ _).alloc (Nat.le_refl _) _
  | some nd =>
   have HCN:=Lib.hid hc1
   obtain ⟨n0,n1,n2,n3⟩:=nd
   clear hc1 hg1
   simp only [Option.getD_some,Option.isSome_some,Vl.Node.val,if_true] at HCN ⊢
   have hlt:a<v.length:=by
    by_cases h:a<v.length
    ·exact h
    ·exfalso
     have h1:=HZ.out
     rw [List.drop_of_length_le (by omega)] at h1
     cases h1
   go_upto_region 13 with (fail)
   refine wp_named (fun V2 hV=>?_)
   obtain ⟨hb2,hq2,-⟩:=fresh_box hV
   clear hV
   have HE2:=Lib.hid (HEN.out.below hb2)
   have HC2:=Lib.hid (HCN.out.below hb2)
   have HG2:=Lib.hid (Vl.gb_trans HGN.out (gb_below hb2 _))
   have HQt2:=Lib.hid (HQ1.out.below hb2 HQ1.out.lt)
   have HQn2:=Lib.hid hq2
   have hnb:V1.heap.size<V2.heap.size:=hq2.lt
   obtain ⟨⟨p0,p1,p2,p3⟩,-⟩:=hq2.k4
   obtain ⟨q0,-⟩:=HQt2.out.k1
   clear hb2 hq2 HEN HCN HGN HQ1
   obtain ⟨B,HBB⟩:∃ B,Hid (Vl.bare ⟨n0,n1,n2,n3⟩ false true false=B):=⟨_,Lib.hid rfl⟩
   go_wp2_with fail
   refine (vbare_any ⟨n0,n1,n2,n3⟩ false true false _).mono ?_
   rw [HBB.out]
   rintro e V3 ⟨rfl,hb3⟩
   have HE3:=Lib.hid (HE2.out.below hb3)
   have HC3:=Lib.hid (HC2.out.below hb3)
   have HG3:=Lib.hid (Vl.gb_trans HG2.out (gb_below hb3 _))
   have HQt3:=Lib.hid (HQt2.out.below hb3 HQt2.out.lt)
   have HQn3:=Lib.hid (HQn2.out.below hb3 HQn2.out.lt)
   clear p0 p1 p2 p3 q0
   obtain ⟨⟨p0,p1,p2,p3⟩,-⟩:=HQn3.out.k4
   obtain ⟨q0,-⟩:=HQt3.out.k1
   clear hb3 HE2 HC2 HG2 HQt2 HQn2
   cases B
   case false =>
    have hok:Vl.leafT 4 ⟨n0,n1,n2,n3⟩=false:=HBB.out
    have HX:Hid (R=none):=Lib.hid (by rw [←HR.out,if_neg (by unfold Vl.okLeaf;rw [HZ.out];simp only;rw [hok];decide)])
    go_wp2_with fail
    refine (vone_any false _).mono ?_
    rintro e W9 ⟨rfl,rfl⟩
    go_wp2_with fail
    go_ret
    exact ⟨a+1,by rw [HX.out];rfl,HG3.out,HC3.out,by omega,fun p hp=>by rw [HX.out] at hp;cases hp⟩
   have hok:Vl.leafT 4 ⟨n0,n1,n2,n3⟩=true:=HBB.out
   have HX:Hid (R=some (1,v.drop (a+1))):=Lib.hid (by rw [←HR.out,if_pos (by unfold Vl.okLeaf;rw [HZ.out];exact hok),List.drop_drop])
   go_wp2_with fail
   refine (vone_any true _).mono ?_
   rintro e W9 ⟨rfl,rfl⟩
   go_wp2_with fail
   go_ret
   exact ⟨a+1,by rw [HX.out];rfl,HG3.out,HC3.out,by omega,fun p hp=>by rw [HX.out] at hp;injection hp with hp;rw [←hp]⟩
 by_cases h5:xk=5
 case pos =>
  subst h5
  rw [Vl.of_wrapT (x:=⟨5,xn⟩) (by simp)] at HR
  have HOT:Hid (Chk.okT s t=true):=Lib.hid (Vl.okT_tail HTT.out (by simp))
  go_wp2_with fail
  refine (vnext_any b a vs (Vl.fndV g) v 5 w0 V HV.out HEV.out.bel HEV.out.lo HCV.out ha hl).mono ?_
  rintro e V1 ⟨rfl,hg1,hc1⟩
  have HEN:=Lib.hid (HEV.out.grown hg1)
  have HGN:=Lib.hid (Vl.gb_trans HGV.out hg1)
  have HQ1:Hid (Bk V1 w.heap.size 45 #[.slice (some ⟨g7,off7,none⟩) n c]):=Lib.hid (HQ.out.grown hg1 (by intro e;injection e with e;exact hbr e.symm))
  unfold Vl.nxtTo at hc1
  obtain ⟨Z,hz⟩:∃ Z,Vl.nxt (v.drop a) 5=Z:=⟨_,rfl⟩
  rw [hz] at hc1
  rw [hz]
  have HZ:=Lib.hid hz
  clear hz q0 a0 a1
  cases Z with
  | none =>
   have HCN:=Lib.hid hc1
   clear hc1 hg1
   have HX:Hid (R=none):=Lib.hid (by rw [←HR.out];have h:Vl.okWrap (v.drop a) 5=none:=(by unfold Vl.okWrap;rw [HZ.out]);rw [h])
   simp only [Option.getD_none,Option.isSome_none,Vl.zeroN,Vl.Node.val]
   go_upto_region 16 with (fail)
   go_quiet (fail)
   go_wp2_with fail
   go_ret
   refine ⟨a,by rw [HX.out];rfl,Vl.gb_trans HGN.out (gb_below ?_ _),Vl.Cur.below HCN.out ?_,ha,fun p hp=>by rw [HX.out] at hp;cases hp⟩
   all_goals exact below_drewN ((Below.refl _ _).alloc (Nat.le_refl _) _) _
  | some nd =>
   have HCN:=Lib.hid hc1
   obtain ⟨n0,n1,n2,n3⟩:=nd
   clear hc1 hg1
   simp only [Option.getD_some,Option.isSome_some,Vl.Node.val,if_true] at HCN ⊢
   have hlt:a<v.length:=by
    by_cases h:a<v.length
    ·exact h
    ·exfalso
     have h1:=HZ.out
     rw [List.drop_of_length_le (by omega)] at h1
     cases h1
   go_upto_region 16 with (fail)
   refine wp_named (fun V2 hV=>?_)
   obtain ⟨hb2,hq2,-⟩:=fresh_box hV
   clear hV
   have HE2:=Lib.hid (HEN.out.below hb2)
   have HC2:=Lib.hid (HCN.out.below hb2)
   have HG2:=Lib.hid (Vl.gb_trans HGN.out (gb_below hb2 _))
   have HQt2:=Lib.hid (HQ1.out.below hb2 HQ1.out.lt)
   have HQn2:=Lib.hid hq2
   have hnb:V1.heap.size<V2.heap.size:=hq2.lt
   obtain ⟨⟨p0,p1,p2,p3⟩,-⟩:=hq2.k4
   obtain ⟨q0,-⟩:=HQt2.out.k1
   clear hb2 hq2 HEN HCN HGN HQ1
   obtain ⟨B,HBB⟩:∃ B,Hid (Vl.bare ⟨n0,n1,n2,n3⟩ false false true=B):=⟨_,Lib.hid rfl⟩
   have HNO:Hid (¬(Vl.bare ⟨n0,n1,n2,n3⟩ false false true=true∧0≤n3∧n3≤((v.length - (a+1):Nat):Int))→R=none):=Lib.hid (fun h=>by rw [←HR.out];have h2:Vl.okWrap (v.drop a) 5=none:=(by unfold Vl.okWrap;rw [HZ.out];simp only;rw [if_neg];rw [if_neg (by decide),List.length_drop,Nat.sub_sub];exact h);rw [h2])
   obtain ⟨A9,N9,C9,hvs⟩:=ERow.is HV.out
   have hNv:N9=v.length:=by have h:=HV.out;rw [hvs] at h;obtain ⟨_,_,e,_⟩:=ERow.slice h;injection e
   have HVS:=Lib.hid hvs
   have HNV:=Lib.hid hNv
   have hN9:N9≤100000∧a<N9:=by rw [hNv];exact ⟨hl,hlt⟩
   have hwr:IntKind.i64.wrap ((N9:Int) - ((a:Int)+1))=(N9:Int) - ((a:Int)+1):=by unfold IntKind.wrap;simp [IntKind.bits,IntKind.signed];omega
   clear hvs hNv
   have hcb:∀ W,Bl V2 W→Calls Tryz.prog 114 #[.agg #[.int .u8 n0,.int .i64 n1,.string n2,.int .i64 n3],.bool false,.bool false,.bool true] W fun e w'=>e=.returned (.bool B)∧Bl V2 w':=fun W hW=>by have h:=calls_bl hW (vbare_any ⟨n0,n1,n2,n3⟩ false false true W);rw [HBB.out] at h;exact h
   have HCB:=Lib.hid hcb
   clear hcb
   cases B
   case false =>
    have HX:Hid (R=none):=Lib.hid (HNO.out (by rw [HBB.out];exact fun h=>by cases h.1))
    clear HNO
    have dN:∀ w',Bl V2 w'→Bk w' V1.heap.size 71 #[.int .u8 n0,.int .i64 n1,.string n2,.int .i64 n3]:=fun w' hb=>HQn2.out.below hb HQn2.out.lt
    have dN3:=fun (w':World) (hb:Bl V2 w')=>(Bk.k4 (HQn2.out.below hb HQn2.out.lt)).1.2.2.2
    have dC0:=fun (w':World) (hb:Bl V2 w')=>(Bk.k3 (show Bk w' b 106 #[.slice A9 N9 C9,.int .i64 (a+1:Nat),Vl.fndV g] from by have h:=Vl.Cur.below HC2.out hb;rw [HVS.out] at h;exact h)).1.1
    have dC1:=fun (w':World) (hb:Bl V2 w')=>(Bk.k3 (show Bk w' b 106 #[.slice A9 N9 C9,.int .i64 (a+1:Nat),Vl.fndV g] from by have h:=Vl.Cur.below HC2.out hb;rw [HVS.out] at h;exact h)).1.2.1
    clear p0 p1 p2 p3 q0
    refine wp_region_bl V2 (by kernel_rfl) (by kernel_rfl) (Bl.refl _) ?_
    repeat (first | go_big_quiet_step ((intro hb;exact HCB.out _ hb)) | (refine wpQuiet_step (fun K hK=>?_);rw [if_pos (by rfl)];refine quiet_load_row _ _ rfl _ rfl _ _ _ (by assumption) Tryz.underlying71 rfl (by kernel_rfl) ?_;go_simp;refine hK _ ?_;clear hK K) | (refine wpQuiet_step (fun K hK=>?_);rw [if_pos (by rfl)];refine Lst.load_cell _ _ rfl _ rfl _ (by assumption) _ Tryz.underlying3 rfl ?_;go_simp;refine hK _ ?_;clear hK K) | (refine wpQuiet_step (fun K hK=>?_);rw [if_pos (by rfl)];refine Lst.load_cell _ _ rfl _ rfl _ (by assumption) _ Tryz.underlying23 rfl ?_;go_simp;refine hK _ ?_;clear hK K) | (refine wpQuiet_step (fun K hK=>?_);go_simp;refine ⟨_,fun _ _=>rfl,hK _ ?_⟩;clear hK K))
    refine wpQuiet_nil ?_
    intro V3 hb3
    clear dN dN3 dC0 dC1
    obtain ⟨⟨p0,p1,p2,p3⟩,-⟩:=HQn2.out.k4
    obtain ⟨q0,-⟩:=HQt2.out.k1
    have HE3:=Lib.hid (HE2.out.below hb3)
    have HC3:=Lib.hid (HC2.out.below hb3)
    have HG3:=Lib.hid (Vl.gb_trans HG2.out (gb_below hb3 _))
    have HQt3:=Lib.hid (HQt2.out.below hb3 HQt2.out.lt)
    have HQn3:=Lib.hid (HQn2.out.below hb3 HQn2.out.lt)
    clear p0 p1 p2 p3 q0
    obtain ⟨⟨p0,p1,p2,p3⟩,-⟩:=HQn3.out.k4
    obtain ⟨q0,-⟩:=HQt3.out.k1
    clear hb3 HE2 HC2 HG2 HQt2 HQn2
    go_wp2_with fail
    go_ret
    exact ⟨a+1,by rw [HX.out];rfl,HG3.out,HC3.out,by omega,fun p hp=>by rw [HX.out] at hp;cases hp⟩
   by_cases hk0:0≤n3
   case neg =>
    have HX:Hid (R=none):=Lib.hid (HNO.out (fun h=>hk0 h.2.1))
    clear HNO
    have t1:n3<0:=by omega
    have dN:∀ w',Bl V2 w'→Bk w' V1.heap.size 71 #[.int .u8 n0,.int .i64 n1,.string n2,.int .i64 n3]:=fun w' hb=>HQn2.out.below hb HQn2.out.lt
    have dN3:=fun (w':World) (hb:Bl V2 w')=>(Bk.k4 (HQn2.out.below hb HQn2.out.lt)).1.2.2.2
    have dC0:=fun (w':World) (hb:Bl V2 w')=>(Bk.k3 (show Bk w' b 106 #[.slice A9 N9 C9,.int .i64 (a+1:Nat),Vl.fndV g] from by have h:=Vl.Cur.below HC2.out hb;rw [HVS.out] at h;exact h)).1.1
    have dC1:=fun (w':World) (hb:Bl V2 w')=>(Bk.k3 (show Bk w' b 106 #[.slice A9 N9 C9,.int .i64 (a+1:Nat),Vl.fndV g] from by have h:=Vl.Cur.below HC2.out hb;rw [HVS.out] at h;exact h)).1.2.1
    clear p0 p1 p2 p3 q0
    refine wp_region_bl V2 (by kernel_rfl) (by kernel_rfl) (Bl.refl _) ?_
    repeat (first | go_big_quiet_step ((intro hb;exact HCB.out _ hb)) | (refine wpQuiet_step (fun K hK=>?_);rw [if_pos (by rfl)];refine quiet_load_row _ _ rfl _ rfl _ _ _ (by assumption) Tryz.underlying71 rfl (by kernel_rfl) ?_;go_simp;refine hK _ ?_;clear hK K) | (refine wpQuiet_step (fun K hK=>?_);rw [if_pos (by rfl)];refine Lst.load_cell _ _ rfl _ rfl _ (by assumption) _ Tryz.underlying3 rfl ?_;go_simp;refine hK _ ?_;clear hK K) | (refine wpQuiet_step (fun K hK=>?_);rw [if_pos (by rfl)];refine Lst.load_cell _ _ rfl _ rfl _ (by assumption) _ Tryz.underlying23 rfl ?_;go_simp;refine hK _ ?_;clear hK K) | (refine wpQuiet_step (fun K hK=>?_);go_simp;refine ⟨_,fun _ _=>rfl,hK _ ?_⟩;clear hK K))
    refine wpQuiet_nil ?_
    intro V3 hb3
    clear dN dN3 dC0 dC1
    obtain ⟨⟨p0,p1,p2,p3⟩,-⟩:=HQn2.out.k4
    obtain ⟨q0,-⟩:=HQt2.out.k1
    have HE3:=Lib.hid (HE2.out.below hb3)
    have HC3:=Lib.hid (HC2.out.below hb3)
    have HG3:=Lib.hid (Vl.gb_trans HG2.out (gb_below hb3 _))
    have HQt3:=Lib.hid (HQt2.out.below hb3 HQt2.out.lt)
    have HQn3:=Lib.hid (HQn2.out.below hb3 HQn2.out.lt)
    clear p0 p1 p2 p3 q0
    obtain ⟨⟨p0,p1,p2,p3⟩,-⟩:=HQn3.out.k4
    obtain ⟨q0,-⟩:=HQt3.out.k1
    clear hb3 HE2 HC2 HG2 HQt2 HQn2
    go_wp2_with fail
    go_ret
    exact ⟨a+1,by rw [HX.out];rfl,HG3.out,HC3.out,by omega,fun p hp=>by rw [HX.out] at hp;cases hp⟩
   obtain ⟨d,rfl⟩:∃ d:Nat,n3=d:=⟨n3.toNat,by omega⟩
   by_cases hk1:d≤v.length - (a+1)
   case neg =>
    have HX:Hid (R=none):=Lib.hid (HNO.out (fun h=>by have:=h.2.2;omega))
    clear HNO
    have t1:(N9:Int) - ((a+1:Nat):Int)<(d:Int):=by have:=HNV.out;omega
    have t2:(N9:Int) - ((a:Int)+1)<(d:Int):=by have:=HNV.out;omega
    have t0:¬(d:Int)<0:=by omega
    have dN:∀ w',Bl V2 w'→Bk w' V1.heap.size 71 #[.int .u8 n0,.int .i64 n1,.string n2,.int .i64 (d:Int)]:=fun w' hb=>HQn2.out.below hb HQn2.out.lt
    have dN3:=fun (w':World) (hb:Bl V2 w')=>(Bk.k4 (HQn2.out.below hb HQn2.out.lt)).1.2.2.2
    have dC0:=fun (w':World) (hb:Bl V2 w')=>(Bk.k3 (show Bk w' b 106 #[.slice A9 N9 C9,.int .i64 (a+1:Nat),Vl.fndV g] from by have h:=Vl.Cur.below HC2.out hb;rw [HVS.out] at h;exact h)).1.1
    have dC1:=fun (w':World) (hb:Bl V2 w')=>(Bk.k3 (show Bk w' b 106 #[.slice A9 N9 C9,.int .i64 (a+1:Nat),Vl.fndV g] from by have h:=Vl.Cur.below HC2.out hb;rw [HVS.out] at h;exact h)).1.2.1
    clear p0 p1 p2 p3 q0
    refine wp_region_bl V2 (by kernel_rfl) (by kernel_rfl) (Bl.refl _) ?_
    repeat (first | go_big_quiet_step ((intro hb;exact HCB.out _ hb)) | (refine wpQuiet_step (fun K hK=>?_);rw [if_pos (by rfl)];refine quiet_load_row _ _ rfl _ rfl _ _ _ (by assumption) Tryz.underlying71 rfl (by kernel_rfl) ?_;go_simp;refine hK _ ?_;clear hK K) | (refine wpQuiet_step (fun K hK=>?_);rw [if_pos (by rfl)];refine Lst.load_cell _ _ rfl _ rfl _ (by assumption) _ Tryz.underlying3 rfl ?_;go_simp;refine hK _ ?_;clear hK K) | (refine wpQuiet_step (fun K hK=>?_);rw [if_pos (by rfl)];refine Lst.load_cell _ _ rfl _ rfl _ (by assumption) _ Tryz.underlying23 rfl ?_;go_simp;refine hK _ ?_;clear hK K) | (refine wpQuiet_step (fun K hK=>?_);go_simp;refine ⟨_,fun _ _=>rfl,hK _ ?_⟩;clear hK K))
    refine wpQuiet_nil ?_
    intro V3 hb3
    clear dN dN3 dC0 dC1
    obtain ⟨⟨p0,p1,p2,p3⟩,-⟩:=HQn2.out.k4
    obtain ⟨q0,-⟩:=HQt2.out.k1
    have HE3:=Lib.hid (HE2.out.below hb3)
    have HC3:=Lib.hid (HC2.out.below hb3)
    have HG3:=Lib.hid (Vl.gb_trans HG2.out (gb_below hb3 _))
    have HQt3:=Lib.hid (HQt2.out.below hb3 HQt2.out.lt)
    have HQn3:=Lib.hid (HQn2.out.below hb3 HQn2.out.lt)
    clear p0 p1 p2 p3 q0
    obtain ⟨⟨p0,p1,p2,p3⟩,-⟩:=HQn3.out.k4
    obtain ⟨q0,-⟩:=HQt3.out.k1
    clear hb3 HE2 HC2 HG2 HQt2 HQn2
    go_wp2_with fail
    go_ret
    exact ⟨a+1,by rw [HX.out];rfl,HG3.out,HC3.out,by omega,fun p hp=>by rw [HX.out] at hp;cases hp⟩
   have t1:¬(N9:Int) - ((a+1:Nat):Int)<(d:Int):=by have:=HNV.out;omega
   have t2:¬(N9:Int) - ((a:Int)+1)<(d:Int):=by have:=HNV.out;omega
   have t0:¬(d:Int)<0:=by omega
   have HX:Hid (Vl.up (Vl.manyF (Vl.ofF s none k) (List.replicate d t) 0 (v.drop (a+1)))=R):=Lib.hid (by rw [←HR.out];have h2:Vl.okWrap (v.drop a) 5=some d:=(by unfold Vl.okWrap;rw [HZ.out];simp only;rw [if_pos ⟨HBB.out,hk0,by rw [if_neg (by decide),List.length_drop];omega⟩,Int.toNat_natCast]);rw [h2];simp only;rw [List.drop_drop])
   clear HNO
   have dN:∀ w',Bl V2 w'→Bk w' V1.heap.size 71 #[.int .u8 n0,.int .i64 n1,.string n2,.int .i64 (d:Int)]:=fun w' hb=>HQn2.out.below hb HQn2.out.lt
   have dN3:=fun (w':World) (hb:Bl V2 w')=>(Bk.k4 (HQn2.out.below hb HQn2.out.lt)).1.2.2.2
   have dC0:=fun (w':World) (hb:Bl V2 w')=>(Bk.k3 (show Bk w' b 106 #[.slice A9 N9 C9,.int .i64 (a+1:Nat),Vl.fndV g] from by have h:=Vl.Cur.below HC2.out hb;rw [HVS.out] at h;exact h)).1.1
   have dC1:=fun (w':World) (hb:Bl V2 w')=>(Bk.k3 (show Bk w' b 106 #[.slice A9 N9 C9,.int .i64 (a+1:Nat),Vl.fndV g] from by have h:=Vl.Cur.below HC2.out hb;rw [HVS.out] at h;exact h)).1.2.1
   clear p0 p1 p2 p3 q0
   refine wp_region_bl V2 (by kernel_rfl) (by kernel_rfl) (Bl.refl _) ?_
   repeat (first | go_big_quiet_step ((intro hb;exact HCB.out _ hb)) | (refine wpQuiet_step (fun K hK=>?_);rw [if_pos (by rfl)];refine quiet_load_row _ _ rfl _ rfl _ _ _ (by assumption) Tryz.underlying71 rfl (by kernel_rfl) ?_;go_simp;refine hK _ ?_;clear hK K) | (refine wpQuiet_step (fun K hK=>?_);rw [if_pos (by rfl)];refine Lst.load_cell _ _ rfl _ rfl _ (by assumption) _ Tryz.underlying3 rfl ?_;go_simp;refine hK _ ?_;clear hK K) | (refine wpQuiet_step (fun K hK=>?_);rw [if_pos (by rfl)];refine Lst.load_cell _ _ rfl _ rfl _ (by assumption) _ Tryz.underlying23 rfl ?_;go_simp;refine hK _ ?_;clear hK K) | (refine wpQuiet_step (fun K hK=>?_);go_simp;refine ⟨_,fun _ _=>rfl,hK _ ?_⟩;clear hK K))
   refine wpQuiet_nil ?_
   intro V3 hb3
   clear dN dN3 dC0 dC1
   obtain ⟨⟨p0,p1,p2,p3⟩,-⟩:=HQn2.out.k4
   obtain ⟨q0,-⟩:=HQt2.out.k1
   have HE3:=Lib.hid (HE2.out.below hb3)
   have HC3:=Lib.hid (HC2.out.below hb3)
   have HG3:=Lib.hid (Vl.gb_trans HG2.out (gb_below hb3 _))
   have HQt3:=Lib.hid (HQt2.out.below hb3 HQt2.out.lt)
   have HQn3:=Lib.hid (HQn2.out.below hb3 HQn2.out.lt)
   clear p0 p1 p2 p3 q0
   obtain ⟨⟨p0,p1,p2,p3⟩,-⟩:=HQn3.out.k4
   obtain ⟨q0,-⟩:=HQt3.out.k1
   clear hb3 HE2 HC2 HG2 HQt2 HQn2
   go_wp2_with fail
   refine (vmany_any s v vs w0 b g m k hl HIH.out (List.replicate d t) (fun u hu=>by rw [List.eq_of_mem_replicate hu];exact ⟨HOT.out,by have:=HLT.out;omega⟩) d (by rw [List.length_replicate]) (by omega) (a+1) (by omega) (by omega) _ (fun _ _=>rfl) #[.pointer (some ⟨w.heap.size,0,none⟩)] V3 HE3.out HC3.out (fun i hi w' hg=>?_)).mono ?_
   ·rw [List.length_replicate] at hi
    simp only [List.getElem_replicate]
    exact vof1_any ⟨5,xn⟩ t (Vl.okT_ne HOT.out) w.heap.size _ w0 w' _ HS.out (HQt3.out.grown hg (by intro e;injection e with e;exact hbr e.symm))
   rw [HX.out]
   rintro e V4 ⟨a2,rfl,hg4,hc4,ha4,hp4⟩
   go_wp2_with fail
   go_ret
   exact ⟨a2,rfl,Vl.gb_trans HG3.out hg4,hc4,ha4,hp4⟩
 by_cases h6:xk=6
 case pos =>
  subst h6
  rw [Vl.of_wrapT (x:=⟨6,xn⟩) (by simp)] at HR
  have HOT:Hid (Chk.okT s t=true):=Lib.hid (Vl.okT_tail HTT.out (by simp))
  go_wp2_with fail
  refine (vnext_any b a vs (Vl.fndV g) v 6 w0 V HV.out HEV.out.bel HEV.out.lo HCV.out ha hl).mono ?_
  rintro e V1 ⟨rfl,hg1,hc1⟩
  have HEN:=Lib.hid (HEV.out.grown hg1)
  have HGN:=Lib.hid (Vl.gb_trans HGV.out hg1)
  have HQ1:Hid (Bk V1 w.heap.size 45 #[.slice (some ⟨g7,off7,none⟩) n c]):=Lib.hid (HQ.out.grown hg1 (by intro e;injection e with e;exact hbr e.symm))
  unfold Vl.nxtTo at hc1
  obtain ⟨Z,hz⟩:∃ Z,Vl.nxt (v.drop a) 6=Z:=⟨_,rfl⟩
  rw [hz] at hc1
  rw [hz]
  have HZ:=Lib.hid hz
  clear hz q0 a0 a1
  cases Z with
  | none =>
   have HCN:=Lib.hid hc1
   clear hc1 hg1
   have HX:Hid (R=none):=Lib.hid (by rw [←HR.out];have h:Vl.okWrap (v.drop a) 6=none:=(by unfold Vl.okWrap;rw [HZ.out]);rw [h])
   simp only [Option.getD_none,Option.isSome_none,Vl.zeroN,Vl.Node.val]
   go_wp2_with fail
   go_ret
   refine ⟨a,by rw [HX.out];rfl,Vl.gb_trans HGN.out (gb_below ?_ _),Vl.Cur.below HCN.out ?_,ha,fun p hp=>by rw [HX.out] at hp;cases hp⟩
   all_goals exact (Below.refl _ _).alloc (Nat.le_refl _) _
  | some nd =>
   have HCN:=Lib.hid hc1
   obtain ⟨n0,n1,n2,n3⟩:=nd
   clear hc1 hg1
   simp only [Option.getD_some,Option.isSome_some,Vl.Node.val,if_true] at HCN ⊢
   have hlt:a<v.length:=by
    by_cases h:a<v.length
    ·exact h
    ·exfalso
     have h1:=HZ.out
     rw [List.drop_of_length_le (by omega)] at h1
     cases h1
   go_upto_region 21 with (fail)
   refine wp_named (fun V2 hV=>?_)
   obtain ⟨hb2,hq2,-⟩:=fresh_box hV
   clear hV
   have HE2:=Lib.hid (HEN.out.below hb2)
   have HC2:=Lib.hid (HCN.out.below hb2)
   have HG2:=Lib.hid (Vl.gb_trans HGN.out (gb_below hb2 _))
   have HQt2:=Lib.hid (HQ1.out.below hb2 HQ1.out.lt)
   have HQn2:=Lib.hid hq2
   have hnb:V1.heap.size<V2.heap.size:=hq2.lt
   obtain ⟨⟨p0,p1,p2,p3⟩,-⟩:=hq2.k4
   obtain ⟨q0,-⟩:=HQt2.out.k1
   clear hb2 hq2 HEN HCN HGN HQ1
   obtain ⟨B,HBB⟩:∃ B,Hid (Vl.bare ⟨n0,n1,n2,n3⟩ false false true=B):=⟨_,Lib.hid rfl⟩
   have HNO:Hid (¬(Vl.bare ⟨n0,n1,n2,n3⟩ false false true=true∧0≤n3∧n3≤1)→R=none):=Lib.hid (fun h=>by rw [←HR.out];have h2:Vl.okWrap (v.drop a) 6=none:=(by unfold Vl.okWrap;rw [HZ.out];simp only;rw [if_neg];simp only [if_true];exact h);rw [h2])
   cases B
   case false =>
    have HX:Hid (R=none):=Lib.hid (HNO.out (by rw [HBB.out];exact fun h=>by cases h.1))
    clear HNO
    go_wp2_with fail
    refine (vbare_any ⟨n0,n1,n2,n3⟩ false false true _).mono ?_
    rw [HBB.out]
    rintro e V3 ⟨rfl,hb3⟩
    have HE3:=Lib.hid (HE2.out.below hb3)
    have HC3:=Lib.hid (HC2.out.below hb3)
    have HG3:=Lib.hid (Vl.gb_trans HG2.out (gb_below hb3 _))
    have HQt3:=Lib.hid (HQt2.out.below hb3 HQt2.out.lt)
    have HQn3:=Lib.hid (HQn2.out.below hb3 HQn2.out.lt)
    clear p0 p1 p2 p3 q0
    obtain ⟨⟨p0,p1,p2,p3⟩,-⟩:=HQn3.out.k4
    obtain ⟨q0,-⟩:=HQt3.out.k1
    clear hb3 HE2 HC2 HG2 HQt2 HQn2
    go_wp2_with fail
    go_ret
    exact ⟨a+1,by rw [HX.out];rfl,HG3.out,HC3.out,by omega,fun p hp=>by rw [HX.out] at hp;cases hp⟩
   by_cases hk0:0≤n3
   case neg =>
    have HX:Hid (R=none):=Lib.hid (HNO.out (fun h=>hk0 h.2.1))
    clear HNO
    have t1:n3<0:=by omega
    go_wp2_with fail
    refine (vbare_any ⟨n0,n1,n2,n3⟩ false false true _).mono ?_
    rw [HBB.out]
    rintro e V3 ⟨rfl,hb3⟩
    have HE3:=Lib.hid (HE2.out.below hb3)
    have HC3:=Lib.hid (HC2.out.below hb3)
    have HG3:=Lib.hid (Vl.gb_trans HG2.out (gb_below hb3 _))
    have HQt3:=Lib.hid (HQt2.out.below hb3 HQt2.out.lt)
    have HQn3:=Lib.hid (HQn2.out.below hb3 HQn2.out.lt)
    clear p0 p1 p2 p3 q0
    obtain ⟨⟨p0,p1,p2,p3⟩,-⟩:=HQn3.out.k4
    obtain ⟨q0,-⟩:=HQt3.out.k1
    clear hb3 HE2 HC2 HG2 HQt2 HQn2
    go_wp2_with fail
    go_ret
    exact ⟨a+1,by rw [HX.out];rfl,HG3.out,HC3.out,by omega,fun p hp=>by rw [HX.out] at hp;cases hp⟩
   obtain ⟨d,rfl⟩:∃ d:Nat,n3=d:=⟨n3.toNat,by omega⟩
   by_cases hk1:d≤1
   case neg =>
    have HX:Hid (R=none):=Lib.hid (HNO.out (fun h=>by have:=h.2.2;omega))
    clear HNO
    have t1:(1:Int)<(d:Int):=by omega
    go_wp2_with fail
    refine (vbare_any ⟨n0,n1,n2,(d:Int)⟩ false false true _).mono ?_
    rw [HBB.out]
    rintro e V3 ⟨rfl,hb3⟩
    have HE3:=Lib.hid (HE2.out.below hb3)
    have HC3:=Lib.hid (HC2.out.below hb3)
    have HG3:=Lib.hid (Vl.gb_trans HG2.out (gb_below hb3 _))
    have HQt3:=Lib.hid (HQt2.out.below hb3 HQt2.out.lt)
    have HQn3:=Lib.hid (HQn2.out.below hb3 HQn2.out.lt)
    clear p0 p1 p2 p3 q0
    obtain ⟨⟨p0,p1,p2,p3⟩,-⟩:=HQn3.out.k4
    obtain ⟨q0,-⟩:=HQt3.out.k1
    clear hb3 HE2 HC2 HG2 HQt2 HQn2
    go_wp2_with fail
    go_ret
    exact ⟨a+1,by rw [HX.out];rfl,HG3.out,HC3.out,by omega,fun p hp=>by rw [HX.out] at hp;cases hp⟩
   have t1:¬(1:Int)<(d:Int):=by omega
   have t2:¬1<d:=by omega
   have HX:Hid (Vl.up (Vl.manyF (Vl.ofF s none k) (List.replicate d t) 0 (v.drop (a+1)))=R):=Lib.hid (by rw [←HR.out];have h2:Vl.okWrap (v.drop a) 6=some d:=(by unfold Vl.okWrap;rw [HZ.out];simp only;rw [if_pos ⟨HBB.out,hk0,by first | (rw [if_pos rfl];omega) | (simp only [if_true];omega)⟩,Int.toNat_natCast]);rw [h2];simp only;rw [List.drop_drop])
   clear HNO
   go_wp2_with fail
   refine (vbare_any ⟨n0,n1,n2,(d:Int)⟩ false false true _).mono ?_
   rw [HBB.out]
   rintro e V3 ⟨rfl,hb3⟩
   have HE3:=Lib.hid (HE2.out.below hb3)
   have HC3:=Lib.hid (HC2.out.below hb3)
   have HG3:=Lib.hid (Vl.gb_trans HG2.out (gb_below hb3 _))
   have HQt3:=Lib.hid (HQt2.out.below hb3 HQt2.out.lt)
   have HQn3:=Lib.hid (HQn2.out.below hb3 HQn2.out.lt)
   clear p0 p1 p2 p3 q0
   obtain ⟨⟨p0,p1,p2,p3⟩,-⟩:=HQn3.out.k4
   obtain ⟨q0,-⟩:=HQt3.out.k1
   clear hb3 HE2 HC2 HG2 HQt2 HQn2
   go_wp2_with fail
   refine (vmany_any s v vs w0 b g m k hl HIH.out (List.replicate d t) (fun u hu=>by rw [List.eq_of_mem_replicate hu];exact ⟨HOT.out,by have:=HLT.out;omega⟩) d (by rw [List.length_replicate]) (by omega) (a+1) (by omega) (by omega) _ (fun _ _=>rfl) #[.pointer (some ⟨w.heap.size,0,none⟩)] V3 HE3.out HC3.out (fun i hi w' hg=>?_)).mono ?_
   ·rw [List.length_replicate] at hi
    simp only [List.getElem_replicate]
    exact vof2_any ⟨6,xn⟩ t (Vl.okT_ne HOT.out) w.heap.size _ w0 w' _ HS.out (HQt3.out.grown hg (by intro e;injection e with e;exact hbr e.symm))
   rw [HX.out]
   rintro e V4 ⟨a2,rfl,hg4,hc4,ha4,hp4⟩
   go_wp2_with fail
   go_ret
   exact ⟨a2,rfl,Vl.gb_trans HG3.out hg4,hc4,ha4,hp4⟩
 have hk7:xk=7∧t=[]∧(Chk.find s xn).isSome=true:=by rcases HKN.out with h | h | h | h <;> simp only at h <;> first | (exfalso;omega) | exact h
 obtain ⟨rfl,rfl,hsm⟩:=hk7
 rw [Vl.of_recT (x:=⟨7,xn⟩) rfl] at HR
 obtain ⟨⟨rn,rc,rf⟩,hfd⟩:=Option.isSome_iff_exists.1 hsm
 simp only [hfd,Option.getD_some] at HR
 obtain ⟨hrm,hrn⟩:=Vl.find_name hfd
 simp only at hrn
 subst hrn
 have hlr:Vl.lastR s.records rn=⟨rn,rc,rf⟩:=by rw [Vl.lastR_find hRR.out,hfd];rfl
 have HLR:=Lib.hid hlr
 have HRM:=Lib.hid hrm
 have hrz:rn.size≤1000:=by have h:=(Prn.ok_of_right hRR.out).rn _ hrm;have:=Vl.name_size h;simp only at this;omega
 clear h1 h2 h3 h4 h5 h6 hsm hfd hlr hrm HKN HTT
 go_wp2_with fail
 obtain ⟨⟨c0,c1,c2⟩,-⟩:=Bk.k3 (show Bk V b 106 #[vs,.int .i64 a,.func (.func 111) #[] #[.pointer (some ⟨g,0,none⟩)]] from HCV.out)
 have HED:=Lib.hid (HEV.out.below ((Below.refl _ _).drew))
 have HCD:=Lib.hid (HCV.out.below ((Below.refl _ _).drew))
 have HGD:=Lib.hid (Vl.gb_trans HGV.out (gb_below ((Below.refl _ _).drew) _))
 refine wp_region_L_calm (fun w'=>w'.cell? ⟨b,2,none⟩=some (.func (.func 111) #[] #[.pointer (some ⟨g,0,none⟩)])∧w'.cell? ⟨w.heap.size,0,none⟩=some (.slice (some ⟨g7,off7,none⟩) n c)∧w'.cell? ⟨g7,off7+1,none⟩=some (.string rn)) [10] (by kernel_rfl) ⟨c2,q0,a1⟩ (fun hHeld=>?_)
 (refine wpAnyL_take0 0 (v:=?_) rfl (by kernel_rfl) (by kernel_rfl) (by kernel_rfl) (by kernel_rfl) (fun _ _ _ h=>h) (fun _=>by assumption) (by rfl) ?_ ?_;rotate_left;· (intro w;go_simp;try with_reducible rfl);try simp only [Act.put,List.setIfInBounds_toArray,List.set_cons_zero,List.set_cons_succ])
 (refine wpAnyL_take0 1 (v:=?_) rfl (by kernel_rfl) (by kernel_rfl) (by kernel_rfl) (by kernel_rfl) (fun _ _ _ h=>h) (fun _=>by assumption) (by rfl) ?_ ?_;rotate_left;· (intro w;go_simp;try with_reducible rfl);try simp only [Act.put,List.setIfInBounds_toArray,List.set_cons_zero,List.set_cons_succ])
 (refine wpAnyL_take0 2 (v:=?_) rfl (by kernel_rfl) (by kernel_rfl) (by kernel_rfl) (by kernel_rfl) (fun _ _ _ h=>h) (fun _=>by assumption) (by rfl) ?_ ?_;rotate_left;· (intro w;go_simp;try with_reducible rfl);try simp only [Act.put,List.setIfInBounds_toArray,List.set_cons_zero,List.set_cons_succ])
 (refine wpAnyL_take0 3 (v:=?_) rfl (by kernel_rfl) (by kernel_rfl) (by kernel_rfl) (by kernel_rfl) (fun _ _ _ h=>h) (fun _=>by assumption) (by rfl) ?_ ?_;rotate_left;· (intro w;go_simp;try with_reducible rfl);try simp only [Act.put,List.setIfInBounds_toArray,List.set_cons_zero,List.set_cons_succ])
 (refine Lst.takeM 10 4 (v:=?_) rfl (by kernel_rfl) (by kernel_rfl) (by kernel_rfl) (by kernel_rfl) (by kernel_rfl) (by kernel_rfl) (fun _ _ _ h=>h) (by assumption) (by rfl) ?_ ?_;rotate_left;· (intro w hSw;((try dsimp only at hSw);obtain ⟨z0,z1,z2⟩:=hSw);go_simp;try with_reducible rfl);try simp only [Act.put,List.setIfInBounds_toArray,List.set_cons_zero,List.set_cons_succ])
 (refine Lst.takeM 10 5 (v:=?_) rfl (by kernel_rfl) (by kernel_rfl) (by kernel_rfl) (by kernel_rfl) (by kernel_rfl) (by kernel_rfl) (fun _ _ _ h=>h) (by assumption) (by rfl) ?_ ?_;rotate_left;· (intro w hSw;((try dsimp only at hSw);obtain ⟨z0,z1,z2⟩:=hSw);go_simp;try with_reducible rfl);try simp only [Act.put,List.setIfInBounds_toArray,List.set_cons_zero,List.set_cons_succ])
 (refine wpAnyL_take0 6 (v:=?_) rfl (by kernel_rfl) (by kernel_rfl) (by kernel_rfl) (by kernel_rfl) (fun _ _ _ h=>h) (fun _=>by assumption) (by rfl) ?_ ?_;rotate_left;· (intro w;go_simp;try with_reducible rfl);try simp only [Act.put,List.setIfInBounds_toArray,List.set_cons_zero,List.set_cons_succ])
 (refine wpAnyL_take0 7 (v:=?_) rfl (by kernel_rfl) (by kernel_rfl) (by kernel_rfl) (by kernel_rfl) (fun _ _ _ h=>h) (fun _=>by assumption) (by rfl) ?_ ?_;rotate_left;· (intro w;go_simp;try with_reducible rfl);try simp only [Act.put,List.setIfInBounds_toArray,List.set_cons_zero,List.set_cons_succ])
 (refine Lst.takeM 10 8 (v:=?_) rfl (by kernel_rfl) (by kernel_rfl) (by kernel_rfl) (by kernel_rfl) (by kernel_rfl) (by kernel_rfl) (fun _ _ _ h=>h) (by assumption) (by rfl) ?_ ?_;rotate_left;· (intro w hSw;((try dsimp only at hSw);obtain ⟨z0,z1,z2⟩:=hSw);go_simp;try with_reducible rfl);try simp only [Act.put,List.setIfInBounds_toArray,List.set_cons_zero,List.set_cons_succ])
 have HS0:=Lib.hid hHeld
 (try dsimp only at HS0)
 clear hHeld c0 c1 c2 q0 a0 a1
 (refine wpAnyL_step 9 (by kernel_rfl) rfl (fun K hK=>?_))
 go_simp
 have h5:=vfound_any g m s.records rn hrz w0 V.drew HED.out.fnd
 rw [HLR.out] at h5
 simp only at h5
 refine h5.mono ?_
 rintro e W1 ⟨A5,n5,c5,rfl,hfs,hb5⟩
 have HE5:=Lib.hid (HED.out.below hb5)
 have HC5:=Lib.hid (HCD.out.below hb5)
 have HG5:=Lib.hid (Vl.gb_trans HGD.out (gb_below hb5 _))
 have HS5:=Lib.hid hfs
 have hs5:W1.cell? ⟨b,2,none⟩=some (.func (.func 111) #[] #[.pointer (some ⟨g,0,none⟩)])∧W1.cell? ⟨w.heap.size,0,none⟩=some (.slice (some ⟨g7,off7,none⟩) n c)∧W1.cell? ⟨g7,off7+1,none⟩=some (.string rn):=⟨(hb5.cell (World.block_lt_of_cell? _ _ HS0.out.1)).trans HS0.out.1,(hb5.cell (World.block_lt_of_cell? _ _ HS0.out.2.1)).trans HS0.out.2.1,(hb5.cell (World.block_lt_of_cell? _ _ HS0.out.2.2)).trans HS0.out.2.2⟩
 clear h5 hfs hb5
 (refine hK.out _ _ (fun hnn=>hs5) ?_;clear hK K;try simp only [Act.put,List.setIfInBounds_toArray,List.set_cons_zero,List.set_cons_succ])
 clear hs5
 (refine wpAnyL_step 10 (by kernel_rfl) rfl (fun K hK=>?_))
 go_simp
 refine (vnamed_any s v vs w0 b g m k HV.out hl hRR.out HIH.out rn rc rf (.slice A5 n5 c5) HRM.out a ha hlen W1 HE5.out HC5.out HS5.out).mono ?_
 rintro e W2 ⟨a2,rfl,hg6,hc6,ha6,hp6⟩
 rw [HR.out] at hp6 ⊢
 (refine hK.out _ _ (fun hnn=>absurd hnn (by decide)) ?_;clear hK K;try simp only [Act.put,List.setIfInBounds_toArray,List.set_cons_zero,List.set_cons_succ])
 (refine wpAnyL_step 11 (by kernel_rfl) rfl (fun K hK=>?_))
 go_simp
 (refine hK.out _ _ (fun hnn=>absurd hnn (by decide)) ?_;clear hK K;try simp only [Act.put,List.setIfInBounds_toArray,List.set_cons_zero,List.set_cons_succ])
 refine wpAnyL_done (by kernel_rfl) ?_ _
 refine NoPanic.normal ?_
 go_wp2_with fail
 go_ret
 exact ⟨a2,rfl,Vl.gb_trans HG5.out hg6,hc6,ha6,hp6⟩
theorem vof_any (s:Id.Sch) (v:List Vl.Node) (vs:Value) (w0:World) (b g m:Nat) (hv:Vl.ValR w0 none vs v) (hl:v.length≤100000) (hR:Chk.Right s):∀ k,Vl.OfC s v vs w0 b g m k
 | 0=>fun tv t a w ht h12 ha hlen=>absurd hlen (Nat.not_lt_zero _)
 | k+1=>vof_step s v vs w0 b g m k hv hl hR (vof_any s v vs w0 b g m hv hl hR k)
end Go.Proofs.YtjfdohhdkdjifaaGreatDoor
