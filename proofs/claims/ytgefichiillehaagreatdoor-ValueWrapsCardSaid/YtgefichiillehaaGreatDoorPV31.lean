/- the walk of ValueWhole (printed by gen_vlaw.py). No condition but the keywords' table. -/
import Derived.Test.YtgefichiillehaaGreatDoorPV30
set_option linter.unusedVariables false
set_option linter.unusedSimpArgs false
namespace Go.Proofs.YtgefichiillehaaGreatDoor
open Go.RowKit Go.BigFrame
theorem Vl.part0 {W:World} {ad:Addr} {n c:Nat} {v:List Vl.Node} (h:Vl.ValR W none (.slice (some ad) n c) v):Vl.ValR W none (.slice (some ad) (v.length - 1) c) (v.take (v.length - 1)):=by
 have hn:n=v.length:=by obtain ⟨_,_,e,_⟩:=ERow.slice h;injection e
 subst hn
 by_cases h0:v.length=0
 ·obtain rfl:=List.length_eq_zero_iff.1 h0
  exact h
 ·obtain ⟨g,off,cs,e,_⟩:=ERow.get h (i:=0) (by omega) (by omega)
  injection e with e
  subst e
  have h2:=ERow.part (a:=0) (b:=v.length - 1) h (by omega) (by omega)
  simp only [Nat.zero_mul,Nat.add_zero,Nat.sub_zero,List.drop_zero] at h2
  exact h2
set_option maxRecDepth 100000 in
set_option maxHeartbeats 16000000 in
theorem valueWhole_walk (sv:Value) (x:Id.Sch) (tv:Value) (t:List Id.Srt) (vs:Value) (v:List Vl.Node) (nx:Vl.Node) (w0:World) (hv:Id.SchV w0 none sv x) (ht:Id.SortsR w0 none tv t) (hvv:Vl.ValR w0 none vs v) (hok:∀ n ∈ v,Cd.OkN n) (hn:Cd.OkN nx) (w:World) (he:w=w0) (hk:Tk.KW w) :
  Calls Tryz.prog 6 #[sv,tv,vs,.agg #[.int .u8 nx.kind,.int .i64 nx.int,.string nx.text,.int .i64 nx.kids]] w fun e w'=>e=.returned (.bool true)∧Below w.heap.size w w':=by
 subst he
 have HKW:=Lib.hid hk
 clear hk
 obtain ⟨k0,k1,k2,k3⟩:=nx
 simp only
 clear hn
 have HV:=Lib.hid hv
 obtain ⟨A1,n1,c1,A2,n2,c2,A3,n3,c3,rfl,-,-,-⟩:=hv
 have HS:=Lib.hid ht
 obtain ⟨A,n,c,rfl⟩:=ERow.is ht
 have HN:Hid (n=t.length):=Lib.hid (by obtain ⟨_,_,e,_⟩:=ERow.slice ht;injection e)
 clear ht
 have HVV:=Lib.hid hvv
 obtain ⟨A9,n9,c9,rfl⟩:=ERow.is hvv
 have HN9:Hid (n9=v.length):=Lib.hid (by obtain ⟨_,_,e,_⟩:=ERow.slice hvv;injection e)
 clear hvv hok
 have done:∀ W,Below w.heap.size w W→Calls Tryz.prog 16 #[] W fun e w'=>e=.returned (.bool true)∧Below w.heap.size w w':=fun W hW=>(wakes15_any W (HKW.out.below hW)).mono fun _ _ ⟨h1,h2⟩=>⟨h1,hW.trans (h2.mono hW.size)⟩
 have HDN:=Lib.hid done
 clear done
 go_enter Tryz.func6,Tryz.ntmps6
 go_upto_region 1 with (fail)
 refine wp_named (fun V hV=>?_)
 have HL:Hid (Chk.Lx w V #[.string x.name,.slice A1 n1 c1,.slice A2 n2 c2,.slice A3 n3 c3]):=Lib.hid (by subst hV;exact ⟨((Below.refl _ _).alloc (Nat.le_refl _) _).alloc (by simp) _,(Bk.new w _ _).alloc _⟩)
 have HQ:Hid (Bk V (w.heap.size+1) 43 #[.int .u8 k0,.int .i64 k1,.string k2,.int .i64 k3]):=Lib.hid (by subst hV;have h:=Bk.new (w.alloc (.cells #[.string x.name,.slice A1 n1 c1,.slice A2 n2 c2,.slice A3 n3 c3] 26)) 43 #[.int .u8 k0,.int .i64 k1,.string k2,.int .i64 k3];rw [World.size_alloc] at h;exact h)
 clear hV
 obtain ⟨⟨q0,q1,q2,q3⟩,-⟩:=HL.out.box.k4
 obtain ⟨⟨p0,p1,p2,p3⟩,-⟩:=HQ.out.k4
 go_wp2_with fail
 refine (vgreat_any _ x _ t _ v _ (Id.SchV.below HL.out.bel HV.out) (Id.SortsR.below HS.out HL.out.bel) (Vl.ValR.below HVV.out HL.out.bel)).mono ?_
 rintro e W1 ⟨b,rfl,hb,hg⟩
 have HG:=Lib.hid hg
 clear hg
 have HQ2:=Lib.hid (HQ.out.below hb HQ.out.lt)
 clear HQ p0 p1 p2 p3
 have HQ:=HQ2
 clear HQ2
 obtain ⟨⟨p0,p1,p2,p3⟩,-⟩:=HQ.out.k4
 have HL2:=Lib.hid (HL.out.below hb)
 clear HL q0 q1 q2 q3
 have HL:=HL2
 clear HL2 hb
 obtain ⟨⟨q0,q1,q2,q3⟩,-⟩:=HL.out.box.k4
 cases b
 case true =>
  go_wp2_with fail
  refine (HDN.out _ HL.out.bel).mono ?_
  rintro e W9 ⟨rfl,hb9⟩
  go_wp2_with fail
  go_ret
  exact ⟨rfl,hb9⟩
 have HF:=Lib.hid (HG.out rfl)
 clear HG
 by_cases h6:k2.size≤6000
 case neg =>
  have h6i:(6000:Int) < (k2.size:Int):=by omega
  go_wp2_with fail
  refine (HDN.out _ HL.out.bel).mono ?_
  rintro e W9 ⟨rfl,hb9⟩
  go_wp2_with fail
  go_ret
  exact ⟨rfl,hb9⟩
 have h6i:¬ (6000:Int) < (k2.size:Int):=by omega
 have HFi:=Lib.hid HF.out.sch.fine
 have HL9:Hid (v.length≤100000):=Lib.hid (Nat.le_trans HF.out.vl (by decide))
 have HZ9:Hid (∀ n ∈ v,n.text.size≤100000):=Lib.hid (fun n hn=>by obtain ⟨i,hi,rfl⟩:=List.getElem_of_mem hn;exact Nat.le_trans (HF.out.tx i hi) (by decide))
 obtain ⟨R,HR⟩:∃ R,Hid (Vl.fits x t v=R):=⟨_,Lib.hid rfl⟩
 go_wp2_with fail
 refine (vfits_any _ x HFi.out _ t _ v HL9.out HZ9.out _ (HKW.out.below HL.out.bel) (Id.SchV.below HL.out.bel HV.out) (Id.SortsR.below HS.out HL.out.bel) (Vl.ValR.below HVV.out HL.out.bel)).mono ?_
 rw [HR.out]
 rintro e W2 ⟨rfl,hb⟩
 have HQ2:=Lib.hid (HQ.out.below hb HQ.out.lt)
 clear HQ p0 p1 p2 p3
 have HQ:=HQ2
 clear HQ2
 obtain ⟨⟨p0,p1,p2,p3⟩,-⟩:=HQ.out.k4
 have HL2:=Lib.hid (HL.out.below hb)
 clear HL q0 q1 q2 q3
 have HL:=HL2
 clear HL2 hb
 obtain ⟨⟨q0,q1,q2,q3⟩,-⟩:=HL.out.box.k4
 by_cases hR:R=0
 case neg =>
  have hRi:((R:Int) != 0)=true:=by rw [bne_iff_ne];omega
  have hRj:¬ (R:Int)=0:=by omega
  go_wp2_with fail
  refine (HDN.out _ HL.out.bel).mono ?_
  rintro e W9 ⟨rfl,hb9⟩
  go_wp2_with fail
  go_ret
  exact ⟨rfl,hb9⟩
 subst hR
 simp only [Int.cast_ofNat_Int]
 have HE:=Lib.hid (Vl.fits_end HR.out)
 have hn0:¬ n9=0:=by rw [HN9.out];exact fun h=>HE.out.1 (List.length_eq_zero_iff.1 h)
 have hn1:¬ (n9:Int)=0:=by omega
 have hn2:((n9:Int) == 0)=false:=beq_eq_false_iff_ne.2 hn1
 go_wp2_with fail
 refine (vend_any _ v 0 _ (Vl.ValR.below HVV.out HL.out.bel) HL9.out).mono ?_
 rw [Vl.endV_whole HE.out.2,← HN9.out]
 rintro e W3 ⟨rfl,rfl⟩
 have hnn:((n9:Int) != (n9:Int))=false:=by simp
 go_upto_region 7 with (fail)
 clear p0 p1 p2 p3 q0 q1 q2 q3
 cases A9
 case none=>exact absurd (by obtain ⟨_,_,e,_,_,h⟩:=ERow.slice HVV.out;injection e with e1 e2 e3;rw [e2];exact (h e1.symm).1) hn0
 case some ad9 =>
  obtain ⟨g9,off9,cs9,e9,-⟩:=ERow.get HVV.out (i:=0) (by rw [← HN9.out];omega) (by omega)
  injection e9 with e9
  subst e9
  have hcap:n9≤c9:=by obtain ⟨_,_,e,h,_⟩:=ERow.slice HVV.out;injection e with _ e2 e3;omega
  have hwr:IntKind.i64.wrap ((n9:Int) - 1)=(n9:Int) - 1:=by have:=HL9.out;have:=HN9.out;unfold IntKind.wrap;simp [IntKind.bits,IntKind.signed];omega
  have hs0:(0:Int)≤(n9:Int) - 1:=by omega
  have hs1:(n9:Int) - 1≤(c9:Int):=by omega
  have hs2:((n9:Int) - 1).toNat=n9 - 1:=by omega
  have hs3:n9 - 1≤c9:=by omega
  have hs6:(1:Int)≤(n9:Int):=by omega
  have hs4:¬ (n9:Int) - 1 < 0:=by omega
  have hs5:¬ (c9:Int) < (n9:Int) - 1:=by omega
  obtain ⟨U,rfl⟩:∃ U,U=W3:=⟨_,rfl⟩
  go_cut [9] (fun u wx=>∃ A7 n7 c7,u=.slice A7 n7 c7∧Hid (Chk.Lx w wx #[.string x.name,.slice A1 n1 c1,.slice A2 n2 c2,.slice A3 n3 c3])∧Hid (Vl.ValR wx none (.slice A7 n7 c7) (v++[⟨k0,k1,k2,k3⟩])))
  case first =>
   have hS:=HQ.out.drew
   refine wp_region_L_calm (fun w'=>Bk w' (w.heap.size+1) 43 #[.int .u8 k0,.int .i64 k1,.string k2,.int .i64 k3]) [6] (by kernel_rfl) hS (fun hHeld=>?_)
   have hlx:=HL.out.below ((Below.refl U.heap.size U).drew)
   have hlo:w.heap.size+1 < U.drew.heap.size:=hS.lt
   generalize U.drew=X at *
   have hvx:=Vl.ValR.below HVV.out hlx.bel
   have hXX:X.heap.size≤X.heap.size:=Nat.le_refl _
   clear hS
   (refine wpAnyL_take0 1 (v:=?_) rfl (by kernel_rfl) (by kernel_rfl) (by kernel_rfl) (by kernel_rfl) (fun _ _ _ h=>h) (fun _=>by assumption) (by rfl) ?_ ?_;rotate_left;· (intro w;go_simp;try with_reducible rfl);try simp only [Act.put,List.setIfInBounds_toArray,List.set_cons_zero,List.set_cons_succ])
   (refine Lst.takeZ 6 3 (v:=?_) rfl (by kernel_rfl) (by kernel_rfl) (by kernel_rfl) (by kernel_rfl) (by kernel_rfl) (by kernel_rfl) (fun _ _ _ h=>h) (by assumption) (by rfl) ?_ ?_;rotate_left;· (intro w hSw;obtain ⟨e0,e1,e2,e3⟩:=(Bk.k4 hSw).1;go_simp;try with_reducible rfl);try simp only [Act.put,List.setIfInBounds_toArray,List.set_cons_zero,List.set_cons_succ])
   refine Lst.two 0 4 (by kernel_rfl) rfl rfl (fun K hK=>?_) (fun K hK=>?_)
   ·
    go_simp
    have hB:Below X.heap.size X (X.alloc (.cells #[] 43)):=(Below.refl _ _).alloc (Nat.le_refl _) _
    have hle:X.heap.size≤(X.alloc (.cells #[] 43)).heap.size:=Nat.le_trans hXX hB.size
    obtain ⟨g0,hg0⟩:∃ g,X.heap.size=g:=⟨_,rfl⟩
    have n0:ERow (X.alloc (.cells #[] 43)) (some X.heap.size) 43 4 Vl.NodE (.slice (some ⟨g0,0,none⟩) 0 0) ([]:List Vl.Node):=by rw [← hg0];exact ERow.mono (own_nilE X 43 4 Vl.NodE) (fun _ _ hr=>hr.weak (fun b' e'=>⟨_,rfl,by injection e' with e';omega⟩)) (fun _ _ h=>h)
    rw [hg0]
    have nS:=hHeld.below hB hHeld.lt
    have nlx:=hlx.below hB
    have nvx:=Vl.ValR.below hvx hB
    generalize X.alloc (.cells #[] 43)=X1 at *
    clear hB hXX
    have hXX:=hle
    clear hle
    (refine hK.out _ _ (fun hnn=>nS) ?_;clear hK K;try simp only [Act.put,List.setIfInBounds_toArray,List.set_cons_zero,List.set_cons_succ])
    clear hHeld hlx
    have hHeld:=nS
    have hlx:=nlx
    clear nS nlx
    clear hvx
    have hvx:=nvx
    clear nvx
    have h0:=n0
    clear n0
    refine Lst.two 2 4 (by kernel_rfl) rfl rfl (fun K hK=>?_) (fun K hK=>?_)
    ·
     refine step_append_any rfl _ _ _ rfl X.heap.size 43 _ 4 40 Tryz.underlying29 Vl.info_node rfl (by decide) Vl.NodE _ [] rfl h0 none ⟨g9,off9,none⟩ n9 c9 v rfl hvx (by rw [← HN9.out];omega) (Vl.NodE.one _) (fun _ _ _ _ h=>h) (by simp only [maxLen,List.length_nil];have:=HL9.out;omega) (by simp only [List.length_nil];have:=HL9.out;omega) hXX ?_
     intro A6 n6 c6 X2 n2 hb2 hg2
     rw [List.nil_append] at n2
     have nS:=hHeld.below hb2 (by omega)
     have nlx:Chk.Lx w X2 _:=⟨hlx.bel.trans (hb2.mono (by omega)),hlx.box.below hb2 (by omega)⟩
     have hle:=Nat.le_trans hXX hb2.size
     clear hb2 hg2 hXX h0 hvx
     have hXX:=hle
     clear hle
     (refine hK.out _ _ (fun hnn=>nS) ?_;clear hK K;try simp only [Act.put,List.setIfInBounds_toArray,List.set_cons_zero,List.set_cons_succ])
     clear hHeld hlx
     have hHeld:=nS
     have hlx:=nlx
     clear nS nlx
     have h2:=n2
     clear n2
     (refine wpAnyL_step 4 (by kernel_rfl) rfl (fun K hK=>?_))
     go_simp
     have hB:Below X2.heap.size X2 (X2.alloc (.cells #[.int .u8 k0,.int .i64 k1,.string k2,.int .i64 k3] 43)):=(Below.refl _ _).alloc (Nat.le_refl _) _
     have hle:X.heap.size≤(X2.alloc (.cells #[.int .u8 k0,.int .i64 k1,.string k2,.int .i64 k3] 43)).heap.size:=Nat.le_trans hXX hB.size
     obtain ⟨g4,hg4⟩:∃ g,X2.heap.size=g:=⟨_,rfl⟩
     have n4:Bk (X2.alloc (.cells #[.int .u8 k0,.int .i64 k1,.string k2,.int .i64 k3] 43)) g4 43 #[.int .u8 k0,.int .i64 k1,.string k2,.int .i64 k3]:=by rw [← hg4];exact Bk.new X2 43 #[.int .u8 k0,.int .i64 k1,.string k2,.int .i64 k3]
     rw [hg4]
     have nS:=hHeld.below hB hHeld.lt
     have nlx:=hlx.below hB
     have n2:=ERow.below h2 hB (fun _ _ h=>h)
     generalize X2.alloc (.cells #[.int .u8 k0,.int .i64 k1,.string k2,.int .i64 k3] 43)=X3 at *
     clear hB hXX
     have hXX:=hle
     clear hle
     (refine hK.out _ _ (fun hnn=>nS) ?_;clear hK K;try simp only [Act.put,List.setIfInBounds_toArray,List.set_cons_zero,List.set_cons_succ])
     clear hHeld hlx
     have hHeld:=nS
     have hlx:=nlx
     clear nS nlx
     clear h2
     have h2:=n2
     clear n2
     have h4:=n4
     clear n4
     (refine wpAnyL_step 5 (by kernel_rfl) rfl (fun K hK=>?_))
     refine step_append_el rfl _ _ _ rfl X.heap.size 43 _ 4 40 Tryz.underlying29 Vl.info_node rfl (by decide) Vl.NodE _ v rfl h2 [.int .u8 k0,.int .i64 k1,.string k2,.int .i64 k3] rfl _ rfl h4 (by simp [Value.oneCell']) (by simp only [maxLen];have:=HL9.out;omega) (by have:=HL9.out;omega) hXX ?_
     intro A7 n7 c7 Y hr5 hb5 ho5
     have nlx:Chk.Lx w Y _:=⟨hlx.bel.trans (hb5.mono (by omega)),hlx.box.below hb5 (by omega)⟩
     have hS5:=hHeld.below hb5 (by omega)
     (refine hK.out _ _ (fun hnn=>hS5) ?_;clear hK K;try simp only [Act.put,List.setIfInBounds_toArray,List.set_cons_zero,List.set_cons_succ])
     clear hHeld
     have hHeld:=hS5
     have hr6:=hr5 ⟨k0,k1,k2,k3⟩ (fun _ _ h=>h) rfl
     (refine wpAnyL_step 6 (by kernel_rfl) rfl (fun K hK=>?_))
     go_simp
     (refine hK.out _ _ (fun hnn=>absurd hnn (by decide)) ?_;clear hK K;try simp only [Act.put,List.setIfInBounds_toArray,List.set_cons_zero,List.set_cons_succ])
     refine wpAnyL_done (by kernel_rfl) ?_ _
     refine NoPanic.normal ?_
     go_wp2_with fail
     go_meet
     case rel=>exact ⟨A7,n7,c7,rfl,Lib.hid nlx,Lib.hid (ERow.mono hr6 (fun _ _ hr=>hr.weak (fun b' e'=>by cases e')) (fun _ _ h=>h))⟩
    ·
     go_simp
     have hB:Below X1.heap.size X1 (X1.alloc (.cells #[.int .u8 k0,.int .i64 k1,.string k2,.int .i64 k3] 43)):=(Below.refl _ _).alloc (Nat.le_refl _) _
     have hle:X.heap.size≤(X1.alloc (.cells #[.int .u8 k0,.int .i64 k1,.string k2,.int .i64 k3] 43)).heap.size:=Nat.le_trans hXX hB.size
     obtain ⟨g4,hg4⟩:∃ g,X1.heap.size=g:=⟨_,rfl⟩
     have n4:Bk (X1.alloc (.cells #[.int .u8 k0,.int .i64 k1,.string k2,.int .i64 k3] 43)) g4 43 #[.int .u8 k0,.int .i64 k1,.string k2,.int .i64 k3]:=by rw [← hg4];exact Bk.new X1 43 #[.int .u8 k0,.int .i64 k1,.string k2,.int .i64 k3]
     rw [hg4]
     have nS:=hHeld.below hB hHeld.lt
     have nlx:=hlx.below hB
     have nvx:=Vl.ValR.below hvx hB
     have n0:=ERow.below h0 hB (fun _ _ h=>h)
     have hne:g0 ≠ g4:=by rw [← hg4];have:=ERow.own_blk h0 g0 rfl;omega
     generalize X1.alloc (.cells #[.int .u8 k0,.int .i64 k1,.string k2,.int .i64 k3] 43)=X4 at *
     clear hB hXX
     have hXX:=hle
     clear hle
     (refine hK.out _ _ (fun hnn=>nS) ?_;clear hK K;try simp only [Act.put,List.setIfInBounds_toArray,List.set_cons_zero,List.set_cons_succ])
     clear hHeld hlx
     have hHeld:=nS
     have hlx:=nlx
     clear nS nlx
     clear hvx
     have hvx:=nvx
     clear nvx
     clear h0
     have h0:=n0
     clear n0
     have h4:=n4
     clear n4
     (refine wpAnyL_step 2 (by kernel_rfl) rfl (fun K hK=>?_))
     refine step_append_any rfl _ _ _ rfl X.heap.size 43 _ 4 40 Tryz.underlying29 Vl.info_node rfl (by decide) Vl.NodE _ [] rfl h0 none ⟨g9,off9,none⟩ n9 c9 v rfl hvx (by rw [← HN9.out];omega) (Vl.NodE.one _) (fun _ _ _ _ h=>h) (by simp only [maxLen,List.length_nil];have:=HL9.out;omega) (by simp only [List.length_nil];have:=HL9.out;omega) hXX ?_
     intro A6 n6 c6 X5 n2 hb2 hg2
     rw [List.nil_append] at n2
     have nS:=hHeld.below hb2 (by omega)
     have nlx:Chk.Lx w X5 _:=⟨hlx.bel.trans (hb2.mono (by omega)),hlx.box.below hb2 (by omega)⟩
     have hle:=Nat.le_trans hXX hb2.size
     have n4:=h4.grown hg2 (by show some g4 ≠ some g0;intro e;injection e with e;exact hne e.symm)
     clear hb2 hg2 hXX h0 hvx
     have hXX:=hle
     clear hle
     (refine hK.out _ _ (fun hnn=>nS) ?_;clear hK K;try simp only [Act.put,List.setIfInBounds_toArray,List.set_cons_zero,List.set_cons_succ])
     clear hHeld hlx
     have hHeld:=nS
     have hlx:=nlx
     clear nS nlx
     have h2:=n2
     clear n2
     clear h4
     have h4:=n4
     clear n4
     (refine wpAnyL_step 5 (by kernel_rfl) rfl (fun K hK=>?_))
     refine step_append_el rfl _ _ _ rfl X.heap.size 43 _ 4 40 Tryz.underlying29 Vl.info_node rfl (by decide) Vl.NodE _ v rfl h2 [.int .u8 k0,.int .i64 k1,.string k2,.int .i64 k3] rfl _ rfl h4 (by simp [Value.oneCell']) (by simp only [maxLen];have:=HL9.out;omega) (by have:=HL9.out;omega) hXX ?_
     intro A7 n7 c7 Y hr5 hb5 ho5
     have nlx:Chk.Lx w Y _:=⟨hlx.bel.trans (hb5.mono (by omega)),hlx.box.below hb5 (by omega)⟩
     have hS5:=hHeld.below hb5 (by omega)
     (refine hK.out _ _ (fun hnn=>hS5) ?_;clear hK K;try simp only [Act.put,List.setIfInBounds_toArray,List.set_cons_zero,List.set_cons_succ])
     clear hHeld
     have hHeld:=hS5
     have hr6:=hr5 ⟨k0,k1,k2,k3⟩ (fun _ _ h=>h) rfl
     (refine wpAnyL_step 6 (by kernel_rfl) rfl (fun K hK=>?_))
     go_simp
     (refine hK.out _ _ (fun hnn=>absurd hnn (by decide)) ?_;clear hK K;try simp only [Act.put,List.setIfInBounds_toArray,List.set_cons_zero,List.set_cons_succ])
     refine wpAnyL_done (by kernel_rfl) ?_ _
     refine NoPanic.normal ?_
     go_wp2_with fail
     go_meet
     case rel=>exact ⟨A7,n7,c7,rfl,Lib.hid nlx,Lib.hid (ERow.mono hr6 (fun _ _ hr=>hr.weak (fun b' e'=>by cases e')) (fun _ _ h=>h))⟩
   ·
    go_simp
    have hB:Below X.heap.size X (X.alloc (.cells #[.int .u8 k0,.int .i64 k1,.string k2,.int .i64 k3] 43)):=(Below.refl _ _).alloc (Nat.le_refl _) _
    have hle:X.heap.size≤(X.alloc (.cells #[.int .u8 k0,.int .i64 k1,.string k2,.int .i64 k3] 43)).heap.size:=Nat.le_trans hXX hB.size
    obtain ⟨g4,hg4⟩:∃ g,X.heap.size=g:=⟨_,rfl⟩
    have n4:Bk (X.alloc (.cells #[.int .u8 k0,.int .i64 k1,.string k2,.int .i64 k3] 43)) g4 43 #[.int .u8 k0,.int .i64 k1,.string k2,.int .i64 k3]:=by rw [← hg4];exact Bk.new X 43 #[.int .u8 k0,.int .i64 k1,.string k2,.int .i64 k3]
    rw [hg4]
    have nS:=hHeld.below hB hHeld.lt
    have nlx:=hlx.below hB
    have nvx:=Vl.ValR.below hvx hB
    generalize X.alloc (.cells #[.int .u8 k0,.int .i64 k1,.string k2,.int .i64 k3] 43)=X6 at *
    clear hB hXX
    have hXX:=hle
    clear hle
    (refine hK.out _ _ (fun hnn=>nS) ?_;clear hK K;try simp only [Act.put,List.setIfInBounds_toArray,List.set_cons_zero,List.set_cons_succ])
    clear hHeld hlx
    have hHeld:=nS
    have hlx:=nlx
    clear nS nlx
    clear hvx
    have hvx:=nvx
    clear nvx
    have h4:=n4
    clear n4
    (refine wpAnyL_step 0 (by kernel_rfl) rfl (fun K hK=>?_))
    go_simp
    have hB:Below X6.heap.size X6 (X6.alloc (.cells #[] 43)):=(Below.refl _ _).alloc (Nat.le_refl _) _
    have hle:X.heap.size≤(X6.alloc (.cells #[] 43)).heap.size:=Nat.le_trans hXX hB.size
    obtain ⟨g0,hg0⟩:∃ g,X6.heap.size=g:=⟨_,rfl⟩
    have n0:ERow (X6.alloc (.cells #[] 43)) (some X.heap.size) 43 4 Vl.NodE (.slice (some ⟨g0,0,none⟩) 0 0) ([]:List Vl.Node):=by rw [← hg0];exact ERow.mono (own_nilE X6 43 4 Vl.NodE) (fun _ _ hr=>hr.weak (fun b' e'=>⟨_,rfl,by injection e' with e';omega⟩)) (fun _ _ h=>h)
    rw [hg0]
    have nS:=hHeld.below hB hHeld.lt
    have nlx:=hlx.below hB
    have nvx:=Vl.ValR.below hvx hB
    have n4:=h4.below hB h4.lt
    have hne:g0 ≠ g4:=by have:=h4.lt;omega
    generalize X6.alloc (.cells #[] 43)=X7 at *
    clear hB hXX
    have hXX:=hle
    clear hle
    (refine hK.out _ _ (fun hnn=>nS) ?_;clear hK K;try simp only [Act.put,List.setIfInBounds_toArray,List.set_cons_zero,List.set_cons_succ])
    clear hHeld hlx
    have hHeld:=nS
    have hlx:=nlx
    clear nS nlx
    clear hvx
    have hvx:=nvx
    clear nvx
    have h0:=n0
    clear n0
    clear h4
    have h4:=n4
    clear n4
    (refine wpAnyL_step 2 (by kernel_rfl) rfl (fun K hK=>?_))
    refine step_append_any rfl _ _ _ rfl X.heap.size 43 _ 4 40 Tryz.underlying29 Vl.info_node rfl (by decide) Vl.NodE _ [] rfl h0 none ⟨g9,off9,none⟩ n9 c9 v rfl hvx (by rw [← HN9.out];omega) (Vl.NodE.one _) (fun _ _ _ _ h=>h) (by simp only [maxLen,List.length_nil];have:=HL9.out;omega) (by simp only [List.length_nil];have:=HL9.out;omega) hXX ?_
    intro A6 n6 c6 X8 n2 hb2 hg2
    rw [List.nil_append] at n2
    have nS:=hHeld.below hb2 (by omega)
    have nlx:Chk.Lx w X8 _:=⟨hlx.bel.trans (hb2.mono (by omega)),hlx.box.below hb2 (by omega)⟩
    have hle:=Nat.le_trans hXX hb2.size
    have n4:=h4.grown hg2 (by show some g4 ≠ some g0;intro e;injection e with e;exact hne e.symm)
    clear hb2 hg2 hXX h0 hvx
    have hXX:=hle
    clear hle
    (refine hK.out _ _ (fun hnn=>nS) ?_;clear hK K;try simp only [Act.put,List.setIfInBounds_toArray,List.set_cons_zero,List.set_cons_succ])
    clear hHeld hlx
    have hHeld:=nS
    have hlx:=nlx
    clear nS nlx
    have h2:=n2
    clear n2
    clear h4
    have h4:=n4
    clear n4
    (refine wpAnyL_step 5 (by kernel_rfl) rfl (fun K hK=>?_))
    refine step_append_el rfl _ _ _ rfl X.heap.size 43 _ 4 40 Tryz.underlying29 Vl.info_node rfl (by decide) Vl.NodE _ v rfl h2 [.int .u8 k0,.int .i64 k1,.string k2,.int .i64 k3] rfl _ rfl h4 (by simp [Value.oneCell']) (by simp only [maxLen];have:=HL9.out;omega) (by have:=HL9.out;omega) hXX ?_
    intro A7 n7 c7 Y hr5 hb5 ho5
    have nlx:Chk.Lx w Y _:=⟨hlx.bel.trans (hb5.mono (by omega)),hlx.box.below hb5 (by omega)⟩
    have hS5:=hHeld.below hb5 (by omega)
    (refine hK.out _ _ (fun hnn=>hS5) ?_;clear hK K;try simp only [Act.put,List.setIfInBounds_toArray,List.set_cons_zero,List.set_cons_succ])
    clear hHeld
    have hHeld:=hS5
    have hr6:=hr5 ⟨k0,k1,k2,k3⟩ (fun _ _ h=>h) rfl
    (refine wpAnyL_step 6 (by kernel_rfl) rfl (fun K hK=>?_))
    go_simp
    (refine hK.out _ _ (fun hnn=>absurd hnn (by decide)) ?_;clear hK K;try simp only [Act.put,List.setIfInBounds_toArray,List.set_cons_zero,List.set_cons_succ])
    refine wpAnyL_done (by kernel_rfl) ?_ _
    refine NoPanic.normal ?_
    go_wp2_with fail
    go_meet
    case rel=>exact ⟨A7,n7,c7,rfl,Lib.hid nlx,Lib.hid (ERow.mono hr6 (fun _ _ hr=>hr.weak (fun b' e'=>by cases e')) (fun _ _ h=>h))⟩
  case rest =>
   obtain ⟨A7,n7,c7,rfl,HLy,HMO⟩:=hcut
   obtain ⟨Y,rfl⟩:∃ wo,wo=wc:=⟨_,rfl⟩
   clear HL
   have HL:=HLy
   clear HLy
   go_upto_region 8 with (fail)
   have HMl:Hid ((v++([⟨k0,k1,k2,k3⟩]:List Vl.Node)).length≤100000):=Lib.hid (by rw [List.length_append];have:=HF.out.vl;simp;omega)
   have HMz:Hid (∀ m ∈ v++([⟨k0,k1,k2,k3⟩]:List Vl.Node),m.text.size≤100000):=Lib.hid (fun m hm=>by rcases List.mem_append.1 hm with h | h;exact HZ9.out m h;obtain rfl:=List.mem_singleton.1 h;show k2.size≤100000;omega)
   have HTl:Hid ((v.take (v.length - 1)).length≤100000):=Lib.hid (by rw [List.length_take];have:=HL9.out;omega)
   have HTz:Hid (∀ m ∈ v.take (v.length - 1),m.text.size≤100000):=Lib.hid (fun m hm=>HZ9.out m (List.mem_of_mem_take hm))
   have dS:∀ w',Bl Y w'→Bk w' w.heap.size 26 #[.string x.name,.slice A1 n1 c1,.slice A2 n2 c2,.slice A3 n3 c3]:=fun w' hb=>HL.out.box.below hb HL.out.box.lt
   have hc:∀ W,Bl Y W→Calls Tryz.prog 17 #[.agg #[.string x.name,.slice A1 n1 c1,.slice A2 n2 c2,.slice A3 n3 c3],.slice A n c,.slice (some ⟨g9,off9,none⟩) (n9 - 1) c9] W fun e w'=>e=.returned (.int .i64 150)∧Bl Y w':=fun W hW=>by
    refine calls_bl hW ?_
    have h:=vfits_any _ x HFi.out _ t (.slice (some ⟨g9,off9,none⟩) (n9 - 1) c9) _ HTl.out HTz.out _ (HKW.out.below (HL.out.bel.trans (hW.mono HL.out.bel.size))) (Id.SchV.below hW (Id.SchV.below HL.out.bel HV.out)) (Id.SortsR.below (Id.SortsR.below HS.out HL.out.bel) hW) (by have h2:=(Vl.ValR.below (Vl.ValR.below HVV.out HL.out.bel) hW);have h3:=Vl.part0 h2;rw [← HN9.out] at h3 ⊢;exact h3)
    rw [Vl.fits_less HR.out] at h
    exact h
   have HC0:=Lib.hid hc
   clear hc
   have hc:∀ W,Bl Y W→Calls Tryz.prog 17 #[.agg #[.string x.name,.slice A1 n1 c1,.slice A2 n2 c2,.slice A3 n3 c3],.slice A n c,.slice A7 n7 c7] W fun e w'=>e=.returned (.int .i64 150)∧Bl Y w':=fun W hW=>by
    refine calls_bl hW ?_
    have h:=vfits_any _ x HFi.out _ t _ _ HMl.out HMz.out _ (HKW.out.below (HL.out.bel.trans (hW.mono HL.out.bel.size))) (Id.SchV.below hW (Id.SchV.below HL.out.bel HV.out)) (Id.SortsR.below (Id.SortsR.below HS.out HL.out.bel) hW) (Vl.ValR.below HMO.out hW)
    rw [Vl.fits_more HR.out] at h
    exact h
   have HC1:=Lib.hid hc
   clear hc
   have hc:∀ W,Bl Y W→Calls Tryz.prog 16 #[] W fun e w'=>e=.returned (.bool true)∧Bl Y w':=fun W hW=>by
    refine calls_bl hW ?_
    exact wakes15_any _ (HKW.out.below (HL.out.bel.trans (hW.mono HL.out.bel.size)))
   have HC2:=Lib.hid hc
   clear hc
   refine wp_region_bl Y (by kernel_rfl) (by kernel_rfl) (Bl.refl _) ?_
   repeat (first | go_big_quiet_step ((intro hb;first | with_reducible exact HC0.out _ hb | with_reducible exact HC1.out _ hb | with_reducible exact HC2.out _ hb)) | (refine wpQuiet_step (fun K hK=>?_);rw [if_pos (by rfl)];refine quiet_load_row _ _ rfl _ rfl _ _ _ (by assumption) Tryz.underlying26 rfl (by kernel_rfl) ?_;go_simp;refine hK _ ?_;clear hK K) | (refine wpQuiet_step (fun K hK=>?_);go_simp;refine ⟨_,fun _ _=>rfl,hK _ ?_⟩;clear hK K))
   refine wpQuiet_nil ?_
   intro W9 hb9
   go_wp2_with fail
   go_ret
   exact ⟨rfl,HL.out.bel.trans (hb9.mono HL.out.bel.size)⟩
end Go.Proofs.YtgefichiillehaaGreatDoor
set_option linter.unusedVariables false
set_option linter.unusedSimpArgs false
namespace Go.Proofs.YtgefichiillehaaGreatDoor
open Go.RowKit Go.BigFrame
set_option maxRecDepth 100000 in
set_option maxHeartbeats 16000000 in
theorem valueWraps_walk (sv:Value) (x:Id.Sch) (tv:Value) (t:List Id.Srt) (vs:Value) (v:List Vl.Node) (w0:World) (hv:Id.SchV w0 none sv x) (ht:Id.SortsR w0 none tv t) (hvv:Vl.ValR w0 none vs v) (hok:∀ n ∈ v,Cd.OkN n) (w:World) (he:w=w0) (hk:Tk.KW w) :
  Calls Tryz.prog 7 #[sv,tv,vs] w fun e w'=>e=.returned (.bool true)∧Below w.heap.size w w':=by
 subst he
 have HKW:=Lib.hid hk
 clear hk
 have HV:=Lib.hid hv
 obtain ⟨A1,n1,c1,A2,n2,c2,A3,n3,c3,rfl,-,-,-⟩:=hv
 have HS:=Lib.hid ht
 obtain ⟨A,n,c,rfl⟩:=ERow.is ht
 have HN:Hid (n=t.length):=Lib.hid (by obtain ⟨_,_,e,_⟩:=ERow.slice ht;injection e)
 clear ht
 have HVV:=Lib.hid hvv
 obtain ⟨A9,n9,c9,rfl⟩:=ERow.is hvv
 have HN9:Hid (n9=v.length):=Lib.hid (by obtain ⟨_,_,e,_⟩:=ERow.slice hvv;injection e)
 clear hvv hok
 have done:∀ W,Below w.heap.size w W→Calls Tryz.prog 16 #[] W fun e w'=>e=.returned (.bool true)∧Below w.heap.size w w':=fun W hW=>(wakes15_any W (HKW.out.below hW)).mono fun _ _ ⟨h1,h2⟩=>⟨h1,hW.trans (h2.mono hW.size)⟩
 have HDN:=Lib.hid done
 clear done
 go_enter Tryz.func7,Tryz.ntmps7
 go_upto_region 1 with (fail)
 refine wp_named (fun V hV=>?_)
 have HL:=Lib.hid (Chk.Lx.start hV)
 clear hV
 obtain ⟨⟨q0,q1,q2,q3⟩,-⟩:=HL.out.box.k4
 go_wp2_with fail
 refine (vgreat_any _ x _ t _ v _ (Id.SchV.below HL.out.bel HV.out) (Id.SortsR.below HS.out HL.out.bel) (Vl.ValR.below HVV.out HL.out.bel)).mono ?_
 rintro e W1 ⟨b,rfl,hb,hg⟩
 have HG:=Lib.hid hg
 clear hg
 have HL2:=Lib.hid (HL.out.below hb)
 clear HL q0 q1 q2 q3
 have HL:=HL2
 clear HL2 hb
 obtain ⟨⟨q0,q1,q2,q3⟩,-⟩:=HL.out.box.k4
 cases b
 case true =>
  go_wp2_with fail
  refine (HDN.out _ HL.out.bel).mono ?_
  rintro e W9 ⟨rfl,hb9⟩
  go_wp2_with fail
  go_ret
  exact ⟨rfl,hb9⟩
 have HF:=Lib.hid (HG.out rfl)
 clear HG
 have HFi:=Lib.hid HF.out.sch.fine
 have HL9:Hid (v.length≤100000):=Lib.hid (Nat.le_trans HF.out.vl (by decide))
 have HZ9:Hid (∀ n ∈ v,n.text.size≤100000):=Lib.hid (fun n hn=>by obtain ⟨i,hi,rfl⟩:=List.getElem_of_mem hn;exact Nat.le_trans (HF.out.tx i hi) (by decide))
 obtain ⟨R,HR⟩:∃ R,Hid (Vl.fits x t v=R):=⟨_,Lib.hid rfl⟩
 go_wp2_with fail
 refine (vfits_any _ x HFi.out _ t _ v HL9.out HZ9.out _ (HKW.out.below HL.out.bel) (Id.SchV.below HL.out.bel HV.out) (Id.SortsR.below HS.out HL.out.bel) (Vl.ValR.below HVV.out HL.out.bel)).mono ?_
 rw [HR.out]
 rintro e W2 ⟨rfl,hb⟩
 have HL2:=Lib.hid (HL.out.below hb)
 clear HL q0 q1 q2 q3
 have HL:=HL2
 clear HL2 hb
 obtain ⟨⟨q0,q1,q2,q3⟩,-⟩:=HL.out.box.k4
 have HL0:=HL
 clear HL q0 q1 q2 q3
 go_wp2_with fail
 go_loopw [8] (fun i wr=>∃ (k:Nat),k≤2∧i=.int .i64 k∧Hid (Chk.Lx w wr #[.string x.name,.slice A1 n1 c1,.slice A2 n2 c2,.slice A3 n3 c3])) (fun i _=>2 - (intOf i).toNat)
 case atStart=>exact ⟨0,by omega,rfl,HL0⟩
 case round =>
  obtain ⟨k,hk,rfl,HL⟩:=hrel
  obtain ⟨U,rfl⟩:∃ w',w'=wr:=⟨_,rfl⟩
  clear HL0
  obtain rfl | rfl | rfl:k=2∨k=0∨k=1:=by omega
  ·
   simp only [Int.cast_ofNat_Int]
   go_wp2_with fail
   refine (HDN.out _ HL.out.bel).mono ?_
   rintro e W9 ⟨rfl,hb9⟩
   go_wp2_with fail
   go_ret
   exact ⟨rfl,hb9⟩
  ·
   simp only [Int.cast_ofNat_Int]
   go_upto_region 7 with (fail)
   have hsr:Id.SortsR (U.alloc (.cells #[.int .u8 5,.string ⟨#[]⟩] 46)) none (.slice A n c) t:=Id.SortsR.below HS.out (HL.out.bel.alloc HL.out.bel.size _)
   have how:ERow (U.alloc (.cells #[.int .u8 5,.string ⟨#[]⟩] 46)) (some U.heap.size) 46 2 Id.SortE (.slice (some ⟨U.heap.size,0,none⟩) 1 1) [Vl.wrapS 5]:=own_lit U _ 2 Id.SortE [[.int .u8 5,.string ⟨#[]⟩]] [Vl.wrapS 5] 1 _ rfl rfl rfl (by simp) (by omega) (fun i h h'=>by obtain rfl:i=0:=(by simpa using h);rfl)
   have HT3:Hid (t.length≤300):=Lib.hid HF.out.tl
   go_upto_region 8 with (at_builtin;go_must (refine wpList_append_any rfl _ _ _ rfl U.heap.size 46 _ 2 24 Tryz.underlying27 Id.info_sort rfl (by decide) Id.SortE _ [Vl.wrapS 5] rfl how none A n c t rfl hsr (fun cs y h=>by unfold Id.SortE Id.Srt.cells at h;subst h;simp [Value.oneCell']) (fun _ _ _ _ h=>h) (by simp only [maxLen,List.length_cons,List.length_nil];have:=HT3.out;omega) (by simp only [List.length_cons,List.length_nil];have:=HT3.out;omega) (by simp) ?_);intro v7 X hr7 hb7 ho7 hg7)
   have hle:U.heap.size≤X.heap.size:=Nat.le_trans (by simp) hb7.size
   have hbu:Below U.heap.size U X:=((Below.refl U.heap.size U).alloc (Nat.le_refl _) _).trans hb7
   have HLX:=Lib.hid (HL.out.below hbu)
   have HU7:Hid (Id.SortsR X none v7 (Vl.wrapS 5 :: t)):=Lib.hid (ERow.mono hr7 (fun _ _ hr=>hr.weak (fun b' e'=>by cases e')) (fun _ _ h=>h))
   clear hsr how hr7 hb7 ho7 hg7 hle hbu
   have hsv:Vl.ValR (X.alloc (.cells #[.int .u8 5,.int .i64 0,.string ⟨#[]⟩,.int .i64 1] 43)) none (.slice A9 n9 c9) v:=Vl.ValR.below HVV.out (HLX.out.bel.alloc HLX.out.bel.size _)
   have how:ERow (X.alloc (.cells #[.int .u8 5,.int .i64 0,.string ⟨#[]⟩,.int .i64 1] 43)) (some X.heap.size) 43 4 Vl.NodE (.slice (some ⟨X.heap.size,0,none⟩) 1 1) [Vl.wrapN 5]:=own_lit X _ 4 Vl.NodE [[.int .u8 5,.int .i64 0,.string ⟨#[]⟩,.int .i64 1]] [Vl.wrapN 5] 1 _ rfl rfl rfl (by simp) (by omega) (fun i h h'=>by obtain rfl:i=0:=(by simpa using h);rfl)
   go_upto_region 9 with (at_builtin;go_must (refine wpList_append_any rfl _ _ _ rfl X.heap.size 43 _ 4 40 Tryz.underlying29 Vl.info_node rfl (by decide) Vl.NodE _ [Vl.wrapN 5] rfl how none A9 n9 c9 v rfl hsv (Vl.NodE.one _) (fun _ _ _ _ h=>h) (by simp only [maxLen,List.length_cons,List.length_nil];have:=HL9.out;omega) (by simp only [List.length_cons,List.length_nil];have:=HL9.out;omega) (by simp) ?_);intro v8 Y hr8 hb8 ho8 hg8)
   have hbx:Below X.heap.size X Y:=((Below.refl X.heap.size X).alloc (Nat.le_refl _) _).trans hb8
   have HLY:=Lib.hid (HLX.out.below hbx)
   have HU8:Hid (Vl.ValR Y none v8 (Vl.wrapN 5 :: v)):=Lib.hid (ERow.mono hr8 (fun _ _ hr=>hr.weak (fun b' e'=>by cases e')) (fun _ _ h=>h))
   have HU7:=Lib.hid (Id.SortsR.below HU7.out hbx)
   clear hsv how hr8 hb8 ho8 hg8 hbx HLX HL
   have HL:=HLY
   clear HLY
   obtain ⟨A7,n7,c7,rfl⟩:=ERow.is HU7.out
   obtain ⟨A8,n8,c8,rfl⟩:=ERow.is HU8.out
   have HN7:Hid (n7=t.length+1):=Lib.hid (by obtain ⟨_,_,e,_⟩:=ERow.slice HU7.out;injection e)
   have hwl:(Vl.wrapN 5 :: v).length≤100000:=by have:=HF.out.vl;simp only [List.length_cons];omega
   have hwz:∀ m ∈ Vl.wrapN 5 :: v,m.text.size≤100000:=fun m hm=>by rcases List.mem_cons.1 hm with rfl | h;exact Nat.zero_le _;exact HZ9.out m h
   have HWL:=Lib.hid hwl
   have HWZ:=Lib.hid hwz
   clear hwl hwz
   obtain ⟨⟨q0,q1,q2,q3⟩,-⟩:=HL.out.box.k4
   obtain ⟨F,HFF⟩:∃ F,Hid (Vl.fits x (Vl.wrapS 5 :: t) (Vl.wrapN 5 :: v)=F):=⟨_,Lib.hid rfl⟩
   go_wp2_with fail
   refine (vfits_any _ x HFi.out _ _ _ _ HWL.out HWZ.out _ (HKW.out.below HL.out.bel) (Id.SchV.below HL.out.bel HV.out) HU7.out HU8.out).mono ?_
   rw [HFF.out]
   rintro e W5 ⟨rfl,hb⟩
   have HL2:=Lib.hid (HL.out.below hb)
   clear HL q0 q1 q2 q3 hb
   have HL:=HL2
   clear HL2
   by_cases h12:12 < n7
   case pos =>
    have h12i:(12:Int) < (n7:Int):=by omega
    have hF:F ≠ 0:=by rw [← HFF.out];exact Vl.wraps_long (by omega) v (by rw [← HN7.out];exact h12)
    have hFi:((F:Int) == 0)=false:=beq_eq_false_iff_ne.2 (by omega)
    have hFj:¬ (F:Int)=0:=by omega
    go_wp2_with fail
    go_roundw
    case rel=>first | exact ⟨1,by omega,by go_num,HL⟩ | exact ⟨1,by omega,rfl,HL⟩ | exact ⟨1,by omega,by omega⟩
    case measure=>simp [intOf]
   have h12i:¬ (12:Int) < (n7:Int):=by omega
   have hww:=Vl.wraps (k:=5) (by omega) v (by rw [← HN7.out];omega) HR.out HFF.out
   have key:(R=0∧F=0)∨(R=0∧F=151)∨(R=0∧F=3)∨(R ≠ 0∧F=R)∨(R=3∧F=151):=by
    by_cases h:R=0
    ·rcases hww.1 h with g | g | g <;> omega
    ·rcases hww.2 h with g | g <;> omega
   clear hww
   rcases key with ⟨rfl,rfl⟩ | ⟨rfl,rfl⟩ | ⟨rfl,rfl⟩ | ⟨hR0,rfl⟩ | ⟨rfl,rfl⟩
   ·
    simp only [Int.cast_ofNat_Int]
    go_wp2_with fail
    go_roundw
    case rel=>first | exact ⟨1,by omega,by go_num,HL⟩ | exact ⟨1,by omega,rfl,HL⟩ | exact ⟨1,by omega,by omega⟩
    case measure=>simp [intOf]
   ·
    simp only [Int.cast_ofNat_Int]
    go_wp2_with fail
    go_roundw
    case rel=>first | exact ⟨1,by omega,by go_num,HL⟩ | exact ⟨1,by omega,rfl,HL⟩ | exact ⟨1,by omega,by omega⟩
    case measure=>simp [intOf]
   ·
    simp only [Int.cast_ofNat_Int]
    go_wp2_with fail
    go_roundw
    case rel=>first | exact ⟨1,by omega,by go_num,HL⟩ | exact ⟨1,by omega,rfl,HL⟩ | exact ⟨1,by omega,by omega⟩
    case measure=>simp [intOf]
   ·
    have hRi:((F:Int) == 0)=false:=beq_eq_false_iff_ne.2 (by omega)
    have hRj:((F:Int) != 0)=true:=by rw [bne_iff_ne];omega
    have hRk:¬ (F:Int)=0:=by omega
    have hRl:((F:Int) != (F:Int))=false:=by simp
    go_wp2_with fail
    go_roundw
    case rel=>first | exact ⟨1,by omega,by go_num,HL⟩ | exact ⟨1,by omega,rfl,HL⟩ | exact ⟨1,by omega,by omega⟩
    case measure=>simp [intOf]
   ·
    simp only [Int.cast_ofNat_Int]
    go_wp2_with fail
    go_roundw
    case rel=>first | exact ⟨1,by omega,by go_num,HL⟩ | exact ⟨1,by omega,rfl,HL⟩ | exact ⟨1,by omega,by omega⟩
    case measure=>simp [intOf]
  ·
   simp only [Int.cast_ofNat_Int]
   go_upto_region 7 with (fail)
   have hsr:Id.SortsR (U.alloc (.cells #[.int .u8 6,.string ⟨#[]⟩] 46)) none (.slice A n c) t:=Id.SortsR.below HS.out (HL.out.bel.alloc HL.out.bel.size _)
   have how:ERow (U.alloc (.cells #[.int .u8 6,.string ⟨#[]⟩] 46)) (some U.heap.size) 46 2 Id.SortE (.slice (some ⟨U.heap.size,0,none⟩) 1 1) [Vl.wrapS 6]:=own_lit U _ 2 Id.SortE [[.int .u8 6,.string ⟨#[]⟩]] [Vl.wrapS 6] 1 _ rfl rfl rfl (by simp) (by omega) (fun i h h'=>by obtain rfl:i=0:=(by simpa using h);rfl)
   have HT3:Hid (t.length≤300):=Lib.hid HF.out.tl
   go_upto_region 8 with (at_builtin;go_must (refine wpList_append_any rfl _ _ _ rfl U.heap.size 46 _ 2 24 Tryz.underlying27 Id.info_sort rfl (by decide) Id.SortE _ [Vl.wrapS 6] rfl how none A n c t rfl hsr (fun cs y h=>by unfold Id.SortE Id.Srt.cells at h;subst h;simp [Value.oneCell']) (fun _ _ _ _ h=>h) (by simp only [maxLen,List.length_cons,List.length_nil];have:=HT3.out;omega) (by simp only [List.length_cons,List.length_nil];have:=HT3.out;omega) (by simp) ?_);intro v7 X hr7 hb7 ho7 hg7)
   have hle:U.heap.size≤X.heap.size:=Nat.le_trans (by simp) hb7.size
   have hbu:Below U.heap.size U X:=((Below.refl U.heap.size U).alloc (Nat.le_refl _) _).trans hb7
   have HLX:=Lib.hid (HL.out.below hbu)
   have HU7:Hid (Id.SortsR X none v7 (Vl.wrapS 6 :: t)):=Lib.hid (ERow.mono hr7 (fun _ _ hr=>hr.weak (fun b' e'=>by cases e')) (fun _ _ h=>h))
   clear hsr how hr7 hb7 ho7 hg7 hle hbu
   have hsv:Vl.ValR (X.alloc (.cells #[.int .u8 6,.int .i64 0,.string ⟨#[]⟩,.int .i64 1] 43)) none (.slice A9 n9 c9) v:=Vl.ValR.below HVV.out (HLX.out.bel.alloc HLX.out.bel.size _)
   have how:ERow (X.alloc (.cells #[.int .u8 6,.int .i64 0,.string ⟨#[]⟩,.int .i64 1] 43)) (some X.heap.size) 43 4 Vl.NodE (.slice (some ⟨X.heap.size,0,none⟩) 1 1) [Vl.wrapN 6]:=own_lit X _ 4 Vl.NodE [[.int .u8 6,.int .i64 0,.string ⟨#[]⟩,.int .i64 1]] [Vl.wrapN 6] 1 _ rfl rfl rfl (by simp) (by omega) (fun i h h'=>by obtain rfl:i=0:=(by simpa using h);rfl)
   go_upto_region 9 with (at_builtin;go_must (refine wpList_append_any rfl _ _ _ rfl X.heap.size 43 _ 4 40 Tryz.underlying29 Vl.info_node rfl (by decide) Vl.NodE _ [Vl.wrapN 6] rfl how none A9 n9 c9 v rfl hsv (Vl.NodE.one _) (fun _ _ _ _ h=>h) (by simp only [maxLen,List.length_cons,List.length_nil];have:=HL9.out;omega) (by simp only [List.length_cons,List.length_nil];have:=HL9.out;omega) (by simp) ?_);intro v8 Y hr8 hb8 ho8 hg8)
   have hbx:Below X.heap.size X Y:=((Below.refl X.heap.size X).alloc (Nat.le_refl _) _).trans hb8
   have HLY:=Lib.hid (HLX.out.below hbx)
   have HU8:Hid (Vl.ValR Y none v8 (Vl.wrapN 6 :: v)):=Lib.hid (ERow.mono hr8 (fun _ _ hr=>hr.weak (fun b' e'=>by cases e')) (fun _ _ h=>h))
   have HU7:=Lib.hid (Id.SortsR.below HU7.out hbx)
   clear hsv how hr8 hb8 ho8 hg8 hbx HLX HL
   have HL:=HLY
   clear HLY
   obtain ⟨A7,n7,c7,rfl⟩:=ERow.is HU7.out
   obtain ⟨A8,n8,c8,rfl⟩:=ERow.is HU8.out
   have HN7:Hid (n7=t.length+1):=Lib.hid (by obtain ⟨_,_,e,_⟩:=ERow.slice HU7.out;injection e)
   have hwl:(Vl.wrapN 6 :: v).length≤100000:=by have:=HF.out.vl;simp only [List.length_cons];omega
   have hwz:∀ m ∈ Vl.wrapN 6 :: v,m.text.size≤100000:=fun m hm=>by rcases List.mem_cons.1 hm with rfl | h;exact Nat.zero_le _;exact HZ9.out m h
   have HWL:=Lib.hid hwl
   have HWZ:=Lib.hid hwz
   clear hwl hwz
   obtain ⟨⟨q0,q1,q2,q3⟩,-⟩:=HL.out.box.k4
   obtain ⟨F,HFF⟩:∃ F,Hid (Vl.fits x (Vl.wrapS 6 :: t) (Vl.wrapN 6 :: v)=F):=⟨_,Lib.hid rfl⟩
   go_wp2_with fail
   refine (vfits_any _ x HFi.out _ _ _ _ HWL.out HWZ.out _ (HKW.out.below HL.out.bel) (Id.SchV.below HL.out.bel HV.out) HU7.out HU8.out).mono ?_
   rw [HFF.out]
   rintro e W5 ⟨rfl,hb⟩
   have HL2:=Lib.hid (HL.out.below hb)
   clear HL q0 q1 q2 q3 hb
   have HL:=HL2
   clear HL2
   by_cases h12:12 < n7
   case pos =>
    have h12i:(12:Int) < (n7:Int):=by omega
    have hF:F ≠ 0:=by rw [← HFF.out];exact Vl.wraps_long (by omega) v (by rw [← HN7.out];exact h12)
    have hFi:((F:Int) == 0)=false:=beq_eq_false_iff_ne.2 (by omega)
    have hFj:¬ (F:Int)=0:=by omega
    go_wp2_with fail
    go_roundw
    case rel=>first | exact ⟨2,by omega,by go_num,HL⟩ | exact ⟨2,by omega,rfl,HL⟩ | exact ⟨2,by omega,by omega⟩
    case measure=>simp [intOf]
   have h12i:¬ (12:Int) < (n7:Int):=by omega
   have hww:=Vl.wraps (k:=6) (by omega) v (by rw [← HN7.out];omega) HR.out HFF.out
   have key:(R=0∧F=0)∨(R=0∧F=151)∨(R=0∧F=3)∨(R ≠ 0∧F=R)∨(R=3∧F=151):=by
    by_cases h:R=0
    ·rcases hww.1 h with g | g | g <;> omega
    ·rcases hww.2 h with g | g <;> omega
   clear hww
   rcases key with ⟨rfl,rfl⟩ | ⟨rfl,rfl⟩ | ⟨rfl,rfl⟩ | ⟨hR0,rfl⟩ | ⟨rfl,rfl⟩
   ·
    simp only [Int.cast_ofNat_Int]
    go_wp2_with fail
    go_roundw
    case rel=>first | exact ⟨2,by omega,by go_num,HL⟩ | exact ⟨2,by omega,rfl,HL⟩ | exact ⟨2,by omega,by omega⟩
    case measure=>simp [intOf]
   ·
    simp only [Int.cast_ofNat_Int]
    go_wp2_with fail
    go_roundw
    case rel=>first | exact ⟨2,by omega,by go_num,HL⟩ | exact ⟨2,by omega,rfl,HL⟩ | exact ⟨2,by omega,by omega⟩
    case measure=>simp [intOf]
   ·
    simp only [Int.cast_ofNat_Int]
    go_wp2_with fail
    go_roundw
    case rel=>first | exact ⟨2,by omega,by go_num,HL⟩ | exact ⟨2,by omega,rfl,HL⟩ | exact ⟨2,by omega,by omega⟩
    case measure=>simp [intOf]
   ·
    have hRi:((F:Int) == 0)=false:=beq_eq_false_iff_ne.2 (by omega)
    have hRj:((F:Int) != 0)=true:=by rw [bne_iff_ne];omega
    have hRk:¬ (F:Int)=0:=by omega
    have hRl:((F:Int) != (F:Int))=false:=by simp
    go_wp2_with fail
    go_roundw
    case rel=>first | exact ⟨2,by omega,by go_num,HL⟩ | exact ⟨2,by omega,rfl,HL⟩ | exact ⟨2,by omega,by omega⟩
    case measure=>simp [intOf]
   ·
    simp only [Int.cast_ofNat_Int]
    go_wp2_with fail
    go_roundw
    case rel=>first | exact ⟨2,by omega,by go_num,HL⟩ | exact ⟨2,by omega,rfl,HL⟩ | exact ⟨2,by omega,by omega⟩
    case measure=>simp [intOf]
end Go.Proofs.YtgefichiillehaaGreatDoor
