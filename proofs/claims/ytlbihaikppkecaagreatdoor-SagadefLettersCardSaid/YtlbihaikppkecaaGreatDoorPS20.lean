/- sagadef: letter. No condition but the keywords' table and the ones the theorem states. -/
import Derived.Test.YtlbihaikppkecaaGreatDoorPS19
import Derived.Test.YtlbihaikppkecaaGreatDoorPS18
set_option linter.unusedVariables false
set_option linter.unusedSimpArgs false
namespace Go.Proofs.YtlbihaikppkecaaGreatDoor
open Go.RowKit Go.BigFrame
namespace Sd
open Go.Proofs.YtlbihaikppkecaaGreatDoor.Id Go.Proofs.YtlbihaikppkecaaGreatDoor.Chk Go.Proofs.YtlbihaikppkecaaGreatDoor.Ev
theorem gOf_steps (x:Sch) (g:ByteArray) (h:foundE x g=0):gOf x g=sag x g:=if_pos h
theorem pOf_ok (x:Sch) (g:ByteArray) (h:foundE x g=0):pOf x g=(Prn.print x).1:=if_pos h
theorem letter_bad {x:Sch} {g id:ByteArray} {i fr:Int} {E:Nat} (h:letE x g id i fr=E) (hE:E≠0):letter x g id i fr=(Letter.zero,E):=by
 unfold letter
 rw [if_pos (by rw [h];exact hE),h]
theorem letter_ok {x:Sch} {g id:ByteArray} {i fr:Int} (h:letE x g id i fr=0):letter x g id i fr=(base x g id i fr,0):=by
 unfold letter
 rw [if_neg (by simp [h])]
end Sd
set_option maxRecDepth 100000 in
set_option maxHeartbeats 16000000 in
theorem sletter_any (sv:Value) (x:Id.Sch) (hF:Chk.Fine x) (g id:ByteArray) (hid:id.size≤100000) (i fr:Int) (w:World) (hk:Tk.KW w) (hv:Id.SchV w none sv x) :
  Calls Tryz.prog 29 #[sv,.string g,.string id,.int .i64 i,.int .i64 fr] w fun e w'=>e=.returned (.tuple #[(Sd.letter x g id i fr).1.val,.int .i64 ((Sd.letter x g id i fr).2:Nat)])∧Below w.heap.size w w':=by
 have hfo:=fun W k v=>sfound_any sv x hF g W k v
 obtain ⟨R,HR⟩:∃ R,Hid (Sd.letter x g id i fr=R):=⟨_,Lib.hid rfl⟩
 rw [HR.out]
 obtain ⟨G,HG⟩:∃ G,Hid (Sd.gOf x g=G):=⟨_,Lib.hid rfl⟩
 obtain ⟨FE,HFE⟩:∃ F,Hid (Sd.foundE x g=F):=⟨_,Lib.hid rfl⟩
 obtain ⟨FP,HFP⟩:∃ F,Hid (Sd.pOf x g=F):=⟨_,Lib.hid rfl⟩
 simp only [HG.out,HFE.out,HFP.out] at hfo
 have HFO:=Lib.hid hfo
 clear hfo
 have HKW:=Lib.hid hk
 have HV:=Lib.hid hv
 obtain ⟨A1,n1,c1,A2,n2,c2,A3,n3,c3,rfl,-,-,-⟩:=hv
 clear hk
 obtain ⟨B,HB⟩:∃ B,Hid (Sd.idL id.data.toList=B):=⟨_,Lib.hid rfl⟩
 go_enter Tryz.func29,Tryz.ntmps29
 go_upto_region 1 with (fail)
 refine wp_named (fun V hV=>?_)
 have HL:Hid (Chk.Lx w V #[.string x.name,.slice A1 n1 c1,.slice A2 n2 c2,.slice A3 n3 c3]):=Lib.hid (by subst hV;exact ⟨((Below.refl _ _).alloc (Nat.le_refl _) _).alloc (by simp) _,(Bk.new w _ _).alloc _⟩)
 have HQ:Hid (Bk V (w.heap.size+1) 40 #[.int .u8 0,.int .i64 0,.int .i64 0,.int .u64 0,.string ⟨#[]⟩,.int .u64 0,.string ⟨#[]⟩,.string ⟨#[]⟩,.int .i64 0,.string ⟨#[]⟩]):=Lib.hid (by subst hV;have h:=Bk.new (w.alloc (.cells #[.string x.name,.slice A1 n1 c1,.slice A2 n2 c2,.slice A3 n3 c3] 33)) 40 #[.int .u8 0,.int .i64 0,.int .i64 0,.int .u64 0,.string ⟨#[]⟩,.int .u64 0,.string ⟨#[]⟩,.string ⟨#[]⟩,.int .i64 0,.string ⟨#[]⟩];rw [World.size_alloc] at h;exact h)
 clear hV
 obtain ⟨⟨q0,q1,q2,q3⟩,-⟩:=HL.out.box.k4
 go_wp2_with fail
 refine (HFO.out _ (HKW.out.below HL.out.bel) (Id.SchV.below HL.out.bel HV.out)).mono ?_
 rintro e W1 ⟨v,rfl,hb,u,rfl,hu⟩
 obtain ⟨A6,n6,c6,rfl⟩:=ERow.is hu
 have HN:Hid (n6=G.steps.length):=Lib.hid (by obtain ⟨_,_,e,_⟩:=ERow.slice hu;injection e)
 have HM:Hid (n6≤9223372036854775807):=Lib.hid (by obtain ⟨_,_,e,_,_⟩:=ERow.slice hu;injection e;omega)
 have HB1:=Lib.hid (HL.out.below hb).bel
 have HQ1:=Lib.hid (HQ.out.below hb HQ.out.lt)
 have HU:Hid (ERow W1 none 85 3 Id.StpE (.slice A6 n6 c6) G.steps):=Lib.hid (ERow.mono hu (fun _ _ hr=>hr.weak (fun b' e=>by cases e)) (fun _ _ h=>h))
 clear hb hu q0 q1 q2 q3 HL HQ HFO
 go_upto_region 2 with (fail)
 refine wp_named (fun V2 hV=>?_)
 obtain ⟨hbV,hqV,-⟩:=fresh_box hV
 obtain ⟨⟨b0,b1,b2⟩,-⟩:=hqV.k3
 have hB:=HB1.out.trans (hbV.mono HB1.out.size)
 have hQ:=HQ1.out.below hbV HQ1.out.lt
 have HU2:=Lib.hid (ERow.below HU.out hbV Id.StpE.kp)
 clear hV hbV HQ1 HB1 HU
 by_cases hf0:FE=0
 case neg =>
  have HE:Hid (R=(Ev.Letter.zero,FE)):=Lib.hid (by rw [←HR.out];exact Sd.letter_bad (by unfold Sd.letE;rw [if_pos (by rw [HFE.out];exact hf0),HFE.out]) hf0)
  have t1:((FE:Int) != 0)=true:=by rw [bne_iff_ne];omega
  have t2:¬(FE:Int)=0:=by omega
  go_wp2_with (refine wpList_store_row rfl _ _ _ rfl _ _ rfl rfl _ _ hQ (by kernel_rfl) rfl (by simp [Value.oneCell']) ?_)
  (refine ret_row rfl _ rfl _ _ _ (hQ.row _) Tryz.underlying40 rfl (by kernel_rfl) rfl ⟨?_,below_row hB (by omega) _⟩)
  rw [HE.out]
  rfl
 subst hf0
 go_wp2_with fail
 refine (sid_any id hid _).mono ?_
 rw [HB.out]
 rintro e w1 ⟨rfl,hb⟩
 have hx:=hB.trans (hb.mono hB.size)
 clear hB
 have hB:=hx
 have hx:=hQ.below hb hQ.lt
 clear hQ
 have hQ:=hx
 have HU3:=Lib.hid (ERow.below HU2.out hb Id.StpE.kp)
 have HQ3:=Lib.hid (hqV.below hb hqV.lt)
 clear hx hb HU2 hqV b0 b1 b2
 by_cases hbad:B=false∨fr<0∨4≤fr
 case pos =>
  have HE:Hid (R=(Ev.Letter.zero,1)):=Lib.hid (by rw [←HR.out];exact Sd.letter_bad (by unfold Sd.letE;rw [HFE.out,if_neg (by simp),HB.out,if_pos hbad]) (by decide))
  rcases hbad with rfl | hi | hi
  ·go_wp2_with (refine wpList_store_row rfl _ _ _ rfl _ _ rfl rfl _ _ hQ (by kernel_rfl) rfl (by simp [Value.oneCell']) ?_)
   (refine ret_row rfl _ rfl _ _ _ (hQ.row _) Tryz.underlying40 rfl (by kernel_rfl) rfl ⟨?_,below_row hB (by omega) _⟩)
   rw [HE.out]
   rfl
  ·cases B
   all_goals
    go_wp2_with (refine wpList_store_row rfl _ _ _ rfl _ _ rfl rfl _ _ hQ (by kernel_rfl) rfl (by simp [Value.oneCell']) ?_)
    (refine ret_row rfl _ rfl _ _ _ (hQ.row _) Tryz.underlying40 rfl (by kernel_rfl) rfl ⟨?_,below_row hB (by omega) _⟩)
    rw [HE.out]
    rfl
  ·have hi0:¬fr<0:=by omega
   cases B
   all_goals
    go_wp2_with (refine wpList_store_row rfl _ _ _ rfl _ _ rfl rfl _ _ hQ (by kernel_rfl) rfl (by simp [Value.oneCell']) ?_)
    (refine ret_row rfl _ rfl _ _ _ (hQ.row _) Tryz.underlying40 rfl (by kernel_rfl) rfl ⟨?_,below_row hB (by omega) _⟩)
    rw [HE.out]
    rfl
 have hB1:B=true:=by
  cases B
  ·exact absurd (.inl rfl) hbad
  ·rfl
 subst hB1
 have hf0:¬fr<0:=by omega
 have hf4:¬4≤fr:=by omega
 have HNB:=Lib.hid hbad
 clear hbad
 go_upto_region 6 with (fail)
 obtain ⟨⟨b0,b1,b2⟩,-⟩:=HQ3.out.k3
 by_cases hbad:i<0∨(n6:Int)≤i
 case pos =>
  have HE:Hid (R=(Ev.Letter.zero,241)):=Lib.hid (by
   rw [←HR.out]
   exact Sd.letter_bad (by unfold Sd.letE;rw [HFE.out,if_neg (by simp),HB.out,if_neg HNB.out,if_pos (by rw [←Sd.gOf_steps x g HFE.out,HG.out,←HN.out];exact hbad)]) (by decide))
  rcases hbad with hi | hi
  ·go_wp2_with (refine wpList_store_row rfl _ _ _ rfl _ _ rfl rfl _ _ hQ (by kernel_rfl) rfl (by simp [Value.oneCell']) ?_)
   (refine ret_row rfl _ rfl _ _ _ (hQ.row _) Tryz.underlying40 rfl (by kernel_rfl) rfl ⟨?_,below_row hB (by omega) _⟩)
   rw [HE.out]
   rfl
  ·by_cases hi0:i<0
   all_goals
    go_wp2_with (refine wpList_store_row rfl _ _ _ rfl _ _ rfl rfl _ _ hQ (by kernel_rfl) rfl (by simp [Value.oneCell']) ?_)
    (refine ret_row rfl _ rfl _ _ _ (hQ.row _) Tryz.underlying40 rfl (by kernel_rfl) rfl ⟨?_,below_row hB (by omega) _⟩)
    rw [HE.out]
    rfl
 have hi0:¬i<0:=by omega
 have hin:¬(n6:Int)≤i:=by omega
 have HE:Hid (R=(Sd.base x g id i fr,0)):=Lib.hid (by
  rw [←HR.out]
  exact Sd.letter_ok (by unfold Sd.letE;rw [HFE.out,if_neg (by simp),HB.out,if_neg HNB.out,if_neg (by rw [←Sd.gOf_steps x g HFE.out,HG.out,←HN.out];exact hbad)]))
 go_upto_region 8 with (fail)
 clear hbad
 obtain ⟨k,rfl⟩:=Int.eq_ofNat_of_zero_le (show 0≤i by omega)
 have hka:k<G.steps.length:=by rw [←HN.out];omega
 have k1:(k:Int)<(n6:Int):=by omega
 have k2:k<n6:=by omega
 have hmx:=HM.out
 obtain ⟨gb,off,cs,rfl,-,he,hc⟩:=ERow.get HU3.out hka (by omega)
 obtain ⟨st,Hst⟩:∃ st,Hid (G.steps[k]=st):=⟨_,Lib.hid rfl⟩
 rw [Hst.out] at he
 obtain ⟨ss,sm,sa⟩:=st
 have hce:cs=[.string ss,.string sm,.int .i64 sa]:=he
 subst hce
 have a0:=hc 0 _ rfl
 have a1:=hc 1 _ rfl
 have a2:=hc 2 _ rfl
 simp only [Nat.add_zero] at a0
 clear he hc
 go_upto_region 9 with (fail)
 refine wp_named (fun V3 hV=>?_)
 obtain ⟨hbV,hqV,-⟩:=fresh_box hV
 have hd:Below V3.heap.size V3 V3.drew:=(Below.refl _ _).drew
 have hbd:=hbV.trans (hd.mono hbV.size)
 have hlt:=hQ.lt
 have hS:=And.intro (hB.trans (hbd.mono hB.size)) (And.intro (hQ.below hbd hlt) (hqV.below hd hqV.lt))
 obtain ⟨gS,HgS⟩:∃ n,Hid (w1.heap.size=n):=⟨_,Lib.hid rfl⟩
 rw [HgS.out] at hS hlt ⊢
 clear hbV hqV hV hd hbd a0 a1 a2 b0 b1 b2 hB hQ hx HU3 HQ3
 have hkey:=fun W=>skey_any id hid k false W
 obtain ⟨KB,HKB⟩:∃ n,Hid (Sd.keyB id k false=n):=⟨_,Lib.hid rfl⟩
 rw [HKB.out] at hkey
 have HKEY:=Lib.hid hkey
 clear hkey
 refine wp_region_L_calm (fun w'=>Below w.heap.size w w'∧Bk w' (w.heap.size+1) 40 _∧Bk w' gS 85 _) [12] (by kernel_rfl) hS (fun hHeld=>?_)
 (refine wpAnyL_take0 0 (v:=?_) rfl (by kernel_rfl) (by kernel_rfl) (by kernel_rfl) (by kernel_rfl) (fun _ _ _ h=>h) (fun _=>by assumption) (by kernel_rfl) ?_ ?_;rotate_left;· (intro w;go_simp;try with_reducible rfl);try simp only [Act.put,List.setIfInBounds_toArray,List.set_cons_zero,List.set_cons_succ])
 (refine wpAnyL_take0 1 (v:=?_) rfl (by kernel_rfl) (by kernel_rfl) (by kernel_rfl) (by kernel_rfl) (fun _ _ _ h=>h) (fun _=>by assumption) (by kernel_rfl) ?_ ?_;rotate_left;· (intro w;go_simp;try with_reducible rfl);try simp only [Act.put,List.setIfInBounds_toArray,List.set_cons_zero,List.set_cons_succ])
 (refine Lst.takeM 12 2 (v:=?_) rfl (by kernel_rfl) (by kernel_rfl) (by kernel_rfl) (by kernel_rfl) (by kernel_rfl) (by kernel_rfl) (fun _ _ _ h=>h) (by assumption) (by kernel_rfl) ?_ ?_;rotate_left;· (intro w hSw;obtain ⟨e0,e1,e2⟩:=(Bk.k3 hSw.2.2).1;go_simp;try with_reducible rfl);try simp only [Act.put,List.setIfInBounds_toArray,List.set_cons_zero,List.set_cons_succ])
 (refine wpAnyL_take0 3 (v:=?_) rfl (by kernel_rfl) (by kernel_rfl) (by kernel_rfl) (by kernel_rfl) (fun _ _ _ h=>h) (fun _=>by assumption) (by kernel_rfl) ?_ ?_;rotate_left;· (intro w;go_simp;try with_reducible rfl);try simp only [Act.put,List.setIfInBounds_toArray,List.set_cons_zero,List.set_cons_succ])
 (refine wpAnyL_take0 4 (v:=?_) rfl (by kernel_rfl) (by kernel_rfl) (by kernel_rfl) (by kernel_rfl) (fun _ _ _ h=>h) (fun _=>by assumption) (by kernel_rfl) ?_ ?_;rotate_left;· (intro w;go_simp;try with_reducible rfl);try simp only [Act.put,List.setIfInBounds_toArray,List.set_cons_zero,List.set_cons_succ])
 (refine wpAnyL_take0 6 (v:=?_) rfl (by kernel_rfl) (by kernel_rfl) (by kernel_rfl) (by kernel_rfl) (fun _ _ _ h=>h) (fun _=>by assumption) (by kernel_rfl) ?_ ?_;rotate_left;· (intro w;go_simp;try with_reducible rfl);try simp only [Act.put,List.setIfInBounds_toArray,List.set_cons_zero,List.set_cons_succ])
 (refine wpAnyL_take0 7 (v:=?_) rfl (by kernel_rfl) (by kernel_rfl) (by kernel_rfl) (by kernel_rfl) (fun _ _ _ h=>h) (fun _=>by assumption) (by kernel_rfl) ?_ ?_;rotate_left;· (intro w;go_simp;try with_reducible rfl);try simp only [Act.put,List.setIfInBounds_toArray,List.set_cons_zero,List.set_cons_succ])
 (refine Lst.takeM 12 8 (v:=?_) rfl (by kernel_rfl) (by kernel_rfl) (by kernel_rfl) (by kernel_rfl) (by kernel_rfl) (by kernel_rfl) (fun _ _ _ h=>h) (by assumption) (by kernel_rfl) ?_ ?_;rotate_left;· (intro w hSw;obtain ⟨e0,e1,e2⟩:=(Bk.k3 hSw.2.2).1;go_simp;try with_reducible rfl);try simp only [Act.put,List.setIfInBounds_toArray,List.set_cons_zero,List.set_cons_succ])
 (refine wpAnyL_take0 9 (v:=?_) rfl (by kernel_rfl) (by kernel_rfl) (by kernel_rfl) (by kernel_rfl) (fun _ _ _ h=>h) (fun _=>by assumption) (by kernel_rfl) ?_ ?_;rotate_left;· (intro w;go_simp;try with_reducible rfl);try simp only [Act.put,List.setIfInBounds_toArray,List.set_cons_zero,List.set_cons_succ])
 (refine Lst.takeM 12 10 (v:=?_) rfl (by kernel_rfl) (by kernel_rfl) (by kernel_rfl) (by kernel_rfl) (by kernel_rfl) (by kernel_rfl) (fun _ _ _ h=>h) (by assumption) (by kernel_rfl) ?_ ?_;rotate_left;· (intro w hSw;obtain ⟨e0,e1,e2⟩:=(Bk.k3 hSw.2.2).1;go_simp;try with_reducible rfl);try simp only [Act.put,List.setIfInBounds_toArray,List.set_cons_zero,List.set_cons_succ])
 (refine wpAnyL_step 5 (by kernel_rfl) rfl (fun K hK=>?_))
 go_simp
 refine (HKEY.out _).mono ?_
 rintro e X ⟨rfl,hb⟩
 have hS2:=And.intro (hS.1.trans (hb.mono hS.1.size)) (And.intro (hS.2.1.below hb hS.2.1.lt) (hS.2.2.below hb hS.2.2.lt))
 (refine hK.out _ _ (fun hnn=>hS2) ?_;clear hK K;try simp only [Act.put,List.setIfInBounds_toArray,List.set_cons_zero,List.set_cons_succ])
 (refine wpAnyL_take0 11 (v:=?_) rfl (by kernel_rfl) (by kernel_rfl) (by kernel_rfl) (by kernel_rfl) (fun _ _ _ h=>h) (fun _=>by assumption) (by kernel_rfl) ?_ ?_;rotate_left;· (intro w;go_simp;try with_reducible rfl);try simp only [Act.put,List.setIfInBounds_toArray,List.set_cons_zero,List.set_cons_succ])
 (refine wpAnyL_step 12 (by kernel_rfl) rfl (fun K hK=>?_))
 rw [if_pos (by rfl)]
 have hB:=hS2.1
 have hQ:=hS2.2.1
 refine wp_store_row _ _ _ rfl (w.heap.size+1) #[.int .u8 0,.int .i64 fr,.int .i64 sa,.int .u64 0,.string KB,.int .u64 FP,.string ss,.string sm,.int .i64 0,.string ⟨#[]⟩] (by rfl) (by rfl) _ _ hQ (by kernel_rfl) rfl (by simp [Value.oneCell']) ?_
 (refine hK.out _ _ (fun hnn=>absurd hnn (by decide)) ?_;clear hK K;try simp only [Act.put,List.setIfInBounds_toArray,List.set_cons_zero,List.set_cons_succ])
 (refine wpAnyL_step 13 (by kernel_rfl) rfl (fun K hK=>?_))
 go_simp
 (refine hK.out _ _ (fun hnn=>absurd hnn (by decide)) ?_;clear hK K;try simp only [Act.put,List.setIfInBounds_toArray,List.set_cons_zero,List.set_cons_succ])
 refine wpAnyL_done (by kernel_rfl) ?_ _
 refine NoPanic.normal ?_
 have HQF:=Lib.hid (hQ.row #[.int .u8 0,.int .i64 fr,.int .i64 sa,.int .u64 0,.string KB,.int .u64 FP,.string ss,.string sm,.int .i64 0,.string ⟨#[]⟩])
 have HBF:=Lib.hid (below_row hB (g:=w.heap.size+1) (by omega) #[.int .u8 0,.int .i64 fr,.int .i64 sa,.int .u64 0,.string KB,.int .u64 FP,.string ss,.string sm,.int .i64 0,.string ⟨#[]⟩])
 clear hHeld hS hS2 hB hQ hb
 go_wp2_with fail
 refine ret_row rfl _ rfl _ _ _ HQF.out Tryz.underlying40 rfl (by kernel_rfl) rfl ⟨?_,HBF.out⟩
 have HB2:Hid ((Sd.base x g id k fr).val=.agg #[.int .u8 0,.int .i64 fr,.int .i64 sa,.int .u64 0,.string KB,.int .u64 FP,.string ss,.string sm,.int .i64 0,.string ⟨#[]⟩]):=Lib.hid (by
  have hst:Sd.stp x g (k:Int)=⟨ss,sm,sa⟩:=by
   unfold Sd.stp
   rw [←Sd.gOf_steps x g HFE.out,HG.out,Int.toNat_natCast,List.getD_eq_getElem?_getD,List.getElem?_eq_getElem hka,Option.getD_some,Hst.out]
  have hp:(Prn.print x).1=FP:=by rw [←Sd.pOf_ok x g HFE.out,HFP.out]
  unfold Sd.base Ev.Letter.val
  rw [hst,hp,HKB.out]
  rfl)
 rw [HE.out]
 simp only
 rw [HB2.out]
 rfl
end Go.Proofs.YtlbihaikppkecaaGreatDoor
set_option linter.unusedVariables false
set_option linter.unusedSimpArgs false
namespace Go.Proofs.YtlbihaikppkecaaGreatDoor
open Go.RowKit Go.BigFrame
namespace Chk
open Go.Proofs.YtlbihaikppkecaaGreatDoor.Id
def ansV (o:Option ByteArray):Value:=.tuple #[.string (o.getD ⟨#[]⟩),.bool o.isNone]
end Chk
theorem rname_s (s:ByteArray) (w:World):Calls Tryz.prog 96 #[.string s] w fun e w'=>e=.returned (.bool (Tk.isName s))∧w=w':=(rname_any s w).mono fun _ _ ⟨h1,h2⟩=>⟨h1,h2.symm⟩
set_option maxRecDepth 100000 in
set_option maxHeartbeats 16000000 in
theorem rnames_any (v:Value) (x:Id.Sch) (w:World) (hv:Id.SchV w none v x) :
  Calls Tryz.prog 83 #[v] w fun e w'=>e=.returned (Chk.ansV (Chk.firstF (Chk.namesT x)))∧Below w.heap.size w w':=by
 have HV:=Lib.hid hv
 obtain ⟨A1,n1,c1,A2,n2,c2,A3,n3,c3,rfl,r1,r2,r3⟩:=hv
 have HN1:Hid (n1=x.records.length):=Lib.hid (by obtain ⟨_,_,e,_⟩:=ERow.slice r1;injection e)
 have hm1:n1≤9223372036854775807:=by obtain ⟨_,_,e,_,_⟩:=ERow.slice r1;injection e;omega
 have H1:=Lib.hid r1
 have HN2:Hid (n2=x.services.length):=Lib.hid (by obtain ⟨_,_,e,_⟩:=ERow.slice r2;injection e)
 have hm2:n2≤9223372036854775807:=by obtain ⟨_,_,e,_,_⟩:=ERow.slice r2;injection e;omega
 have H2:=Lib.hid r2
 have HN3:Hid (n3=x.sagas.length):=Lib.hid (by obtain ⟨_,_,e,_⟩:=ERow.slice r3;injection e)
 have hm3:n3≤9223372036854775807:=by obtain ⟨_,_,e,_,_⟩:=ERow.slice r3;injection e;omega
 have H3:=Lib.hid r3
 clear r1 r2 r3
 obtain ⟨R,HR⟩:∃ R,Hid (Chk.firstF (Chk.namesT x)=R):=⟨_,Lib.hid rfl⟩
 rw [HR.out]
 unfold Chk.namesT at HR
 go_enter Tryz.func83,Tryz.ntmps83
 go_upto_region 1 with (fail)
 refine wp_named (fun V hV=>?_)
 have HL:=Lib.hid (Chk.Lx.start hV)
 clear hV
 obtain ⟨⟨q0,q1,q2,q3⟩,-⟩:=HL.out.box.k4
 go_wp2_with fail
 refine (rname_s x.name _).mono ?_
 rintro e W2 ⟨rfl,rfl⟩
 cases hn:Tk.isName x.name
 case false =>
  have HE:Hid (R=some ⟨#[]⟩):=Lib.hid (by rw [←HR.out];exact Chk.firstF_f hn)
  go_wp2_with fail
  go_ret2
  exact ⟨by rw [HE.out];rfl,HL.out.bel⟩
 have HT:Hid (_=R):=Lib.hid ((Chk.firstF_t hn).symm.trans HR.out)
 clear HR
 go_wp2_with fail
 go_loopw [4] (fun i wr=>∃ (z:Nat),z≤n1∧i=.int .i64 z∧V=wr∧Hid (Chk.firstF ((x.records.drop z).flatMap Chk.namesR++(x.services.flatMap Chk.namesV++x.sagas.flatMap Chk.namesG))=R)) (fun i _=>n1 - (intOf i).toNat)
 case atStart=>exact ⟨0,by omega,rfl,rfl,Lib.hid (HT.out)⟩
 case round =>
  obtain ⟨k,hkk,rfl,rfl,HI⟩:=hrel
  have ik0:(0:Int)≤(k:Int):=by omega
  by_cases hlt:k<n1
  case neg =>
   have HI1:Hid (Chk.firstF ((x.services.flatMap Chk.namesV++x.sagas.flatMap Chk.namesG))=R):=Lib.hid (by have h:=HI.out;rw [List.drop_of_length_le (by have:=HN1.out;omega)] at h;exact h)
   clear HI
   go_wp2_with fail
   go_loopw [6] (fun i wr=>∃ (z:Nat),z≤n2∧i=.int .i64 z∧V=wr∧Hid (Chk.firstF ((x.services.drop z).flatMap Chk.namesV++x.sagas.flatMap Chk.namesG)=R)) (fun i _=>n2 - (intOf i).toNat)
   case atStart=>exact ⟨0,by omega,rfl,rfl,Lib.hid (HI1.out)⟩
   case round =>
    obtain ⟨k,hkk,rfl,rfl,HI⟩:=hrel
    have ik0:(0:Int)≤(k:Int):=by omega
    by_cases hlt:k<n2
    case neg =>
     have HI1:Hid (Chk.firstF (x.sagas.flatMap Chk.namesG)=R):=Lib.hid (by have h:=HI.out;rw [List.drop_of_length_le (by have:=HN2.out;omega)] at h;exact h)
     clear HI
     go_wp2_with fail
     have HI0:=HI1
     clear HI1
     go_loopw [8] (fun i wr=>∃ (z:Nat),z≤n3∧i=.int .i64 z∧V=wr∧Hid (Chk.firstF ((x.sagas.drop z).flatMap Chk.namesG++[])=R)) (fun i _=>n3 - (intOf i).toNat)
     case atStart=>exact ⟨0,by omega,rfl,rfl,Lib.hid (by have h:=HI0.out;rw [←List.append_nil (List.flatMap _ _)] at h;exact h)⟩
     case round =>
      obtain ⟨k,hkk,rfl,rfl,HI⟩:=hrel
      have ik0:(0:Int)≤(k:Int):=by omega
      by_cases hlt:k<n3
      case neg =>
       have HI1:Hid (Chk.firstF ([])=R):=Lib.hid (by have h:=HI.out;rw [List.drop_of_length_le (by have:=HN3.out;omega)] at h;exact h)
       clear HI
       have HE:Hid (R=none):=Lib.hid HI1.out.symm
       go_wp2_with fail
       go_ret2
       exact ⟨by rw [HE.out];rfl,HL.out.bel⟩
      have hkak:k<x.sagas.length:=by rw [←HN3.out];exact hlt
      obtain ⟨g1,off1,cs,rfl,-,⟨u,he,HU⟩,hc⟩:=ERow.get H3.out hkak (by omega)
      obtain ⟨r,Hr⟩:∃ r,Hid (x.sagas[k]=r):=⟨_,Lib.hid rfl⟩
      rw [Hr.out] at he HU
      obtain ⟨rn,ra,rf⟩:=r
      subst he
      simp only at HU hc
      obtain ⟨A5,n5,c5,rfl⟩:=ERow.is HU
      have HN5:Hid (n5=rf.length):=Lib.hid (by obtain ⟨_,_,e,_⟩:=ERow.slice HU;injection e)
      have hm5:n5≤9223372036854775807:=by obtain ⟨_,_,e,_,_⟩:=ERow.slice HU;injection e;omega
      have H5:=Lib.hid HU
      have HDk:Hid (x.sagas.drop k=⟨rn,ra,rf⟩::x.sagas.drop (k+1)):=Lib.hid (by rw [List.drop_eq_getElem_cons hkak,Hr.out])
      have b0:=hc 0 _ rfl
      have b1:=hc 1 _ rfl
      have b2:=hc 2 _ rfl
      simp only [Nat.add_zero] at b0
      have hgl1:g1<w.heap.size:=World.block_lt_of_cell? w _ b0
      have b0:=(HL.out.bel.cell hgl1).trans b0
      have b1:=(HL.out.bel.cell hgl1).trans b1
      have b2:=(HL.out.bel.cell hgl1).trans b2
      have i11:(k:Int)<(n3:Int):=by omega
      clear hc HU Hr
      have HT0:Hid (Chk.firstF ((Tk.isName rn,rn)::(((x.sagas.drop (k+1)).flatMap Chk.namesG++[])))=R):=Lib.hid (by have h:=HI.out;rw [HDk.out,List.flatMap_cons] at h;exact h)
      clear HI
      go_wp2_with fail
      refine (rname_s rn _).mono ?_
      rintro e W2 ⟨rfl,rfl⟩
      cases hn:Tk.isName rn
      case false =>
       have HE:Hid (R=some rn):=Lib.hid (by rw [←HT0.out];exact Chk.firstF_f hn)
       go_wp2_with fail
       go_ret2
       exact ⟨by rw [HE.out];rfl,HL.out.bel⟩
      have HT:Hid (_=R):=Lib.hid ((Chk.firstF_t hn).symm.trans HT0.out)
      clear HT0
      go_wp2_with fail
      go_roundw
      case rel=>exact ⟨k+1,by omega,by go_num,by first | rfl | trivial,Lib.hid (HT.out)⟩
      case measure=>simp [intOf];omega
    have hkak:k<x.services.length:=by rw [←HN2.out];exact hlt
    obtain ⟨g1,off1,cs,rfl,-,⟨u,he,HU⟩,hc⟩:=ERow.get H2.out hkak (by omega)
    obtain ⟨r,Hr⟩:∃ r,Hid (x.services[k]=r):=⟨_,Lib.hid rfl⟩
    rw [Hr.out] at he HU
    obtain ⟨rn,rf⟩:=r
    subst he
    simp only at HU hc
    obtain ⟨A5,n5,c5,rfl⟩:=ERow.is HU
    have HN5:Hid (n5=rf.length):=Lib.hid (by obtain ⟨_,_,e,_⟩:=ERow.slice HU;injection e)
    have hm5:n5≤9223372036854775807:=by obtain ⟨_,_,e,_,_⟩:=ERow.slice HU;injection e;omega
    have H5:=Lib.hid HU
    have HDk:Hid (x.services.drop k=⟨rn,rf⟩::x.services.drop (k+1)):=Lib.hid (by rw [List.drop_eq_getElem_cons hkak,Hr.out])
    have b0:=hc 0 _ rfl
    have b1:=hc 1 _ rfl
    simp only [Nat.add_zero] at b0
    have hgl1:g1<w.heap.size:=World.block_lt_of_cell? w _ b0
    have b0:=(HL.out.bel.cell hgl1).trans b0
    have b1:=(HL.out.bel.cell hgl1).trans b1
    have i11:(k:Int)<(n2:Int):=by omega
    clear hc HU Hr
    have HT0:Hid (Chk.firstF ((Tk.isName rn,rn)::(rf.flatMap Chk.namesM++((x.services.drop (k+1)).flatMap Chk.namesV++x.sagas.flatMap Chk.namesG)))=R):=Lib.hid (by have h:=HI.out;rw [HDk.out,List.flatMap_cons,List.append_assoc] at h;exact h)
    clear HI
    go_wp2_with fail
    refine (rname_s rn _).mono ?_
    rintro e W2 ⟨rfl,rfl⟩
    cases hn:Tk.isName rn
    case false =>
     have HE:Hid (R=some rn):=Lib.hid (by rw [←HT0.out];exact Chk.firstF_f hn)
     go_wp2_with fail
     go_ret2
     exact ⟨by rw [HE.out];rfl,HL.out.bel⟩
    have HT:Hid (_=R):=Lib.hid ((Chk.firstF_t hn).symm.trans HT0.out)
    clear HT0
    go_wp2_with fail
    go_loopw [7] (fun i wr=>∃ (z:Nat),z≤n5∧i=.int .i64 z∧V=wr∧Hid (Chk.firstF ((rf.drop z).flatMap Chk.namesM++((x.services.drop (k+1)).flatMap Chk.namesV++x.sagas.flatMap Chk.namesG))=R)) (fun i _=>n5 - (intOf i).toNat)
    case atStart=>exact ⟨0,by omega,rfl,rfl,Lib.hid (HT.out)⟩
    case round =>
     obtain ⟨j,hkj,rfl,rfl,HJ⟩:=hrel
     have ij0:(0:Int)≤(j:Int):=by omega
     by_cases hlj:j<n5
     case neg =>
      go_wp2_with fail
      go_roundw
      case rel=>exact ⟨k+1,by omega,by go_num,by first | rfl | trivial,Lib.hid (by have h:=HJ.out;rw [List.drop_of_length_le (by have:=HN5.out;omega)] at h;exact h)⟩
      case measure=>simp [intOf];omega
     have hkbj:j<rf.length:=by rw [←HN5.out];exact hlj
     obtain ⟨g2,off2,cs,rfl,-,he,hc⟩:=ERow.get H5.out hkbj (by omega)
     obtain ⟨r,Hr⟩:∃ r,Hid (rf[j]=r):=⟨_,Lib.hid rfl⟩
     rw [Hr.out] at he
     obtain ⟨m0,m1,m2,m3,m4⟩:=r
     unfold Id.MthE Id.Mth.cells at he
     subst he
     have HDj:Hid (rf.drop j=⟨m0,m1,m2,m3,m4⟩::rf.drop (j+1)):=Lib.hid (by rw [List.drop_eq_getElem_cons hkbj,Hr.out])
     have a0:=hc 0 _ rfl
     have a1:=hc 1 _ rfl
     have a2:=hc 2 _ rfl
     have a3:=hc 3 _ rfl
     have a4:=hc 4 _ rfl
     simp only [Nat.add_zero] at a0
     have hgl2:g2<w.heap.size:=World.block_lt_of_cell? w _ a0
     have a0:=(HL.out.bel.cell hgl2).trans a0
     have a1:=(HL.out.bel.cell hgl2).trans a1
     have a2:=(HL.out.bel.cell hgl2).trans a2
     have a3:=(HL.out.bel.cell hgl2).trans a3
     have a4:=(HL.out.bel.cell hgl2).trans a4
     have i21:(j:Int)<(n5:Int):=by omega
     clear hc Hr
     have HT1:Hid (Chk.firstF ((Tk.isName m0,m0)::((rf.drop (j+1)).flatMap Chk.namesM++((x.services.drop (k+1)).flatMap Chk.namesV++x.sagas.flatMap Chk.namesG)))=R):=Lib.hid (by have h:=HJ.out;rw [HDj.out,List.flatMap_cons,List.append_assoc] at h;exact h)
     clear HJ HT
     go_wp2_with fail
     refine (rname_s m0 _).mono ?_
     rintro e W2 ⟨rfl,rfl⟩
     cases hn:Tk.isName m0
     case false =>
      have HE:Hid (R=some m0):=Lib.hid (by rw [←HT1.out];exact Chk.firstF_f hn)
      go_wp2_with fail
      go_ret2
      exact ⟨by rw [HE.out];rfl,HL.out.bel⟩
     have HT:Hid (_=R):=Lib.hid ((Chk.firstF_t hn).symm.trans HT1.out)
     clear HT1
     go_wp2_with fail
     go_roundw
     case rel=>exact ⟨j+1,by omega,by go_num,by first | rfl | trivial,Lib.hid (HT.out)⟩
     case measure=>simp [intOf];omega
  have hkak:k<x.records.length:=by rw [←HN1.out];exact hlt
  obtain ⟨g1,off1,cs,rfl,-,⟨u,he,HU⟩,hc⟩:=ERow.get H1.out hkak (by omega)
  obtain ⟨r,Hr⟩:∃ r,Hid (x.records[k]=r):=⟨_,Lib.hid rfl⟩
  rw [Hr.out] at he HU
  obtain ⟨rn,rc,rf⟩:=r
  subst he
  simp only at HU hc
  obtain ⟨A5,n5,c5,rfl⟩:=ERow.is HU
  have HN5:Hid (n5=rf.length):=Lib.hid (by obtain ⟨_,_,e,_⟩:=ERow.slice HU;injection e)
  have hm5:n5≤9223372036854775807:=by obtain ⟨_,_,e,_,_⟩:=ERow.slice HU;injection e;omega
  have H5:=Lib.hid HU
  have HDk:Hid (x.records.drop k=⟨rn,rc,rf⟩::x.records.drop (k+1)):=Lib.hid (by rw [List.drop_eq_getElem_cons hkak,Hr.out])
  have b0:=hc 0 _ rfl
  have b1:=hc 1 _ rfl
  have b2:=hc 2 _ rfl
  simp only [Nat.add_zero] at b0
  have hgl1:g1<w.heap.size:=World.block_lt_of_cell? w _ b0
  have b0:=(HL.out.bel.cell hgl1).trans b0
  have b1:=(HL.out.bel.cell hgl1).trans b1
  have b2:=(HL.out.bel.cell hgl1).trans b2
  have i11:(k:Int)<(n1:Int):=by omega
  clear hc HU Hr
  have HT0:Hid (Chk.firstF ((Tk.isName rn,rn)::(rf.flatMap Chk.namesF++((x.records.drop (k+1)).flatMap Chk.namesR++(x.services.flatMap Chk.namesV++x.sagas.flatMap Chk.namesG))))=R):=Lib.hid (by have h:=HI.out;rw [HDk.out,List.flatMap_cons,List.append_assoc] at h;exact h)
  clear HI
  go_wp2_with fail
  refine (rname_s rn _).mono ?_
  rintro e W2 ⟨rfl,rfl⟩
  cases hn:Tk.isName rn
  case false =>
   have HE:Hid (R=some rn):=Lib.hid (by rw [←HT0.out];exact Chk.firstF_f hn)
   go_wp2_with fail
   go_ret2
   exact ⟨by rw [HE.out];rfl,HL.out.bel⟩
  have HT:Hid (_=R):=Lib.hid ((Chk.firstF_t hn).symm.trans HT0.out)
  clear HT0
  go_wp2_with fail
  go_loopw [5] (fun i wr=>∃ (z:Nat),z≤n5∧i=.int .i64 z∧V=wr∧Hid (Chk.firstF ((rf.drop z).flatMap Chk.namesF++((x.records.drop (k+1)).flatMap Chk.namesR++(x.services.flatMap Chk.namesV++x.sagas.flatMap Chk.namesG)))=R)) (fun i _=>n5 - (intOf i).toNat)
  case atStart=>exact ⟨0,by omega,rfl,rfl,Lib.hid (HT.out)⟩
  case round =>
   obtain ⟨j,hkj,rfl,rfl,HJ⟩:=hrel
   have ij0:(0:Int)≤(j:Int):=by omega
   by_cases hlj:j<n5
   case neg =>
    go_wp2_with fail
    go_roundw
    case rel=>exact ⟨k+1,by omega,by go_num,by first | rfl | trivial,Lib.hid (by have h:=HJ.out;rw [List.drop_of_length_le (by have:=HN5.out;omega)] at h;exact h)⟩
    case measure=>simp [intOf];omega
   have hkbj:j<rf.length:=by rw [←HN5.out];exact hlj
   obtain ⟨g2,off2,cs,rfl,-,⟨u,he,HU⟩,hc⟩:=ERow.get H5.out hkbj (by omega)
   obtain ⟨r,Hr⟩:∃ r,Hid (rf[j]=r):=⟨_,Lib.hid rfl⟩
   rw [Hr.out] at he HU
   obtain ⟨yn,yt⟩:=r
   subst he
   simp only at HU hc
   obtain ⟨A7,n7,c7,rfl⟩:=ERow.is HU
   have HN7:Hid (n7=yt.length):=Lib.hid (by obtain ⟨_,_,e,_⟩:=ERow.slice HU;injection e)
   have hm7:n7≤9223372036854775807:=by obtain ⟨_,_,e,_,_⟩:=ERow.slice HU;injection e;omega
   have H7:=Lib.hid HU
   clear HU
   have HDj:Hid (rf.drop j=⟨yn,yt⟩::rf.drop (j+1)):=Lib.hid (by rw [List.drop_eq_getElem_cons hkbj,Hr.out])
   have a0:=hc 0 _ rfl
   have a1:=hc 1 _ rfl
   simp only [Nat.add_zero] at a0
   have hgl2:g2<w.heap.size:=World.block_lt_of_cell? w _ a0
   have a0:=(HL.out.bel.cell hgl2).trans a0
   have a1:=(HL.out.bel.cell hgl2).trans a1
   have i21:(j:Int)<(n5:Int):=by omega
   clear hc Hr
   have HT1:Hid (Chk.firstF ((Tk.isName yn,yn)::((rf.drop (j+1)).flatMap Chk.namesF++((x.records.drop (k+1)).flatMap Chk.namesR++(x.services.flatMap Chk.namesV++x.sagas.flatMap Chk.namesG))))=R):=Lib.hid (by have h:=HJ.out;rw [HDj.out,List.flatMap_cons,List.append_assoc] at h;exact h)
   clear HJ HT
   go_wp2_with fail
   refine (rname_s yn _).mono ?_
   rintro e W2 ⟨rfl,rfl⟩
   cases hn:Tk.isName yn
   case false =>
    have HE:Hid (R=some yn):=Lib.hid (by rw [←HT1.out];exact Chk.firstF_f hn)
    go_wp2_with fail
    go_ret2
    exact ⟨by rw [HE.out];rfl,HL.out.bel⟩
   have HT:Hid (_=R):=Lib.hid ((Chk.firstF_t hn).symm.trans HT1.out)
   clear HT1
   go_wp2_with fail
   go_roundw
   case rel=>exact ⟨j+1,by omega,by go_num,by first | rfl | trivial,Lib.hid (HT.out)⟩
   case measure=>simp [intOf];omega
end Go.Proofs.YtlbihaikppkecaaGreatDoor
