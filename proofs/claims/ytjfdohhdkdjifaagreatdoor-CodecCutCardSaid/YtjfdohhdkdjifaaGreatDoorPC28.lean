/- the walk of CodecCut (printed by gen_claw.py). No condition but the keywords' table. -/
import Derived.Test.YtjfdohhdkdjifaaGreatDoorPC27
set_option linter.unusedVariables false
set_option linter.unusedSimpArgs false
namespace Go.Proofs.YtjfdohhdkdjifaaGreatDoor
open Go.RowKit Go.BigFrame
set_option maxRecDepth 100000 in
set_option maxHeartbeats 16000000 in
theorem codecCut_walk (sv:Value) (x:Id.Sch) (tv:Value) (t:List Id.Srt) (vs:Value) (v:List Vl.Node) (cut:Int) (mo:ByteArray) (w0:World) (hv:Id.SchV w0 none sv x) (ht:Id.SortsR w0 none tv t) (hvv:Vl.ValR w0 none vs v) (hok:∀ n∈v,Cd.OkN n) (hcut:(Lit.int .u16 cut).wf=true) (hmo:mo.size≤maxLen) (w:World) (he:w=w0) (hk:Tk.KW w) :
  Calls Tryz.prog 8 #[sv,tv,vs,.int .u16 cut,.string mo] w fun e w'=>e=.returned (.bool true)∧Below w.heap.size w w':=by
 subst he
 have HKW:=Lib.hid hk
 clear hk
 unfold maxLen at hmo
 obtain ⟨ct,rfl,hct⟩:∃ ct:Nat,cut=(ct:Int)∧ct<65536:=Cd.u16_nat hcut
 clear hcut
 have HV:=Lib.hid hv
 obtain ⟨A1,n1,c1,A2,n2,c2,A3,n3,c3,rfl,-,-,-⟩:=hv
 have HS:=Lib.hid ht
 obtain ⟨A,n,c,rfl⟩:=ERow.is ht
 have HN:Hid (n=t.length):=Lib.hid (by obtain ⟨_,_,e,_⟩:=ERow.slice ht;injection e)
 clear ht
 have HVV:=Lib.hid hvv
 have HOK:=Lib.hid hok
 obtain ⟨A9,n9,c9,rfl⟩:=ERow.is hvv
 have HN9:Hid (n9=v.length):=Lib.hid (by obtain ⟨_,_,e,_⟩:=ERow.slice hvv;injection e)
 clear hvv hok
 have done:∀ W,Below w.heap.size w W→Calls Tryz.prog 24 #[] W fun e w'=>e=.returned (.bool true)∧Below w.heap.size w w':=fun W hW=>(wakes16_any W (HKW.out.below hW)).mono fun _ _ ⟨h1,h2⟩=>⟨h1,hW.trans (h2.mono hW.size)⟩
 have HDN:=Lib.hid done
 clear done
 go_enter Tryz.func8,Tryz.ntmps8
 go_upto_region 1 with (fail)
 refine wp_named (fun V hV=>?_)
 have HL:=Lib.hid (Chk.Lx.start hV)
 clear hV
 obtain ⟨⟨q0,q1,q2,q3⟩,-⟩:=HL.out.box.k4
 go_wp2_with fail
 refine (vgreat_any _ x _ t _ v _ (Id.SchV.below HL.out.bel HV.out) (Id.SortsR.below HS.out HL.out.bel) (Vl.ValR.below HVV.out HL.out.bel)).mono ?_
 rintro e W1 ⟨b,rfl,hb,hg⟩
 have HG:=Lib.hid hg
 clear hg
 have HL2:=Lib.hid (HL.out.below hb)
 clear HL q0 q1 q2 q3
 have HL:=HL2
 clear HL2 hb
 obtain ⟨⟨q0,q1,q2,q3⟩,-⟩:=HL.out.box.k4
 cases b
 case true =>
  go_wp2_with fail
  refine (HDN.out _ HL.out.bel).mono ?_
  rintro e W9 ⟨rfl,hb9⟩
  go_wp2_with fail
  go_ret
  exact ⟨rfl,hb9⟩
 have HF:=Lib.hid (HG.out rfl)
 clear HG
 have HFi:=Lib.hid HF.out.sch.fine
 have HL9:Hid (v.length≤100000):=Lib.hid (Nat.le_trans HF.out.vl (by decide))
 have HZ9:Hid (∀ n∈v,n.text.size≤100000):=Lib.hid (fun n hn=>by obtain ⟨i,hi,rfl⟩:=List.getElem_of_mem hn;exact Nat.le_trans (HF.out.tx i hi) (by decide))
 by_cases hm2:mo.size≤2000
 case neg =>
  have m1:(2000:Int)<(mo.size:Int):=by omega
  go_wp2_with fail
  refine (HDN.out _ HL.out.bel).mono ?_
  rintro e W9 ⟨rfl,hb9⟩
  go_wp2_with fail
  go_ret
  exact ⟨rfl,hb9⟩
 have m1:¬(2000:Int)<(mo.size:Int):=by omega
 obtain ⟨R,HR⟩:∃ R,Hid (Vl.fits x t v=R):=⟨_,Lib.hid rfl⟩
 obtain ⟨B,HBB⟩:∃ B,Hid (Cd.encB R v=B):=⟨_,Lib.hid rfl⟩
 go_wp2_with fail
 refine (cencode_any _ x HFi.out _ t _ v HL9.out HZ9.out HOK.out _ (HKW.out.below HL.out.bel) (Id.SchV.below HL.out.bel HV.out) (Id.SortsR.below HS.out HL.out.bel) (Vl.ValR.below HVV.out HL.out.bel)).mono ?_
 rw [HR.out]
 rintro e W2 ⟨rfl,hb⟩
 have HL2:=Lib.hid (HL.out.below hb)
 clear HL q0 q1 q2 q3
 have HL:=HL2
 clear HL2 hb
 obtain ⟨⟨q0,q1,q2,q3⟩,-⟩:=HL.out.box.k4
 rw [HBB.out]
 by_cases hR:R=0
 case neg =>
  have t1:((R:Int) != 0)=true:=by rw [bne_iff_ne];omega
  have t2:¬(R:Int)=0:=by omega
  go_wp2_with fail
  refine (HDN.out _ HL.out.bel).mono ?_
  rintro e W9 ⟨rfl,hb9⟩
  go_wp2_with fail
  go_ret
  exact ⟨rfl,hb9⟩
 subst hR
 have HBE:=Lib.hid (Cd.back_facts HR.out HOK.out (show B=⟨(Cd.encGs v).toArray⟩ by rw [←HBB.out];unfold Cd.encB;rw [if_pos rfl]))
 have HBS:Hid (B.data.toList=Cd.encGs v):=Lib.hid (by rw [HBE.out.1])
 have hB:B.size≤100000:=HBE.out.2.1
 simp only [Int.cast_ofNat_Int]
 have HMORE:=Lib.hid (Cd.more_facts (m:=mo) HR.out HOK.out HBS.out)
 have HCUTF:=Lib.hid (Cd.cut_facts HFi.out HR.out HOK.out HBS.out)
 by_cases hz:0<B.size
 case pos =>
  have z1:(0:Int)<(B.size:Int):=by omega
  have z2:¬B.size=0:=by omega
  have z3:¬(B.size:Int)=0:=by omega
  obtain ⟨kc,hkc⟩:∃ kc,kc=ct % B.size:=⟨_,rfl⟩
  have hkl:kc<B.size:=by rw [hkc];exact Nat.mod_lt _ hz
  have z4:(ct:Int) % (B.size:Int)=(kc:Int):=by rw [hkc];exact (Int.natCast_emod ct B.size).symm
  clear hkc
  have z5:(0:Int)≤(kc:Int):=by omega
  have z6:(kc:Int)≤(B.size:Int):=by omega
  have z7:kc≤B.size:=by omega
  obtain ⟨BK,HBK⟩:∃ BK:ByteArray,Hid (B.extract 0 kc=BK):=⟨_,Lib.hid rfl⟩
  have hBK:BK.size≤1000000:=by rw [←HBK.out,ByteArray.size_extract];omega
  have HDK:Hid (Cd.decP x t BK.data.toList=([],kc,160)):=Lib.hid (by rw [←HBK.out];exact HCUTF.out kc hkl)
  have HCD:=Lib.hid (fun W hW1 hW2 hW3=>cdecode_any (.agg #[.string x.name,.slice A1 n1 c1,.slice A2 n2 c2,.slice A3 n3 c3]) x HFi.out (.slice A n c) t BK hBK W hW1 hW2 hW3)
  rw [HDK.out] at HCD
  go_upto_region 8 with (fail)
  have hxb:=HL.out.below ((Below.refl _ _).drew)
  refine wp_region_L_calm (fun w'=>Bk w' w.heap.size 28 #[.string x.name,.slice A1 n1 c1,.slice A2 n2 c2,.slice A3 n3 c3]) [5] (by kernel_rfl) HL.out.box.drew (fun hHeld=>?_)
  clear q0 q1 q2 q3 HL
  have HL:=Lib.hid hxb
  clear hxb
  (refine wpAnyL_take0 1 (v:=?_) rfl (by kernel_rfl) (by kernel_rfl) (by kernel_rfl) (by kernel_rfl) (fun _ _ _ h=>h) (fun _=>by assumption) (by rfl) ?_ ?_;rotate_left;· (intro w;go_simp;try with_reducible rfl);try simp only [Act.put,List.setIfInBounds_toArray,List.set_cons_zero,List.set_cons_succ])
  (refine wpAnyL_take0 2 (v:=?_) rfl (by kernel_rfl) (by kernel_rfl) (by kernel_rfl) (by kernel_rfl) (fun _ _ _ h=>h) (fun _=>by assumption) (by rfl) ?_ ?_;rotate_left;· (intro w;go_simp;try with_reducible rfl);try simp only [Act.put,List.setIfInBounds_toArray,List.set_cons_zero,List.set_cons_succ])
  (refine wpAnyL_take0 3 (v:=?_) rfl (by kernel_rfl) (by kernel_rfl) (by kernel_rfl) (by kernel_rfl) (fun _ _ _ h=>h) (fun _=>by assumption) (by rfl) ?_ ?_;rotate_left;· (intro w;go_simp;try with_reducible rfl);try simp only [Act.put,List.setIfInBounds_toArray,List.set_cons_zero,List.set_cons_succ])
  (refine wpAnyL_take0 4 (v:=?_) rfl (by kernel_rfl) (by kernel_rfl) (by kernel_rfl) (by kernel_rfl) (fun _ _ _ h=>h) (fun _=>by assumption) (by rfl) ?_ ?_;rotate_left;· (intro w;go_simp;try with_reducible rfl);try simp only [Act.put,List.setIfInBounds_toArray,List.set_cons_zero,List.set_cons_succ])
  (refine Lst.takeM 5 0 (v:=?_) rfl (by kernel_rfl) (by kernel_rfl) (by kernel_rfl) (by kernel_rfl) (by kernel_rfl) (by kernel_rfl) (fun _ _ _ h=>h) (by assumption) (by rfl) ?_ ?_;rotate_left;· (intro w hSw;obtain ⟨e0,e1,e2,e3⟩:=(Bk.k4 hSw).1;go_simp;try with_reducible rfl);try simp only [Act.put,List.setIfInBounds_toArray,List.set_cons_zero,List.set_cons_succ])
  (refine wpAnyL_step 5 (by kernel_rfl) rfl (fun K hK=>?_))
  go_simp
  rw [HBK.out]
  refine (HCD.out _ (HKW.out.below HL.out.bel) (Id.SchV.below HL.out.bel HV.out) (Id.SortsR.below HS.out HL.out.bel)).mono ?_
  rintro e W5 ⟨vv,rfl,hb,-⟩
  try simp only [Int.cast_ofNat_Int]
  have hHeld2:=hHeld.below hb hHeld.lt
  have HL2:=Lib.hid (HL.out.below hb)
  clear hb hHeld HL
  have HL:=HL2
  clear HL2
  (refine hK.out _ _ (fun hnn=>hHeld2) ?_;clear hK K;try simp only [Act.put,List.setIfInBounds_toArray,List.set_cons_zero,List.set_cons_succ])
  (refine wpAnyL_take0 6 (v:=?_) rfl (by kernel_rfl) (by kernel_rfl) (by kernel_rfl) (by kernel_rfl) (fun _ _ _ h=>h) (fun _=>by assumption) (by rfl) ?_ ?_;rotate_left;· (intro w;go_simp;try with_reducible rfl);try simp only [Act.put,List.setIfInBounds_toArray,List.set_cons_zero,List.set_cons_succ])
  (refine wpAnyL_take0 7 (v:=?_) rfl (by kernel_rfl) (by kernel_rfl) (by kernel_rfl) (by kernel_rfl) (fun _ _ _ h=>h) (fun _=>by assumption) (by rfl) ?_ ?_;rotate_left;· (intro w;go_simp;try with_reducible rfl);try simp only [Act.put,List.setIfInBounds_toArray,List.set_cons_zero,List.set_cons_succ])
  (refine wpAnyL_take0 8 (v:=?_) rfl (by kernel_rfl) (by kernel_rfl) (by kernel_rfl) (by kernel_rfl) (fun _ _ _ h=>h) (fun _=>by assumption) (by rfl) ?_ ?_;rotate_left;· (intro w;go_simp;try with_reducible rfl);try simp only [Act.put,List.setIfInBounds_toArray,List.set_cons_zero,List.set_cons_succ])
  (refine wpAnyL_take0 9 (v:=?_) rfl (by kernel_rfl) (by kernel_rfl) (by kernel_rfl) (by kernel_rfl) (fun _ _ _ h=>h) (fun _=>by assumption) (by rfl) ?_ ?_;rotate_left;· (intro w;go_simp;try with_reducible rfl);try simp only [Act.put,List.setIfInBounds_toArray,List.set_cons_zero,List.set_cons_succ])
  (refine wpAnyL_take0 10 (v:=?_) rfl (by kernel_rfl) (by kernel_rfl) (by kernel_rfl) (by kernel_rfl) (fun _ _ _ h=>h) (fun _=>by assumption) (by rfl) ?_ ?_;rotate_left;· (intro w;go_simp;try with_reducible rfl);try simp only [Act.put,List.setIfInBounds_toArray,List.set_cons_zero,List.set_cons_succ])
  (refine wpAnyL_take0 11 (v:=?_) rfl (by kernel_rfl) (by kernel_rfl) (by kernel_rfl) (by kernel_rfl) (fun _ _ _ h=>h) (fun _=>by assumption) (by rfl) ?_ ?_;rotate_left;· (intro w;go_simp;try with_reducible rfl);try simp only [Act.put,List.setIfInBounds_toArray,List.set_cons_zero,List.set_cons_succ])
  (refine wpAnyL_take0 12 (v:=?_) rfl (by kernel_rfl) (by kernel_rfl) (by kernel_rfl) (by kernel_rfl) (fun _ _ _ h=>h) (fun _=>by assumption) (by rfl) ?_ ?_;rotate_left;· (intro w;go_simp;try with_reducible rfl);try simp only [Act.put,List.setIfInBounds_toArray,List.set_cons_zero,List.set_cons_succ])
  refine wpAnyL_done (by kernel_rfl) ?_ _
  refine NoPanic.normal ?_
  clear hHeld2
  obtain ⟨⟨q0,q1,q2,q3⟩,-⟩:=HL.out.box.k4
  try simp only [Int.cast_ofNat_Int]
  have s1:B.size+mo.size≤102000:=by omega
  have s2:(9223372036854775807<B.size+mo.size)=False:=eq_false (by omega)
  obtain ⟨M,HM⟩:∃ M:ByteArray,Hid (B++mo=M):=⟨_,Lib.hid rfl⟩
  have hM:M.size≤102000:=by rw [←HM.out,ByteArray.size_append];omega
  go_upto_region 11 with (fail)
  go_wp2_with fail
  rw [HM.out]
  by_cases hme:mo.toList.isEmpty=true
  case pos =>
   have HDM:Hid (Cd.decP x t M.data.toList=(v,0,0)):=Lib.hid (by rw [←HM.out];exact HMORE.out.1 hme)
   refine (cdecode_any _ x HFi.out _ t M (by omega) _ (HKW.out.below HL.out.bel) (Id.SchV.below HL.out.bel HV.out) (Id.SortsR.below HS.out HL.out.bel)).mono ?_
   rw [HDM.out]
   rintro e W6 ⟨vv,rfl,hb,-⟩
   have HL2:=Lib.hid (HL.out.below hb)
   clear HL q0 q1 q2 q3
   have HL:=HL2
   clear HL2 hb
   obtain ⟨⟨q0,q1,q2,q3⟩,-⟩:=HL.out.box.k4
   simp only [Int.cast_ofNat_Int]
   go_wp2_with fail
   refine (HDN.out _ HL.out.bel).mono ?_
   rintro e W9 ⟨rfl,hb9⟩
   go_wp2_with fail
   go_ret
   exact ⟨rfl,hb9⟩
  have hmf:mo.toList.isEmpty=false:=by simpa using hme
  have HDM:Hid (Cd.decP x t M.data.toList=([],B.size,162)):=Lib.hid (by rw [←HM.out];exact HMORE.out.2 hmf)
  refine (cdecode_any _ x HFi.out _ t M (by omega) _ (HKW.out.below HL.out.bel) (Id.SchV.below HL.out.bel HV.out) (Id.SortsR.below HS.out HL.out.bel)).mono ?_
  rw [HDM.out]
  rintro e W6 ⟨vv,rfl,hb,-⟩
  have HL2:=Lib.hid (HL.out.below hb)
  clear HL q0 q1 q2 q3
  have HL:=HL2
  clear HL2 hb
  obtain ⟨⟨q0,q1,q2,q3⟩,-⟩:=HL.out.box.k4
  simp only [Int.cast_ofNat_Int]
  go_wp2_with fail
  refine (HDN.out _ HL.out.bel).mono ?_
  rintro e W9 ⟨rfl,hb9⟩
  go_wp2_with fail
  go_ret
  exact ⟨rfl,hb9⟩
 have z1:¬(0:Int)<(B.size:Int):=by omega
 have z2:B.size=0:=by omega
 have s1:B.size+mo.size≤102000:=by omega
 have s2:(9223372036854775807<B.size+mo.size)=False:=eq_false (by omega)
 obtain ⟨M,HM⟩:∃ M:ByteArray,Hid (B++mo=M):=⟨_,Lib.hid rfl⟩
 have hM:M.size≤102000:=by rw [←HM.out,ByteArray.size_append];omega
 go_upto_region 11 with (fail)
 go_wp2_with fail
 rw [HM.out]
 by_cases hme:mo.toList.isEmpty=true
 case pos =>
  have HDM:Hid (Cd.decP x t M.data.toList=(v,0,0)):=Lib.hid (by rw [←HM.out];exact HMORE.out.1 hme)
  refine (cdecode_any _ x HFi.out _ t M (by omega) _ (HKW.out.below HL.out.bel) (Id.SchV.below HL.out.bel HV.out) (Id.SortsR.below HS.out HL.out.bel)).mono ?_
  rw [HDM.out]
  rintro e W6 ⟨vv,rfl,hb,-⟩
  have HL2:=Lib.hid (HL.out.below hb)
  clear HL q0 q1 q2 q3
  have HL:=HL2
  clear HL2 hb
  obtain ⟨⟨q0,q1,q2,q3⟩,-⟩:=HL.out.box.k4
  simp only [Int.cast_ofNat_Int]
  go_wp2_with fail
  refine (HDN.out _ HL.out.bel).mono ?_
  rintro e W9 ⟨rfl,hb9⟩
  go_wp2_with fail
  go_ret
  exact ⟨rfl,hb9⟩
 have hmf:mo.toList.isEmpty=false:=by simpa using hme
 have HDM:Hid (Cd.decP x t M.data.toList=([],B.size,162)):=Lib.hid (by rw [←HM.out];exact HMORE.out.2 hmf)
 refine (cdecode_any _ x HFi.out _ t M (by omega) _ (HKW.out.below HL.out.bel) (Id.SchV.below HL.out.bel HV.out) (Id.SortsR.below HS.out HL.out.bel)).mono ?_
 rw [HDM.out]
 rintro e W6 ⟨vv,rfl,hb,-⟩
 have HL2:=Lib.hid (HL.out.below hb)
 clear HL q0 q1 q2 q3
 have HL:=HL2
 clear HL2 hb
 obtain ⟨⟨q0,q1,q2,q3⟩,-⟩:=HL.out.box.k4
 simp only [Int.cast_ofNat_Int]
 go_wp2_with fail
 refine (HDN.out _ HL.out.bel).mono ?_
 rintro e W9 ⟨rfl,hb9⟩
 go_wp2_with fail
 go_ret
 exact ⟨rfl,hb9⟩
end Go.Proofs.YtjfdohhdkdjifaaGreatDoor
