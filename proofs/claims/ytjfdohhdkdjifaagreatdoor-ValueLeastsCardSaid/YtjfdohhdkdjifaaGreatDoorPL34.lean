/- value.Least and redressref15.Least. No condition but the keywords' table and the ones the theorems state. -/
import Derived.Test.YtjfdohhdkdjifaaGreatDoorPL33
import Derived.Test.YtjfdohhdkdjifaaGreatDoorPL20
import Derived.Test.YtjfdohhdkdjifaaGreatDoorPL29
import Derived.Test.YtjfdohhdkdjifaaGreatDoorPL02
import Derived.ProofKit
import Derived.LaidMore
import Derived.OpenShut
import Derived.Stop.Joined
set_option linter.unusedVariables false
set_option linter.unusedSimpArgs false
namespace Go.Proofs.YtjfdohhdkdjifaaGreatDoor
open Go.RowKit Go.BigFrame
namespace Vl
open Go.Proofs.YtjfdohhdkdjifaaGreatDoor.Id Go.Proofs.YtjfdohhdkdjifaaGreatDoor.Chk
noncomputable def lstR (x:Sch) (t:List Srt):Option (List Node) × Nat:=leastE x t (lstK x) (typE x t)
theorem lstR_of {x:Sch} {t:List Srt} {kn:Kn} (h:Min x kn):lstR x t=leastE x t kn (typE x t):=by
 have e:lstK x=kn:=funext fun n=>Min.uniq (lstK_min x) h n
 unfold lstR
 rw [e]
theorem lstR_typ {x:Sch} {t:List Srt} (h:typE x t≠0):lstR x t=(none,typE x t):=by unfold lstR leastE;rw [if_pos h]
theorem lstR_deep {x:Sch} {t:List Srt} {kn:Kn} (hM:Min x kn) (h:typE x t=0) (hd:12<dpt kn t):lstR x t=(none,151):=by rw [lstR_of hM];unfold leastE;rw [if_neg (by omega),if_pos hd]
theorem lstR_long {x:Sch} {t:List Srt} {kn:Kn} (hM:Min x kn) (h:typE x t=0) (hd:¬12<dpt kn t) (hl:4096<(bldF x kn 12 t).length):lstR x t=(none,3):=by rw [lstR_of hM];unfold leastE;rw [if_neg (by omega),if_neg hd,if_pos hl]
theorem lstR_ok {x:Sch} {t:List Srt} {kn:Kn} (hM:Min x kn) (h:typE x t=0) (hd:¬12<dpt kn t) (hl:¬4096<(bldF x kn 12 t).length):lstR x t=(some (bldF x kn 12 t),0):=by rw [lstR_of hM];unfold leastE;rw [if_neg (by omega),if_neg hd,if_neg hl]
def LeastP (x:Sch) (t:List Srt) (w:World) (e:Ending) (w':World):Prop:=∃ u,e=.returned (.tuple #[u,.int .i64 (lstR x t).2])∧Below w.heap.size w w'∧ValR w' (some w.heap.size) u ((lstR x t).1.getD [])
theorem LeastP.no {x:Sch} {t:List Srt} {w w':World} {e:Nat} (h:lstR x t=(none,e)) (hb:Below w.heap.size w w'):LeastP x t w (.returned (.tuple #[.slice none 0 0,.int .i64 e])) w':=⟨_,by rw [h],hb,by rw [h];exact ERow.nil _ _ _ _ _⟩
theorem LeastP.yes {x:Sch} {t:List Srt} {w w':World} {B:Nat} {u:Value} {l:List Node} (h:lstR x t=(some l,0)) (hb:Below w.heap.size w w') (hB:w.heap.size≤B) (hr:ERow w' (some B) 71 4 NodE u l):LeastP x t w (.returned (.tuple #[u,.int .i64 0])) w' :=
 ⟨_,by rw [h];rfl,hb,by rw [h];exact ERow.mono hr (fun _ _ hr=>hr.weak (fun b' e=>⟨_,rfl,by injection e with e;omega⟩)) (fun _ _ h=>h)⟩
end Vl
set_option maxRecDepth 100000 in
set_option maxHeartbeats 16000000 in
theorem vleast_any (sv:Value) (x:Id.Sch) (hF:Chk.Fine x) (tv:Value) (t:List Id.Srt) (w:World) (hk:Tk.KW w) (hv:Id.SchV w none sv x) (ht:Id.SortsR w none tv t) (hz:∀ y∈t,y.name.size≤1000) :
  Calls Tryz.prog 21 #[sv,tv] w (Vl.LeastP x t w):=by
 have HKW:=Lib.hid hk
 have HF:=Lib.hid hF
 have HV:=Lib.hid hv
 have HS:=Lib.hid ht
 have HZ:=Lib.hid hz
 obtain ⟨A1,n1,c1,A2,n2,c2,A3,n3,c3,rfl,-,-,-⟩:=hv
 clear hk hF ht hz
 go_enter Tryz.func21,Tryz.ntmps21
 go_upto_region 1 with (fail)
 refine wp_named (fun V hV=>?_)
 have HL:=Lib.hid (Chk.Lx.start hV)
 clear hV
 obtain ⟨⟨q0,q1,q2,q3⟩,-⟩:=HL.out.box.k4
 go_wp2_with fail
 refine (vtypes_any _ x HF.out _ t _ (HKW.out.below HL.out.bel) (HV.out.below HL.out.bel) (ERow.below HS.out HL.out.bel (fun _ _ h=>h))).mono ?_
 rintro e W1 ⟨rfl,hb⟩
 have HL1:=Lib.hid (HL.out.below hb)
 clear hb HL q0 q1 q2 q3
 obtain ⟨ce,HC⟩:∃ c,Hid (Vl.typE x t=c):=⟨_,Lib.hid rfl⟩
 rw [HC.out]
 by_cases h0:ce=0
 case neg =>
  have t0:((ce:Int) != 0)=true:=by rw [bne_iff_ne];omega
  have t1:¬(ce:Int)=0:=by omega
  have HX:Hid (Vl.lstR x t=(none,ce)):=Lib.hid (by rw [Vl.lstR_typ (by rw [HC.out];exact h0),HC.out])
  go_wp2_with fail
  go_ret2
  exact Vl.LeastP.no HX.out HL1.out.bel
 subst h0
 have HRT:=Lib.hid (Vl.typ_ok HC.out)
 have HOT:=Lib.hid (Vl.right_okT HRT.out.2).1
 try simp only [Int.cast_ofNat_Int]
 obtain ⟨⟨q0,q1,q2,q3⟩,-⟩:=HL1.out.box.k4
 go_wp2_with fail
 refine (vdepths_any _ x HRT.out.1 HF.out _ (HV.out.below HL1.out.bel)).mono ?_
 rintro e W2 ⟨mb,kn,p,rfl,hb,-,hm,hM,hkn⟩
 have HL2:=Lib.hid (HL1.out.below hb)
 have HKM:=Lib.hid hm
 have HM:=Lib.hid hM
 have HKN:=Lib.hid hkn
 have HD0:=Lib.hid (hM.of_right HRT.out.1 HOT.out)
 clear hb hm hM hkn HL1 q0 q1 q2 q3
 go_upto_region 5 with (fail)
 refine wp_named (fun W3 hW=>?_)
 obtain ⟨hb3,hq3,-⟩:=fresh_box hW
 clear hW
 have HL3:=Lib.hid (HL2.out.below hb3)
 have HKM3:=Lib.hid (HKM.out.below hb3)
 have HGK:=Lib.hid hq3
 obtain ⟨gk,hgk⟩:∃ g,W2.heap.size=g:=⟨_,rfl⟩
 rw [hgk] at HGK ⊢
 clear hb3 hq3 hgk HKM HL2
 obtain ⟨k0,-⟩:=HGK.out.k1
 obtain ⟨d,Hd⟩:∃ d,Hid (Vl.dpt kn t=d):=⟨_,Lib.hid rfl⟩
 go_wp2_with fail
 refine (vdepth_any mb p kn _ t (Vl.okT_ne HOT.out) HZ.out _ HKM3.out (ERow.below HS.out HL3.out.bel (fun _ _ h=>h))).mono ?_
 rw [Hd.out]
 rintro e W4 ⟨rfl,q,rfl⟩
 have hq4:Below W3.heap.size W3 (W3.drewN q):=below_drewN (Below.refl _ _) q
 have HL4:=Lib.hid (HL3.out.below hq4)
 have HKM4:=Lib.hid (HKM3.out.below hq4)
 have HGK4:=Lib.hid (HGK.out.below hq4 HGK.out.lt)
 clear k0 hq4 HL3 HKM3 HGK
 generalize W3.drewN q=W4 at *
 by_cases hdd:12<d
 case pos =>
  have t1:(12:Int)<(d:Int):=by omega
  have HX:Hid (Vl.lstR x t=(none,151)):=Lib.hid (Vl.lstR_deep HM.out HC.out (by rw [Hd.out];exact hdd))
  go_wp2_with fail
  go_ret2
  exact Vl.LeastP.no HX.out HL4.out.bel
 have t1:¬(12:Int)<(d:Int):=by omega
 obtain ⟨⟨q0,q1,q2,q3⟩,-⟩:=HL4.out.box.k4
 go_wp2_with fail
 refine (vfinder_any _ x (fun r hr=>by have:=Vl.name_size ((Prn.ok_of_right HRT.out.1).rn r hr);omega) HF.out.recs _ (HV.out.below HL4.out.bel)).mono ?_
 rintro e W5 ⟨g,m,rfl,hb,hf⟩
 have HL5:=Lib.hid (HL4.out.below hb)
 have HFN:=Lib.hid hf
 have HB45:=Lib.hid hb
 have HKM5:=Lib.hid (HKM4.out.below hb)
 have HGK5:=Lib.hid (HGK4.out.below hb HGK4.out.lt)
 clear hb hf q0 q1 q2 q3 HKM4 HGK4
 have hsf1:=fun (a:Addr) (c:Array Value) (w:World)=>run_store Tryz.prog w a (.func (.func 111) #[] c) .plain rfl
 have hsf2:=fun (a:Addr) (c:Array Value) (w:World)=>run_store Tryz.prog w a (.func (.func 64) #[] c) .plain rfl
 go_upto_region 8 with (fail)
 refine wp_named (fun W6 hW=>?_)
 obtain ⟨hb6,hq6,-⟩:=fresh_box hW
 clear hW
 go_upto_region 9 with (fail)
 refine wp_named (fun W7 hW=>?_)
 obtain ⟨hb7,hq7,-⟩:=fresh_box hW
 clear hW
 go_upto_region 10 with (fail)
 refine wp_named (fun W8 hW=>?_)
 obtain ⟨hb8,hq8,-⟩:=fresh_box hW
 clear hW
 have z6:=hb6.size
 have z7:=hb7.size
 have z8:=hb8.size
 have hl6:=hq6.lt
 have hl7:=hq7.lt
 have hl8:=hq8.lt
 have hs45:=HB45.out.size
 have hb68:=hb7.trans (hb8.mono z7)
 have hb58:=hb6.trans (hb68.mono z6)
 have HL8:=Lib.hid (HL5.out.below hb58)
 have HGF:=Lib.hid ((hq6.below hb68 hq6.lt))
 have HGO:=Lib.hid (hq7.below hb8 hq7.lt)
 have HGB:=Lib.hid hq8
 have HGK8:=Lib.hid (HGK5.out.below hb58 HGK5.out.lt)
 have HKM8:=Lib.hid (HKM5.out.below hb58)
 have HFN8:=Lib.hid (HFN.out.below hb58)
 obtain ⟨gf,hgf⟩:∃ g,W5.heap.size=g:=⟨_,rfl⟩
 obtain ⟨go,hgo⟩:∃ g,W6.heap.size=g:=⟨_,rfl⟩
 obtain ⟨gb,hgb⟩:∃ g,W7.heap.size=g:=⟨_,rfl⟩
 have HB48:=Lib.hid (HB45.out.trans (hb58.mono hs45))
 rw [hgf] at HGF hl6 hs45 ⊢
 rw [hgo] at HGO hl7 ⊢
 rw [hgb] at HGB hl8 ⊢
 have hgo4:W4.heap.size≤go:=by omega
 have hgo8:go<W8.heap.size:=by omega
 clear hb6 hb7 hb8 hq6 hq7 hq8 hb68 hb58 HGK5 HKM5 HFN HL5 HB45
 obtain ⟨b0,bf0⟩:=HGB.out.k1
 go_upto_region 11 with (fail)
 refine wp_named (fun W9 hW=>?_)
 have hsz:W9.heap.size=W8.heap.size:=by subst hW;simp
 have HLb:Hid (Vl.Lb x kn W4 W9 go gf gk gb g m mb p W9.heap.size (.slice none 0 0) []):=Lib.hid (by
  have hgb8:W4.heap.size≤gb:=by omega
  have q0:=HGO.out
  have q1:=HGF.out
  have q2:=HGK8.out
  have q4:=HFN8.out.bx
  have q3:=HGB.out
  have hs:Only 120 W8 (W8.setCell ⟨gb,0,none⟩ (Vl.bldV go gf gk gb)):=Only.set q3 0 _
  have hmap:∀ b es clock,W8.heap[b]?=some (Obj.map es clock)→(W8.setCell ⟨gb,0,none⟩ (Vl.bldV go gf gk gb)).heap[b]?=some (Obj.map es clock):=fun b es clock hh=>hs.block b _ hh (fun _ _ e=>by cases e)
  have hW2:W9=W8.setCell ⟨gb,0,none⟩ (Vl.bldV go gf gk gb):=hW
  rw [hsz]
  rw [hW2]
  exact ⟨q0.far (Vl.bk_ne q0 q3 (by decide)) _,ERow.nil _ _ _ _ _,q1.far (Vl.bk_ne q1 q3 (by decide)) _,q2.far (Vl.bk_ne q2 q3 (by decide)) _,q3.set_ 0 _,⟨q4.far (Vl.bk_ne q4 q3 (by decide)) _,HFN8.out.lo,HFN8.out.lom,HFN8.out.fm.of_heap (hmap _)⟩,HKM8.out.of_heap (hmap _),HB48.out.setCell (p:=⟨gb,0,none⟩) hgb8 _,hgo4,hgo8,by simp⟩)
 clear hW b0 bf0 hsz HGO HGF HGB HGK8 HKM8 HFN8 hsf1 hsf2
 have HIC:=Lib.hid (vbld_any x kn HRT.out.1 HF.out HM.out HKN.out W4 go gf gk gb g m mb p W9.heap.size 12 tv t (.slice none 0 0) [] W9 HLb.out (ERow.below HS.out HL4.out.bel (fun _ _ h=>h)) HOT.out HD0.out (by rw [Hd.out];omega) (by simp))
 have c0:W9.cell? ⟨gb,0,none⟩=some (.func (.func 64) #[] #[.pointer (some ⟨go,0,none⟩),.pointer (some ⟨gf,0,none⟩),.pointer (some ⟨gk,0,none⟩),.pointer (some ⟨gb,0,none⟩)]):=(HLb.out.bld.k1).1
 go_wp2_with fail
 refine HIC.out.mono ?_
 rintro e W10 ⟨b,v',o',rfl,hon,hlb,ht1,ht2⟩
 have HLF:=Lib.hid hlb
 have HT1:=Lib.hid ht1
 have HT2:=Lib.hid ht2
 have HBF:=Lib.hid (HL4.out.bel.trans (hlb.bel.mono HL4.out.bel.size))
 have hBw:w.heap.size≤W9.heap.size:=Nat.le_trans HL4.out.bel.size (Nat.le_trans hlb.lo (Nat.le_of_lt hlb.lob))
 clear hon hlb ht1 ht2 c0
 have hdd2:¬12<Vl.dpt kn t:=by rw [Hd.out];exact hdd
 cases b
 case false =>
  have HX:Hid (Vl.lstR x t=(none,3)):=Lib.hid (Vl.lstR_long HM.out HC.out hdd2 (by have h:=HT2.out (by first | rfl | trivial);simpa using h))
  go_wp2_with fail
  go_ret2
  exact Vl.LeastP.no HX.out HBF.out
 have h1:=HT1.out (by first | rfl | trivial)
 rw [List.nil_append] at h1
 obtain ⟨h2,h3⟩:=h1
 subst h2
 have HX:=Lib.hid (Vl.lstR_ok HM.out HC.out hdd2 (by omega))
 obtain ⟨A9,n9,c9,rfl⟩:=ERow.is HLF.out.row
 obtain ⟨o0,-⟩:=HLF.out.out.k1
 go_wp2_with fail
 go_ret2
 exact Vl.LeastP.yes HX.out HBF.out hBw HLF.out.row
set_option maxRecDepth 100000 in
set_option maxHeartbeats 16000000 in
theorem rleast_any (sv:Value) (x:Id.Sch) (hF:Chk.Fine x) (tv:Value) (t:List Id.Srt) (w:World) (hv:Id.SchV w none sv x) (ht:Id.SortsR w none tv t) :
  Calls Tryz.prog 22 #[sv,tv] w (Vl.LeastP x t w):=by
 have HF:=Lib.hid hF
 have HV:=Lib.hid hv
 have HS:=Lib.hid ht
 obtain ⟨A1,n1,c1,A2,n2,c2,A3,n3,c3,rfl,-,-,-⟩:=hv
 obtain ⟨NR,HNR⟩:∃ n,Hid (x.records.length=n):=⟨_,Lib.hid rfl⟩
 clear hF ht
 go_enter Tryz.func22,Tryz.ntmps22
 go_upto_region 1 with (fail)
 refine wp_named (fun V hV=>?_)
 have HL:=Lib.hid (Chk.Lx.start hV)
 clear hV
 obtain ⟨⟨q0,q1,q2,q3⟩,-⟩:=HL.out.box.k4
 go_wp2_with fail
 refine (rtypes_any _ x HF.out _ t _ (HV.out.below HL.out.bel) (ERow.below HS.out HL.out.bel (fun _ _ h=>h))).mono ?_
 rintro e W1 ⟨rfl,hb⟩
 have HL1:=Lib.hid (HL.out.below hb)
 clear hb HL q0 q1 q2 q3
 obtain ⟨ce,HC⟩:∃ c,Hid (Vl.typE x t=c):=⟨_,Lib.hid rfl⟩
 rw [HC.out]
 by_cases h0:ce=0
 case neg =>
  have t0:((ce:Int) != 0)=true:=by rw [bne_iff_ne];omega
  have t1:¬(ce:Int)=0:=by omega
  have HX:Hid (Vl.lstR x t=(none,ce)):=Lib.hid (by rw [Vl.lstR_typ (by rw [HC.out];exact h0),HC.out])
  go_wp2_with fail
  go_ret2
  exact Vl.LeastP.no HX.out HL1.out.bel
 subst h0
 have HRT:=Lib.hid (Vl.typ_ok HC.out)
 have HOT:=Lib.hid (Vl.right_okT HRT.out.2).1
 obtain ⟨kn,HM⟩:∃ kn,Hid (Vl.Min x kn):=⟨_,Lib.hid (Vl.lstK_min x)⟩
 have HD0:=Lib.hid (HM.out.of_right HRT.out.1 HOT.out)
 have HZK:Hid (∀ n,Chk.find x n=none→Vl.kdF kn 12 n=0):=Lib.hid (fun n hn=>Vl.kd_zero HM.out 12 hn)
 try simp only [Int.cast_ofNat_Int]
 obtain ⟨⟨q0,q1,q2,q3⟩,-⟩:=HL1.out.box.k4
 go_wp2_with fail
 refine (rdepths_any _ x HRT.out.1 HF.out kn HM.out _ (HV.out.below HL1.out.bel)).mono ?_
 rintro e W2 ⟨g,rfl,hg,hb⟩
 have HL2:=Lib.hid (HL1.out.below hb)
 have HG:=Lib.hid hg
 clear hb hg HL1 q0 q1 q2 q3
 rw [HNR.out]
 obtain ⟨⟨q0,q1,q2,q3⟩,-⟩:=HL2.out.box.k4
 obtain ⟨d,Hd⟩:∃ d,Hid (Vl.dpt (Vl.kdF kn 12) t=d):=⟨_,Lib.hid rfl⟩
 go_wp2_with fail
 refine (rdepth_any _ x HF.out (Vl.kdF kn 12) HZK.out _ t (Vl.okT_ne HOT.out) g NR NR _ (HV.out.below HL2.out.bel) (ERow.below HS.out HL2.out.bel (fun _ _ h=>h)) HNR.out.symm HG.out).mono ?_
 rw [Hd.out]
 rintro e W3 ⟨rfl,hb⟩
 have HL3:=Lib.hid (HL2.out.below hb)
 have HG3:=Lib.hid (HG.out.below hb HG.out.lt)
 clear hb HL2 HG q0 q1 q2 q3
 have HDD:Hid (d=0↔12<Vl.dpt kn t):=Lib.hid (by rw [←Hd.out];exact Vl.dpt_kd_le HD0.out)
 by_cases hd0:d=0
 case pos =>
  have HX:Hid (Vl.lstR x t=(none,151)):=Lib.hid (Vl.lstR_deep HM.out HC.out (HDD.out.1 hd0))
  subst hd0
  try simp only [Int.cast_ofNat_Int]
  go_wp2_with fail
  go_ret2
  exact Vl.LeastP.no HX.out HL3.out.bel
 have t1:((d:Int)==0)=false:=beq_eq_false_iff_ne.2 (by omega)
 have t2:¬(d:Int)=0:=by omega
 have hdd2:¬12<Vl.dpt kn t:=fun h=>hd0 (HDD.out.2 h)
 have HD12:Hid (Vl.dpt kn t≤12):=Lib.hid (by omega)
 obtain ⟨⟨q0,q1,q2,q3⟩,-⟩:=HL3.out.box.k4
 have hRB:=rbld_any x kn HRT.out.1 HF.out HM.out _ W3 g W3.heap.size (Nat.le_refl _) (HV.out.below HL3.out.bel) HG3.out 12 tv t (.slice none 0 0) [] W3 (Below.refl _ _) (Nat.le_refl _) (ERow.nil _ _ _ _ _) (ERow.below HS.out HL3.out.bel (fun _ _ h=>h)) HOT.out HD0.out HD12.out HD12.out
 rw [HNR.out] at hRB
 have HRB:=Lib.hid hRB
 clear hRB
 go_wp2_with fail
 refine HRB.out.mono ?_
 rintro e W4 ⟨v',o',rfl,hr,hb,-,hp1,hp2⟩
 have HB4:=Lib.hid (HL3.out.bel.trans (hb.mono HL3.out.bel.size))
 have hBw:w.heap.size≤W3.heap.size:=HL3.out.bel.size
 obtain ⟨A9,n9,c9,rfl⟩:=ERow.is hr
 have HN9:Hid (n9=o'.length):=Lib.hid (by obtain ⟨_,_,e,_⟩:=ERow.slice hr;injection e)
 have HR:=Lib.hid hr
 have HP1:=Lib.hid hp1
 have HP2:=Lib.hid hp2
 clear hr hb hp1 hp2 q0 q1 q2 q3
 by_cases hlen:4096<(Vl.bldF x kn 12 t).length
 case pos =>
  have HX:Hid (Vl.lstR x t=(none,3)):=Lib.hid (Vl.lstR_long HM.out HC.out hdd2 hlen)
  have h9:4096<n9:=by rw [HN9.out];exact HP2.out (by simpa using hlen)
  have t3:(4096:Int)<(n9:Int):=by omega
  go_wp2_with fail
  go_ret2
  exact Vl.LeastP.no HX.out HB4.out
 have HX:=Lib.hid (Vl.lstR_ok HM.out HC.out hdd2 hlen)
 have ho:o'=Vl.bldF x kn 12 t:=by have h:=HP1.out (by simp;omega);simpa using h
 subst ho
 have t3:¬(4096:Int)<(n9:Int):=by have:=HN9.out;omega
 go_wp2_with fail
 go_ret2
 exact Vl.LeastP.yes HX.out HB4.out hBw HR.out
end Go.Proofs.YtjfdohhdkdjifaaGreatDoor
set_option linter.unusedVariables false
set_option linter.unusedSimpArgs false
namespace Go.Proofs.YtjfdohhdkdjifaaGreatDoor
open Go.RowKit Go.BigFrame
namespace Vl
open Go.Proofs.YtjfdohhdkdjifaaGreatDoor.Id Go.Proofs.YtjfdohhdkdjifaaGreatDoor.Chk
theorem lstR_len (x:Sch) (t:List Srt):((lstR x t).1.getD []).length≤4096:=by
 unfold lstR leastE
 split
 ·simp
 ·split
  ·simp
  ·split
   ·simp
   ·rename_i h
    simp only [Option.getD_some]
    omega
end Vl
end Go.Proofs.YtjfdohhdkdjifaaGreatDoor
set_option linter.unusedVariables false
set_option linter.unusedSimpArgs false
namespace Go.Proofs.YtjfdohhdkdjifaaGreatDoor
open Go.RowKit Go.BigFrame
set_option maxRecDepth 100000 in
set_option maxHeartbeats 16000000 in
theorem valueLeasts_walk (sv:Value) (x:Id.Sch) (tv:Value) (t:List Id.Srt) (w0:World) (hv:Id.SchV w0 none sv x) (ht:Id.SortsR w0 none tv t) (w:World) (he:w=w0) (hk:Tk.KW w) :
  Calls Tryz.prog 4 #[sv,tv] w fun e w'=>e=.returned (.bool true)∧Below w.heap.size w w':=by
 subst he
 have HKW:=Lib.hid hk
 clear hk
 have HV:=Lib.hid hv
 obtain ⟨A1,n1,c1,A2,n2,c2,A3,n3,c3,rfl,-,-,-⟩:=hv
 have HS:=Lib.hid ht
 obtain ⟨A,n,c,rfl⟩:=ERow.is ht
 have HN:Hid (n=t.length):=Lib.hid (by obtain ⟨_,_,e,_⟩:=ERow.slice ht;injection e)
 clear ht
 have done:∀ W,Below w.heap.size w W→Calls Tryz.prog 20 #[] W fun e w'=>e=.returned (.bool true)∧Below w.heap.size w w':=fun W hW=>(wakes15_any W (HKW.out.below hW)).mono fun _ _ ⟨h1,h2⟩=>⟨h1,hW.trans (h2.mono hW.size)⟩
 have HDN:=Lib.hid done
 clear done
 go_enter Tryz.func4,Tryz.ntmps4
 go_upto_region 1 with (fail)
 refine wp_named (fun V hV=>?_)
 have HL:=Lib.hid (Chk.Lx.start hV)
 clear hV
 obtain ⟨⟨q0,q1,q2,q3⟩,-⟩:=HL.out.box.k4
 go_wp2_with fail
 refine (vgreat_any _ x _ t _ [] _ (Id.SchV.below HL.out.bel HV.out) (Id.SortsR.below HS.out HL.out.bel) (ERow.nil_none _ _ _ _)).mono ?_
 rintro e W1 ⟨b,rfl,hb,hg⟩
 have HG:=Lib.hid hg
 clear hg
 have HL2:=Lib.hid (HL.out.below hb)
 clear HL q0 q1 q2 q3
 have HL:=HL2
 clear HL2 hb
 obtain ⟨⟨q0,q1,q2,q3⟩,-⟩:=HL.out.box.k4
 cases b
 case true =>
  go_wp2_with fail
  refine (HDN.out _ HL.out.bel).mono ?_
  rintro e W9 ⟨rfl,hb9⟩
  go_wp2_with fail
  go_ret
  exact ⟨rfl,hb9⟩
 have HF:=Lib.hid (HG.out rfl)
 clear HG
 have HFi:=Lib.hid HF.out.sch.fine
 have HZt:Hid (∀ y∈t,y.name.size≤1000):=Lib.hid (fun y hy=>by obtain ⟨i,hi,rfl⟩:=List.getElem_of_mem hy;exact Nat.le_trans (HF.out.nm i hi) (by decide))
 obtain ⟨P,HP⟩:∃ P,Hid (Vl.lstR x t=P):=⟨_,Lib.hid rfl⟩
 have HPL:Hid ((P.1.getD []).length≤100000):=Lib.hid (by rw [←HP.out];exact Nat.le_trans (Vl.lstR_len x t) (by decide))
 go_wp2_with fail
 refine (vleast_any _ x HFi.out _ t _ (HKW.out.below HL.out.bel) (Id.SchV.below HL.out.bel HV.out) (Id.SortsR.below HS.out HL.out.bel) HZt.out).mono ?_
 unfold Vl.LeastP
 rw [HP.out]
 rintro e W2 ⟨u2,rfl,hb,hu⟩
 have HU2:=Lib.hid hu.none
 clear hu
 have HL2:=Lib.hid (HL.out.below hb)
 clear HL q0 q1 q2 q3
 have HL:=HL2
 clear HL2 hb
 obtain ⟨⟨q0,q1,q2,q3⟩,-⟩:=HL.out.box.k4
 obtain ⟨A5,n5,c5,rfl⟩:=ERow.is HU2.out
 go_wp2_with fail
 refine (rleast_any _ x HFi.out _ t _ (Id.SchV.below HL.out.bel HV.out) (Id.SortsR.below HS.out HL.out.bel)).mono ?_
 unfold Vl.LeastP
 rw [HP.out]
 rintro e W3 ⟨u3,rfl,hb,hu⟩
 have HU3:=Lib.hid hu.none
 have HU4:=Lib.hid (Vl.ValR.below HU2.out hb)
 clear hu
 have HL2:=Lib.hid (HL.out.below hb)
 clear HL q0 q1 q2 q3
 have HL:=HL2
 clear HL2 hb
 obtain ⟨⟨q0,q1,q2,q3⟩,-⟩:=HL.out.box.k4
 obtain ⟨A6,n6,c6,rfl⟩:=ERow.is HU3.out
 go_wp2_with fail
 refine (rsame15_any _ _ _ _ _ HU4.out HU3.out HPL.out).mono ?_
 rw [Vl.sameF_refl]
 rintro e W4 ⟨rfl,hb⟩
 have HL2:=Lib.hid (HL.out.below hb)
 clear HL q0 q1 q2 q3
 have HL:=HL2
 clear HL2 hb
 obtain ⟨⟨q0,q1,q2,q3⟩,-⟩:=HL.out.box.k4
 go_wp2_with fail
 refine (HDN.out _ HL.out.bel).mono ?_
 rintro e W9 ⟨rfl,hb9⟩
 go_wp2_with fail
 go_ret
 exact ⟨rfl,hb9⟩
end Go.Proofs.YtjfdohhdkdjifaaGreatDoor
set_option linter.unusedVariables false
namespace Go.Proofs.YtjfdohhdkdjifaaGreatDoor
open Go.ChangeShapes Go.WideShapes Go.ChangeAt Go.RowKit
namespace Kw
theorem gK : Tryz.prog.globalNamed "redress/token.keywords" = some 0 := by kernel_rfl
theorem tK:(Tryz.prog.globals[0]?).map (·.type)=some 234:=by kernel_rfl
theorem c9:Tryz.prog.cellsOf 9=1:=by kernel_rfl
/-- The list of what is laid. -/
abbrev laidL : List (String × DataW Unit) := [("math/bits.deBruijn32tab", Rows.laid_math_bits_deBruijn32tab), ("math/bits.deBruijn64tab", Rows.laid_math_bits_deBruijn64tab), ("internal/strconv.uint64pow10", Rows.laid_internal_strconv_uint64pow10), ("redress/token.keywords", Rows.laid_redress_token_keywords)]
/-- The door's own heap meets the condition. -/
theorem door_met (os:Os) (args:Array Value):laidMetH Tryz.prog laidL ((World.doorLaid Tryz.prog 400 os).forCall (fun _ _=>0) ⟨#[],args,[]⟩).memory :=
 laidMetH_of_parts3 (fuel:=8) (laidMet_of_run' 8 (by kernel_rfl) (by kernel_rfl)) (by kernel_rfl) (by kernel_rfl)
theorem data_eq:(Rows.laid_redress_token_keywords:DataW Unit)=.agg (Tk.words.map fun x=>.lit (.string x.data.toList)):=by kernel_rfl
theorem of_laid {W:World} (h:laidMetH Tryz.prog laidL W):Tk.KW W:=by
 rw [MakeChecks.laidMetH_plain _ _ _ (by kernel_rfl)] at h
 obtain ⟨ps,hps,_,_⟩:=h
 obtain ⟨_,_,_,_,_,_,_,_,_,_,hps,_⟩:=hps
 obtain ⟨_,_,_,_,_,_,_,_,_,_,hps,_⟩:=hps
 obtain ⟨_,_,_,_,_,_,_,_,_,_,hps,_⟩:=hps
 obtain ⟨g0,t0,cs0,f0,p0,q0,hg0,ht0,hv0,hd0,_⟩:=hps
 obtain rfl:=Option.some.inj (gK.symm.trans hg0)
 obtain rfl:=Option.some.inj (tK.symm.trans ht0)
 obtain ⟨xs,m1,rfl,hx1,hlen,hn,hel⟩:=DataW.trod_array Tryz.underlying234 hd0
 simp only [Prod.mk.injEq] at hx1
 have hx2:(Tk.words.map fun x=>(DataW.lit (.string x.data.toList):DataW Unit))=xs.map (·.1):=by
  have:=hx1.1
  rw [data_eq] at this
  injection this
 have key:∀ j,j<Tk.words.length→W.cell? ⟨0,0+j,none⟩=some (.string (Tk.words.getD j ByteArray.empty)):=by
  intro j hj
  have hj17:j<17:=hj
  have h1:=hel j hj17
  rw [c9] at h1
  have hjx:j<xs.length:=by omega
  rw [List.getElem?_eq_getElem hjx] at h1
  obtain ⟨s,e1,e2,_⟩:=DataW.trod_string Tryz.underlying9 h1
  have h3:(xs.map (·.1))[j]?=some (DataW.lit (.string Tk.words[j].data.toList)):=by
   rw [←hx2,List.getElem?_map,List.getElem?_eq_getElem hj]
   rfl
  rw [List.getElem?_map,List.getElem?_eq_getElem hjx,e2] at h3
  simp only [Option.map_some,Option.some.injEq,DataW.lit.injEq,Lit.string.injEq] at h3
  have hs:s=Tk.words[j]:=by
   cases s
   cases hw:Tk.words[j]
   rw [hw] at h3
   simp only at h3
   rw [Array.toList_inj.1 h3]
  have hc:=World.var?_cell hg0 hv0 j
  rw [Nat.zero_add,hc]
  have e4:cs0.toList[j]?=some (.string s):=by
   have:((cs0.toList.drop (j * 1)).take 1)[0]?=some (.string s):=by rw [e1];rfl
   rw [List.getElem?_take_of_lt (by omega),List.getElem?_drop] at this
   simpa using this
  have e5:Tk.words.getD j ByteArray.empty=s:=by rw [hs,List.getD_eq_getElem?_getD,List.getElem?_eq_getElem hj];rfl
  rw [e5]
  simpa using e4
 refine ⟨?_,key⟩
 exact World.block_lt_of_cell? W _ (key 0 (by decide))
end Kw
end Go.Proofs.YtjfdohhdkdjifaaGreatDoor
