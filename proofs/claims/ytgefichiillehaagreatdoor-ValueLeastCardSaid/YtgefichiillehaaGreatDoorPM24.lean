/- redressref15.build. No condition but the ones the theorems state. -/
import Derived.Test.YtgefichiillehaaGreatDoorPM22
import Derived.Test.YtgefichiillehaaGreatDoorPM23
import Derived.Test.YtgefichiillehaaGreatDoorPM19
import Derived.Test.YtgefichiillehaaGreatDoorPM21
import Derived.Test.YtgefichiillehaaGreatDoorPM02
import Derived.ProofKit
import Derived.LaidMore
import Derived.OpenShut
import Derived.Stop.Joined
set_option linter.unusedVariables false
set_option linter.unusedSimpArgs false
namespace Go.Proofs.YtgefichiillehaaGreatDoor
open Go.RowKit Go.BigFrame
namespace Vl
open Go.Proofs.YtgefichiillehaaGreatDoor.Id Go.Proofs.YtgefichiillehaaGreatDoor.Chk
/-- What redressref15.build hands back: o, with R behind it, or more than 4096 parts. -/
def RbP (w:World) (B:Nat) (o R:List Node) (e:Ending) (w':World):Prop:=∃ v' o',e=.returned v'∧ERow w' (some B) 43 4 NodE v' o'∧Below B w w'∧Only 43 w w'∧(o.length+R.length≤4096→o'=o++R)∧(4096<o.length+R.length→4096<o'.length)
theorem RbP.full {w w':World} {B:Nat} {o R:List Node} {v:Value} (h:ERow w' (some B) 43 4 NodE v o) (hb:Below B w w') (ho:Only 43 w w') (hf:4096<o.length):RbP w B o R (.returned v) w':=⟨v,o,rfl,h,hb,ho,(fun h=>by omega),fun _=>hf⟩
/-- A box of the schema, and what is known, within build. -/
structure Rb (w0 w wr:World) (S:Array Value) (B:Nat):Prop where
 bel:Below B w wr
 only:Only 43 w wr
 old:Below w0.heap.size w0 wr
 box:Bk wr w.heap.size 26 S
 size:B≤wr.heap.size
theorem Rb.below {w0 w wr w':World} {S:Array Value} {B:Nat} (h:Rb w0 w wr S B) (hb:Below wr.heap.size wr w'):Rb w0 w w' S B :=
 ⟨h.bel.trans (hb.mono h.size),h.only.trans (Only.below hb),h.old.trans (hb.mono h.old.size),h.box.below hb h.box.lt,Nat.le_trans h.size hb.size⟩
theorem Rb.call {w0 w wr w':World} {S:Array Value} {B:Nat} (h:Rb w0 w wr S B) (hB:w0.heap.size≤B) (hb:Below B wr w') (ho:Only 43 wr w'):Rb w0 w w' S B :=
 ⟨h.bel.trans hb,h.only.trans ho,h.old.trans (hb.mono hB),ho.bk h.box (by decide),Nat.le_trans h.size ho.size⟩
end Vl
end Go.Proofs.YtgefichiillehaaGreatDoor
set_option linter.unusedVariables false
set_option linter.unusedSimpArgs false
namespace Go.Proofs.YtgefichiillehaaGreatDoor
open Go.RowKit Go.BigFrame
namespace Vl
open Go.Proofs.YtgefichiillehaaGreatDoor.Id Go.Proofs.YtgefichiillehaaGreatDoor.Chk
noncomputable def lstR (x:Sch) (t:List Srt):Option (List Node) × Nat:=leastE x t (lstK x) (typE x t)
theorem lstR_of {x:Sch} {t:List Srt} {kn:Kn} (h:Min x kn):lstR x t=leastE x t kn (typE x t):=by
 have e:lstK x=kn:=funext fun n=>Min.uniq (lstK_min x) h n
 unfold lstR
 rw [e]
theorem lstR_typ {x:Sch} {t:List Srt} (h:typE x t≠0):lstR x t=(none,typE x t):=by unfold lstR leastE;rw [if_pos h]
theorem lstR_deep {x:Sch} {t:List Srt} {kn:Kn} (hM:Min x kn) (h:typE x t=0) (hd:12<dpt kn t):lstR x t=(none,151):=by rw [lstR_of hM];unfold leastE;rw [if_neg (by omega),if_pos hd]
theorem lstR_long {x:Sch} {t:List Srt} {kn:Kn} (hM:Min x kn) (h:typE x t=0) (hd:¬12<dpt kn t) (hl:4096<(bldF x kn 12 t).length):lstR x t=(none,3):=by rw [lstR_of hM];unfold leastE;rw [if_neg (by omega),if_neg hd,if_pos hl]
theorem lstR_ok {x:Sch} {t:List Srt} {kn:Kn} (hM:Min x kn) (h:typE x t=0) (hd:¬12<dpt kn t) (hl:¬4096<(bldF x kn 12 t).length):lstR x t=(some (bldF x kn 12 t),0):=by rw [lstR_of hM];unfold leastE;rw [if_neg (by omega),if_neg hd,if_neg hl]
def LeastP (x:Sch) (t:List Srt) (w:World) (e:Ending) (w':World):Prop:=∃ u,e=.returned (.tuple #[u,.int .i64 (lstR x t).2])∧Below w.heap.size w w'∧ValR w' (some w.heap.size) u ((lstR x t).1.getD [])
theorem LeastP.no {x:Sch} {t:List Srt} {w w':World} {e:Nat} (h:lstR x t=(none,e)) (hb:Below w.heap.size w w'):LeastP x t w (.returned (.tuple #[.slice none 0 0,.int .i64 e])) w':=⟨_,by rw [h],hb,by rw [h];exact ERow.nil _ _ _ _ _⟩
theorem LeastP.yes {x:Sch} {t:List Srt} {w w':World} {B:Nat} {u:Value} {l:List Node} (h:lstR x t=(some l,0)) (hb:Below w.heap.size w w') (hB:w.heap.size≤B) (hr:ERow w' (some B) 43 4 NodE u l):LeastP x t w (.returned (.tuple #[u,.int .i64 0])) w' :=
 ⟨_,by rw [h];rfl,hb,by rw [h];exact ERow.mono hr (fun _ _ hr=>hr.weak (fun b' e=>⟨_,rfl,by injection e with e;omega⟩)) (fun _ _ h=>h)⟩
end Vl
set_option maxRecDepth 100000 in
set_option maxHeartbeats 16000000 in
theorem vleast_any (sv:Value) (x:Id.Sch) (hF:Chk.Fine x) (tv:Value) (t:List Id.Srt) (w:World) (hk:Tk.KW w) (hv:Id.SchV w none sv x) (ht:Id.SortsR w none tv t) (hz:∀ y∈t,y.name.size≤1000) :
  Calls Tryz.prog 26 #[sv,tv] w (Vl.LeastP x t w):=by
 have HKW:=Lib.hid hk
 have HF:=Lib.hid hF
 have HV:=Lib.hid hv
 have HS:=Lib.hid ht
 have HZ:=Lib.hid hz
 obtain ⟨A1,n1,c1,A2,n2,c2,A3,n3,c3,rfl,-,-,-⟩:=hv
 clear hk hF ht hz
 go_enter Tryz.func26,Tryz.ntmps26
 go_upto_region 1 with (fail)
 refine wp_named (fun V hV=>?_)
 have HL:=Lib.hid (Chk.Lx.start hV)
 clear hV
 obtain ⟨⟨q0,q1,q2,q3⟩,-⟩:=HL.out.box.k4
 go_wp2_with fail
 refine (vtypes_any _ x HF.out _ t _ (HKW.out.below HL.out.bel) (HV.out.below HL.out.bel) (ERow.below HS.out HL.out.bel (fun _ _ h=>h))).mono ?_
 rintro e W1 ⟨rfl,hb⟩
 have HL1:=Lib.hid (HL.out.below hb)
 clear hb HL q0 q1 q2 q3
 obtain ⟨ce,HC⟩:∃ c,Hid (Vl.typE x t=c):=⟨_,Lib.hid rfl⟩
 rw [HC.out]
 by_cases h0:ce=0
 case neg =>
  have t0:((ce:Int) != 0)=true:=by rw [bne_iff_ne];omega
  have t1:¬(ce:Int)=0:=by omega
  have HX:Hid (Vl.lstR x t=(none,ce)):=Lib.hid (by rw [Vl.lstR_typ (by rw [HC.out];exact h0),HC.out])
  go_wp2_with fail
  go_ret2
  exact Vl.LeastP.no HX.out HL1.out.bel
 subst h0
 have HRT:=Lib.hid (Vl.typ_ok HC.out)
 have HOT:=Lib.hid (Vl.right_okT HRT.out.2).1
 try simp only [Int.cast_ofNat_Int]
 obtain ⟨⟨q0,q1,q2,q3⟩,-⟩:=HL1.out.box.k4
 go_wp2_with fail
 refine (vdepths_any _ x HRT.out.1 HF.out _ (HV.out.below HL1.out.bel)).mono ?_
 rintro e W2 ⟨mb,kn,p,rfl,hb,-,hm,hM,hkn⟩
 have HL2:=Lib.hid (HL1.out.below hb)
 have HKM:=Lib.hid hm
 have HM:=Lib.hid hM
 have HKN:=Lib.hid hkn
 have HD0:=Lib.hid (hM.of_right HRT.out.1 HOT.out)
 clear hb hm hM hkn HL1 q0 q1 q2 q3
 go_upto_region 5 with (fail)
 refine wp_named (fun W3 hW=>?_)
 obtain ⟨hb3,hq3,-⟩:=fresh_box hW
 clear hW
 have HL3:=Lib.hid (HL2.out.below hb3)
 have HKM3:=Lib.hid (HKM.out.below hb3)
 have HGK:=Lib.hid hq3
 obtain ⟨gk,hgk⟩:∃ g,W2.heap.size=g:=⟨_,rfl⟩
 rw [hgk] at HGK ⊢
 clear hb3 hq3 hgk HKM HL2
 obtain ⟨k0,-⟩:=HGK.out.k1
 obtain ⟨d,Hd⟩:∃ d,Hid (Vl.dpt kn t=d):=⟨_,Lib.hid rfl⟩
 go_wp2_with fail
 refine (vdepth_any mb p kn _ t (Vl.okT_ne HOT.out) HZ.out _ HKM3.out (ERow.below HS.out HL3.out.bel (fun _ _ h=>h))).mono ?_
 rw [Hd.out]
 rintro e W4 ⟨rfl,q,rfl⟩
 have hq4:Below W3.heap.size W3 (W3.drewN q):=below_drewN (Below.refl _ _) q
 have HL4:=Lib.hid (HL3.out.below hq4)
 have HKM4:=Lib.hid (HKM3.out.below hq4)
 have HGK4:=Lib.hid (HGK.out.below hq4 HGK.out.lt)
 clear k0 hq4 HL3 HKM3 HGK
 generalize W3.drewN q=W4 at *
 by_cases hdd:12<d
 case pos =>
  have t1:(12:Int)<(d:Int):=by omega
  have HX:Hid (Vl.lstR x t=(none,151)):=Lib.hid (Vl.lstR_deep HM.out HC.out (by rw [Hd.out];exact hdd))
  go_wp2_with fail
  go_ret2
  exact Vl.LeastP.no HX.out HL4.out.bel
 have t1:¬(12:Int)<(d:Int):=by omega
 obtain ⟨⟨q0,q1,q2,q3⟩,-⟩:=HL4.out.box.k4
 go_wp2_with fail
 refine (vfinder_any _ x (fun r hr=>by have:=Vl.name_size ((Prn.ok_of_right HRT.out.1).rn r hr);omega) HF.out.recs _ (HV.out.below HL4.out.bel)).mono ?_
 rintro e W5 ⟨g,m,rfl,hb,hf⟩
 have HL5:=Lib.hid (HL4.out.below hb)
 have HFN:=Lib.hid hf
 have HB45:=Lib.hid hb
 have HKM5:=Lib.hid (HKM4.out.below hb)
 have HGK5:=Lib.hid (HGK4.out.below hb HGK4.out.lt)
 clear hb hf q0 q1 q2 q3 HKM4 HGK4
 have hsf1:=fun (a:Addr) (c:Array Value) (w:World)=>run_store Tryz.prog w a (.func (.func 66) #[] c) .plain rfl
 have hsf2:=fun (a:Addr) (c:Array Value) (w:World)=>run_store Tryz.prog w a (.func (.func 47) #[] c) .plain rfl
 go_upto_region 8 with (fail)
 refine wp_named (fun W6 hW=>?_)
 obtain ⟨hb6,hq6,-⟩:=fresh_box hW
 clear hW
 go_upto_region 9 with (fail)
 refine wp_named (fun W7 hW=>?_)
 obtain ⟨hb7,hq7,-⟩:=fresh_box hW
 clear hW
 go_upto_region 10 with (fail)
 refine wp_named (fun W8 hW=>?_)
 obtain ⟨hb8,hq8,-⟩:=fresh_box hW
 clear hW
 have z6:=hb6.size
 have z7:=hb7.size
 have z8:=hb8.size
 have hl6:=hq6.lt
 have hl7:=hq7.lt
 have hl8:=hq8.lt
 have hs45:=HB45.out.size
 have hb68:=hb7.trans (hb8.mono z7)
 have hb58:=hb6.trans (hb68.mono z6)
 have HL8:=Lib.hid (HL5.out.below hb58)
 have HGF:=Lib.hid ((hq6.below hb68 hq6.lt))
 have HGO:=Lib.hid (hq7.below hb8 hq7.lt)
 have HGB:=Lib.hid hq8
 have HGK8:=Lib.hid (HGK5.out.below hb58 HGK5.out.lt)
 have HKM8:=Lib.hid (HKM5.out.below hb58)
 have HFN8:=Lib.hid (HFN.out.below hb58)
 obtain ⟨gf,hgf⟩:∃ g,W5.heap.size=g:=⟨_,rfl⟩
 obtain ⟨go,hgo⟩:∃ g,W6.heap.size=g:=⟨_,rfl⟩
 obtain ⟨gb,hgb⟩:∃ g,W7.heap.size=g:=⟨_,rfl⟩
 have HB48:=Lib.hid (HB45.out.trans (hb58.mono hs45))
 rw [hgf] at HGF hl6 hs45 ⊢
 rw [hgo] at HGO hl7 ⊢
 rw [hgb] at HGB hl8 ⊢
 have hgo4:W4.heap.size≤go:=by omega
 have hgo8:go<W8.heap.size:=by omega
 clear hb6 hb7 hb8 hq6 hq7 hq8 hb68 hb58 HGK5 HKM5 HFN HL5 HB45
 obtain ⟨b0,bf0⟩:=HGB.out.k1
 go_upto_region 11 with (fail)
 refine wp_named (fun W9 hW=>?_)
 have hsz:W9.heap.size=W8.heap.size:=by subst hW;simp
 have HLb:Hid (Vl.Lb x kn W4 W9 go gf gk gb g m mb p W9.heap.size (.slice none 0 0) []):=Lib.hid (by
  have hgb8:W4.heap.size≤gb:=by omega
  have q0:=HGO.out
  have q1:=HGF.out
  have q2:=HGK8.out
  have q4:=HFN8.out.bx
  have q3:=HGB.out
  have hs:Only 82 W8 (W8.setCell ⟨gb,0,none⟩ (Vl.bldV go gf gk gb)):=Only.set q3 0 _
  have hmap:∀ b es clock,W8.heap[b]?=some (Obj.map es clock)→(W8.setCell ⟨gb,0,none⟩ (Vl.bldV go gf gk gb)).heap[b]?=some (Obj.map es clock):=fun b es clock hh=>hs.block b _ hh (fun _ _ e=>by cases e)
  have hW2:W9=W8.setCell ⟨gb,0,none⟩ (Vl.bldV go gf gk gb):=hW
  rw [hsz]
  rw [hW2]
  exact ⟨q0.far (Vl.bk_ne q0 q3 (by decide)) _,ERow.nil _ _ _ _ _,q1.far (Vl.bk_ne q1 q3 (by decide)) _,q2.far (Vl.bk_ne q2 q3 (by decide)) _,q3.set_ 0 _,⟨q4.far (Vl.bk_ne q4 q3 (by decide)) _,HFN8.out.lo,HFN8.out.lom,HFN8.out.fm.of_heap (hmap _)⟩,HKM8.out.of_heap (hmap _),HB48.out.setCell (p:=⟨gb,0,none⟩) hgb8 _,hgo4,hgo8,by simp⟩)
 clear hW b0 bf0 hsz HGO HGF HGB HGK8 HKM8 HFN8 hsf1 hsf2
 have HIC:=Lib.hid (vbld_any x kn HRT.out.1 HF.out HM.out HKN.out W4 go gf gk gb g m mb p W9.heap.size 12 tv t (.slice none 0 0) [] W9 HLb.out (ERow.below HS.out HL4.out.bel (fun _ _ h=>h)) HOT.out HD0.out (by rw [Hd.out];omega) (by simp))
 have c0:W9.cell? ⟨gb,0,none⟩=some (.func (.func 47) #[] #[.pointer (some ⟨go,0,none⟩),.pointer (some ⟨gf,0,none⟩),.pointer (some ⟨gk,0,none⟩),.pointer (some ⟨gb,0,none⟩)]):=(HLb.out.bld.k1).1
 go_wp2_with fail
 refine HIC.out.mono ?_
 rintro e W10 ⟨b,v',o',rfl,hon,hlb,ht1,ht2⟩
 have HLF:=Lib.hid hlb
 have HT1:=Lib.hid ht1
 have HT2:=Lib.hid ht2
 have HBF:=Lib.hid (HL4.out.bel.trans (hlb.bel.mono HL4.out.bel.size))
 have hBw:w.heap.size≤W9.heap.size:=Nat.le_trans HL4.out.bel.size (Nat.le_trans hlb.lo (Nat.le_of_lt hlb.lob))
 clear hon hlb ht1 ht2 c0
 have hdd2:¬12<Vl.dpt kn t:=by rw [Hd.out];exact hdd
 cases b
 case false =>
  have HX:Hid (Vl.lstR x t=(none,3)):=Lib.hid (Vl.lstR_long HM.out HC.out hdd2 (by have h:=HT2.out (by first | rfl | trivial);simpa using h))
  go_wp2_with fail
  go_ret2
  exact Vl.LeastP.no HX.out HBF.out
 have h1:=HT1.out (by first | rfl | trivial)
 rw [List.nil_append] at h1
 obtain ⟨h2,h3⟩:=h1
 subst h2
 have HX:=Lib.hid (Vl.lstR_ok HM.out HC.out hdd2 (by omega))
 obtain ⟨A9,n9,c9,rfl⟩:=ERow.is HLF.out.row
 obtain ⟨o0,-⟩:=HLF.out.out.k1
 go_wp2_with fail
 go_ret2
 exact Vl.LeastP.yes HX.out HBF.out hBw HLF.out.row
end Go.Proofs.YtgefichiillehaaGreatDoor
set_option linter.unusedVariables false
set_option linter.unusedSimpArgs false
namespace Go.Proofs.YtgefichiillehaaGreatDoor
open Go.RowKit Go.BigFrame
namespace Vl
open Go.Proofs.YtgefichiillehaaGreatDoor.Id Go.Proofs.YtgefichiillehaaGreatDoor.Chk
theorem dep_len {N K:Nat} {D:List Node→Option (Nat × List Node)} (hD:∀ r d r',D r=some (d,r')→r'.length<r.length∧r'=r.drop (r.length - r'.length)∧1≤d∧d≤K) :
  ∀ (m d0:Nat) (r:List Node) (e:Nat) (r':List Node),dep N D m d0 r=some (e,r')→r'.length≤r.length∧r'=r.drop (r.length - r'.length)∧e≤max d0 K
 | 0,d0,r,e,r',h=>by
  injection h with h
  injection h with h1 h2
  subst h1 h2
  exact ⟨Nat.le_refl _,by rw [Nat.sub_self,List.drop_zero],by omega⟩
 | m+1,d0,r,e,r',h=>by
  unfold dep at h
  split at h
  ·cases h
  ·rename_i p hp
   obtain ⟨d1,q⟩:=p
   obtain ⟨h1,h2,h3,h4⟩:=hD r d1 q hp
   obtain ⟨g1,g2,g3⟩:=dep_len hD m _ q e r' h
   simp only at g1 g2 g3
   refine ⟨by omega,?_,by omega⟩
   have e1:∀ n,q.drop n=r.drop ((r.length - q.length)+n):=fun n=>by
    conv=>lhs;rw [h2]
    rw [List.drop_drop]
   rw [e1,show r.length - q.length+(q.length - r'.length)=r.length - r'.length by omega] at g2
   exact g2
theorem depF_len {N:Nat}:∀ (K:Nat) (r:List Node) (d:Nat) (r':List Node),depF N K r=some (d,r')→r'.length<r.length∧r'=r.drop (r.length - r'.length)∧1≤d∧d≤K
 | 0,r,d,r',h=>by unfold depF at h;cases h
 | K+1,[],d,r',h=>by unfold depF at h;cases h
 | K+1,n::r,d,r',h=>by
  unfold depF at h
  split at h
  ·unfold up at h
   cases hq:dep N (depF N K) n.kids.toNat 0 r with
   | none=>rw [hq] at h;cases h
   | some p =>
    obtain ⟨e,q⟩:=p
    rw [hq] at h
    simp only [Option.map_some,Option.some.injEq,Prod.mk.injEq] at h
    obtain ⟨h1,h2⟩:=h
    subst h1 h2
    obtain ⟨g1,g2,g3⟩:=dep_len (depF_len K) _ _ _ _ _ hq
    refine ⟨by simp only [List.length_cons];omega,?_,by omega,by omega⟩
    rw [List.length_cons,show r.length+1 - q.length=(r.length - q.length)+1 by omega,List.drop_succ_cons]
    exact g2
  ·cases h
theorem least_fits {x:Sch} {t:List Srt} {kn:Kn} (hM:Min x kn) (h:typE x t=0) (hd:¬12<dpt kn t) (hl:¬4096<(bldF x kn 12 t).length):fits x t (bldF x kn 12 t)=0∧depF (bldF x kn 12 t).length ((bldF x kn 12 t).length+1) (bldF x kn 12 t)=some (dpt kn t,[]):=by
 obtain ⟨h1,h2⟩:=typ_ok h
 have hot:=(right_okT h2).1
 have h0:=hM.of_right h1 hot
 have hb:=bld_of h1 hM 12 t [] hot h0 (by omega) ((bldF x kn 12 t).length+13) (by omega)
 rw [List.append_nil] at hb
 have hb2:ofF x none ((bldF x kn 12 t).length+1) t (bldF x kn 12 t)=some (dpt kn t,[]):=by
  rw [←hb]
  exact of_fuel _ _ _ _ (by omega) (by omega)
 refine ⟨?_,of_dep _ _ _ _ _ (Nat.le_refl _) hb2⟩
 rw [fits_ofV h]
 unfold fitsV
 rw [hb2]
 simp only [List.length_nil]
 rw [if_neg (by omega),if_neg hd,if_neg (by rw [bld_size];exact hl)]
theorem fits_deep {x:Sch} {t:List Srt} {kn:Kn} {v:List Node} (hM:Min x kn) (h:fits x t v=0):∃ d,depF v.length (v.length+1) v=some (d,[])∧d≤12∧dpt kn t≤d:=by
 obtain ⟨h1,h2,d,h3,h4,_⟩:=fits_ok h
 have hot:=(right_okT h2).1
 exact ⟨d,of_dep _ _ _ _ _ (Nat.le_refl _) h3,h4,(hM.dpt (of_lv _ _ _ _ _ hot h1 h3)).2⟩
end Vl
set_option maxRecDepth 100000 in
set_option maxHeartbeats 16000000 in
theorem rdp_any (vs:Value) (v:List Vl.Node) (w:World) (hv:Vl.ValR w none vs v) (hl:v.length≤100000):∀ (K a d:Nat) (r:List Vl.Node),K≤200000→a≤v.length→Vl.depF v.length K (v.drop a)=some (d,r) →
  Calls Tryz.prog 28 #[vs,.int .i64 a] w fun e w'=>e=.returned (.tuple #[.int .i64 d,.int .i64 (v.length - r.length:Nat)])∧w'=w:=by
 intro K
 induction K with
 | zero=>intro a d r hK ha h;unfold Vl.depF at h;cases h
 | succ K ih =>
  intro a d r hK ha h
  have IH:=Lib.hid ih
  clear ih
  have HLEN:=Lib.hid (Vl.depF_len (K+1) _ _ _ h)
  obtain ⟨A,n,c,rfl⟩:=ERow.is hv
  have HN:Hid (n=v.length):=Lib.hid (by obtain ⟨_,_,e,_⟩:=ERow.slice hv;injection e)
  have hn:n≤100000:=by rw [HN.out];exact hl
  have HV:=Lib.hid hv
  have han:a<n:=by
   rcases Nat.lt_or_ge a n with h1 | h1
   ·exact h1
   ·have h2:=HLEN.out.1
    rw [List.drop_of_length_le (by rw [←HN.out];exact h1)] at h2
    simp at h2
  have hka:a<v.length:=by rw [←HN.out];exact han
  have H:=Lib.hid h
  clear hv hl h ha
  obtain ⟨g,off,cs,rfl,-,e1,hc⟩:=ERow.get HV.out hka (by omega)
  obtain ⟨⟨nk,ni,nt,nd⟩,Hx⟩:∃ y,Hid (v[a]=y):=⟨_,Lib.hid rfl⟩
  have h2:=H.out
  rw [List.drop_eq_getElem_cons hka,Hx.out] at h2
  rw [Hx.out] at e1
  unfold Vl.NodE Vl.Node.cells at e1
  subst e1
  have a3:=hc 3 _ rfl
  unfold Vl.depF at h2
  simp only at h2
  split at h2
  case isFalse=>cases h2
  rename_i hnd
  obtain ⟨m,rfl⟩:∃ m:Nat,nd=m:=⟨nd.toNat,by omega⟩
  rw [Int.toNat_natCast] at h2
  obtain ⟨e0,hq,hde⟩:∃ e0,Vl.dep v.length (Vl.depF v.length K) m 0 (v.drop (a+1))=some (e0,r)∧d=e0+1:=by
   unfold Vl.up at h2
   cases hq:Vl.dep v.length (Vl.depF v.length K) m 0 (v.drop (a+1)) with
   | none=>rw [hq] at h2;cases h2
   | some p =>
    obtain ⟨e,q⟩:=p
    rw [hq] at h2
    simp only [Option.map_some,Option.some.injEq,Prod.mk.injEq] at h2
    exact ⟨e,by rw [h2.2],h2.1.symm⟩
  subst hde
  have HQ:=Lib.hid hq
  have hmn:m≤n:=by rw [HN.out];omega
  have ia0:(0:Int)≤(a:Int):=by omega
  have ia1:(a:Int)<(n:Int):=by omega
  have ia2:¬(a:Int)<0:=by omega
  have ia3:¬(n:Int)≤(a:Int):=by omega
  have im0:¬(m:Int)<0:=by omega
  have im1:¬(n:Int)<(m:Int):=by omega
  rw [←HN.out]
  clear hc h2 hq hnd Hx H
  go_enter Tryz.func28,Tryz.ntmps28
  go_wp2_with fail
  go_loopw [8,6,7] (fun i s6 s7 wr=>∃ (j dp a1:Nat),j≤m∧i=.int .i64 j∧s6=.int .i64 dp∧s7=.int .i64 a1∧dp≤K∧a1≤n∧Hid (Vl.dep v.length (Vl.depF v.length K) (m - j) dp (v.drop a1)=some (e0,r))∧w=wr) (fun i _ _ _=>m - (intOf i).toNat)
  case atStart=>exact ⟨0,0,a+1,by omega,rfl,rfl,by go_num,by omega,by omega,Lib.hid (by rw [Nat.sub_zero];exact HQ.out),rfl⟩
  case round =>
   obtain ⟨j,dp,a1,hj,rfl,rfl,rfl,hdp,ha1,HJ,rfl⟩:=hrel
   have ij0:(0:Int)≤(j:Int):=by omega
   by_cases hjm:j<m
   case neg =>
    obtain rfl:j=m:=by omega
    have h3:=HJ.out
    rw [Nat.sub_self] at h3
    have h4:dp=e0∧v.drop a1=r:=by
     unfold Vl.dep at h3
     injection h3 with h3
     injection h3 with h5 h6
     exact ⟨h5,h6⟩
    obtain ⟨rfl,h5⟩:=h4
    have HH6:Hid (n - r.length=a1):=Lib.hid (by rw [←h5,List.length_drop,←HN.out];omega)
    clear h5
    go_wp2_with fail
    go_ret2
    exact ⟨by rw [HH6.out];first | rfl | simp,rfl⟩
   have ij1:(j:Int)<(m:Int):=by omega
   have h3:=HJ.out
   rw [show m - j=(m - (j+1))+1 by omega] at h3
   unfold Vl.dep at h3
   split at h3
   ·cases h3
   rename_i p hp
   obtain ⟨d1,q⟩:=p
   obtain ⟨l1,l2,l3,l4⟩:=Vl.depF_len K _ _ _ hp
   simp only at h3
   obtain ⟨a2,ha2⟩:∃ a2,n - q.length=a2:=⟨_,rfl⟩
   have hq2:q=v.drop a2:=by
    rw [l2,List.drop_drop,List.length_drop]
    congr 1
    rw [List.length_drop,←HN.out] at l1
    rw [←HN.out]
    omega
   have ha2n:a2≤n:=by omega
   have HC:=Lib.hid (IH.out a1 d1 q (by omega) (by rw [←HN.out];exact ha1) hp)
   rw [←HN.out,ha2] at HC
   rw [hq2] at h3
   have HJ3:=Lib.hid h3
   clear h3 hp l1 l2 hq2 HJ
   go_wp2_with fail
   refine HC.out.mono ?_
   rintro e W2 ⟨rfl,rfl⟩
   have t0:((d1:Int)==0)=false:=beq_eq_false_iff_ne.2 (by omega)
   have t1:¬(d1:Int)=0:=by omega
   by_cases hdd:dp<d1
   ·have t2:(dp:Int)<(d1:Int):=by omega
    have HJ4:Hid (Vl.dep v.length (Vl.depF v.length K) (m - (j+1)) d1 (v.drop a2)=some (e0,r)):=Lib.hid (by have h:=HJ3.out;rw [show max dp d1=d1 by omega] at h;exact h)
    go_wp2_with fail
    go_roundw
    case rel=>exact ⟨j+1,d1,a2,by omega,by go_num,rfl,rfl,l4,ha2n,HJ4,by first | rfl | trivial⟩
    case measure=>simp [intOf];omega
   ·have t2:¬(dp:Int)<(d1:Int):=by omega
    have HJ4:Hid (Vl.dep v.length (Vl.depF v.length K) (m - (j+1)) dp (v.drop a2)=some (e0,r)):=Lib.hid (by have h:=HJ3.out;rw [show max dp d1=dp by omega] at h;exact h)
    go_wp2_with fail
    go_roundw
    case rel=>exact ⟨j+1,dp,a2,by omega,by go_num,rfl,rfl,hdp,ha2n,HJ4,by first | rfl | trivial⟩
    case measure=>simp [intOf];omega
end Go.Proofs.YtgefichiillehaaGreatDoor
set_option linter.unusedVariables false
set_option linter.unusedSimpArgs false
namespace Go.Proofs.YtgefichiillehaaGreatDoor
open Go.RowKit Go.BigFrame
theorem Vl.lstR_cases (x:Id.Sch) (t:List Id.Srt):(∃ e,(e≠0∧(e=151→∀ v,Vl.fits x t v≠0))∧Vl.lstR x t=(none,e))∨(Vl.typE x t=0∧¬12<Vl.dpt (Vl.lstK x) t∧¬4096<(Vl.bldF x (Vl.lstK x) 12 t).length∧Vl.lstR x t=(some (Vl.bldF x (Vl.lstK x) 12 t),0)):=by
 have hM:=Vl.lstK_min x
 by_cases h1:Vl.typE x t=0
 case neg=>exact .inl ⟨_,⟨h1,fun _ v h=>h1 (by rw [←Vl.fits_typ (v:=v) h1];exact h)⟩,Vl.lstR_typ h1⟩
 by_cases h2:12<Vl.dpt (Vl.lstK x) t
 case pos =>
  refine .inl ⟨151,⟨by decide,fun _ v h=>?_⟩,Vl.lstR_deep hM h1 h2⟩
  obtain ⟨d,_,h4,h5⟩:=Vl.fits_deep hM h
  omega
 by_cases h3:4096<(Vl.bldF x (Vl.lstK x) 12 t).length
 case pos=>exact .inl ⟨3,⟨by decide,fun h=>by cases h⟩,Vl.lstR_long hM h1 h2 h3⟩
 exact .inr ⟨h1,h2,h3,Vl.lstR_ok hM h1 h2 h3⟩
set_option maxRecDepth 100000 in
set_option maxHeartbeats 16000000 in
theorem valueLeast_walk (sv:Value) (x:Id.Sch) (tv:Value) (t:List Id.Srt) (vs:Value) (v:List Vl.Node) (w0:World) (hv:Id.SchV w0 none sv x) (ht:Id.SortsR w0 none tv t) (hvv:Vl.ValR w0 none vs v) (hok:∀ n∈v,Cd.OkN n) (w:World) (he:w=w0) (hk:Tk.KW w) :
  Calls Tryz.prog 10 #[sv,tv,vs] w fun e w'=>e=.returned (.bool true)∧Below w.heap.size w w':=by
 subst he
 have HKW:=Lib.hid hk
 clear hk
 have HV:=Lib.hid hv
 obtain ⟨A1,n1,c1,A2,n2,c2,A3,n3,c3,rfl,-,-,-⟩:=hv
 have HS:=Lib.hid ht
 obtain ⟨A,n,c,rfl⟩:=ERow.is ht
 have HN:Hid (n=t.length):=Lib.hid (by obtain ⟨_,_,e,_⟩:=ERow.slice ht;injection e)
 clear ht
 have HVV:=Lib.hid hvv
 obtain ⟨A9,n9,c9,rfl⟩:=ERow.is hvv
 have HN9:Hid (n9=v.length):=Lib.hid (by obtain ⟨_,_,e,_⟩:=ERow.slice hvv;injection e)
 clear hvv hok
 have done:∀ W,Below w.heap.size w W→Calls Tryz.prog 16 #[] W fun e w'=>e=.returned (.bool true)∧Below w.heap.size w w':=fun W hW=>(wakes15_any W (HKW.out.below hW)).mono fun _ _ ⟨h1,h2⟩=>⟨h1,hW.trans (h2.mono hW.size)⟩
 have HDN:=Lib.hid done
 clear done
 go_enter Tryz.func10,Tryz.ntmps10
 go_upto_region 1 with (fail)
 refine wp_named (fun V hV=>?_)
 have HL:=Lib.hid (Chk.Lx.start hV)
 clear hV
 obtain ⟨⟨q0,q1,q2,q3⟩,-⟩:=HL.out.box.k4
 go_wp2_with fail
 refine (vgreat_any _ x _ t _ v _ (Id.SchV.below HL.out.bel HV.out) (Id.SortsR.below HS.out HL.out.bel) (Vl.ValR.below HVV.out HL.out.bel)).mono ?_
 rintro e W1 ⟨b,rfl,hb,hg⟩
 have HG:=Lib.hid hg
 clear hg
 have HL2:=Lib.hid (HL.out.below hb)
 clear HL q0 q1 q2 q3
 have HL:=HL2
 clear HL2 hb
 obtain ⟨⟨q0,q1,q2,q3⟩,-⟩:=HL.out.box.k4
 cases b
 case true =>
  go_wp2_with fail
  refine (HDN.out _ HL.out.bel).mono ?_
  rintro e W9 ⟨rfl,hb9⟩
  go_wp2_with fail
  go_ret
  exact ⟨rfl,hb9⟩
 have HF:=Lib.hid (HG.out rfl)
 clear HG
 have HFi:=Lib.hid HF.out.sch.fine
 have HL9:Hid (v.length≤100000):=Lib.hid (Nat.le_trans HF.out.vl (by decide))
 have HZ9:Hid (∀ n∈v,n.text.size≤100000):=Lib.hid (fun n hn=>by obtain ⟨i,hi,rfl⟩:=List.getElem_of_mem hn;exact Nat.le_trans (HF.out.tx i hi) (by decide))
 have HZt:Hid (∀ y∈t,y.name.size≤1000):=Lib.hid (fun y hy=>by obtain ⟨i,hi,rfl⟩:=List.getElem_of_mem hy;exact Nat.le_trans (HF.out.nm i hi) (by decide))
 obtain ⟨P,HP⟩:∃ P,Hid (Vl.lstR x t=P):=⟨_,Lib.hid rfl⟩
 go_wp2_with fail
 refine (vleast_any _ x HFi.out _ t _ (HKW.out.below HL.out.bel) (Id.SchV.below HL.out.bel HV.out) (Id.SortsR.below HS.out HL.out.bel) HZt.out).mono ?_
 unfold Vl.LeastP
 rw [HP.out]
 rintro e W2 ⟨u2,rfl,hb,hu⟩
 have HU2:=Lib.hid hu.none
 clear hu
 have HL2:=Lib.hid (HL.out.below hb)
 clear HL q0 q1 q2 q3
 have HL:=HL2
 clear HL2 hb
 obtain ⟨⟨q0,q1,q2,q3⟩,-⟩:=HL.out.box.k4
 obtain ⟨A5,n5,c5,rfl⟩:=ERow.is HU2.out
 have HN5:Hid (n5=(P.1.getD []).length):=Lib.hid (by obtain ⟨_,_,e,_⟩:=ERow.slice HU2.out;injection e)
 have HM:=Lib.hid (Vl.lstK_min x)
 obtain ⟨R,HR⟩:∃ R,Hid (Vl.fits x t v=R):=⟨_,Lib.hid rfl⟩
 have HCS:=Lib.hid (Vl.lstR_cases x t)
 rw [HP.out] at HCS
 rcases HCS.out with ⟨ec,h1,rfl⟩ | ⟨h1,h2,h3,rfl⟩
 ·
  have hec:=h1.1
  have HEC:=Lib.hid h1.2
  clear h1
  have hn5:n5=0:=by rw [HN5.out];rfl
  subst hn5
  try simp only [Int.cast_ofNat_Int]
  have te:((ec:Int) != 0)=true:=by rw [bne_iff_ne];omega
  have te2:¬(ec:Int)=0:=by omega
  by_cases h151:ec=151
  case neg =>
   have tf:((ec:Int) != 151)=true:=by rw [bne_iff_ne];omega
   have tf2:¬(ec:Int)=151:=by omega
   go_wp2_with fail
   refine (HDN.out _ HL.out.bel).mono ?_
   rintro e W9 ⟨rfl,hb9⟩
   go_wp2_with fail
   go_ret
   exact ⟨rfl,hb9⟩
  subst h151
  try simp only [Int.cast_ofNat_Int]
  have hR:R≠0:=by rw [←HR.out];exact HEC.out rfl v
  have hRi:((R:Int) != 0)=true:=by rw [bne_iff_ne];omega
  have hRj:¬(R:Int)=0:=by omega
  go_wp2_with fail
  refine (vfits_any _ x HFi.out _ t _ v HL9.out HZ9.out _ (HKW.out.below HL.out.bel) (Id.SchV.below HL.out.bel HV.out) (Id.SortsR.below HS.out HL.out.bel) (Vl.ValR.below HVV.out HL.out.bel)).mono ?_
  rw [HR.out]
  rintro e W2 ⟨rfl,hb⟩
  have HL2:=Lib.hid (HL.out.below hb)
  clear HL q0 q1 q2 q3
  have HL:=HL2
  clear HL2 hb
  obtain ⟨⟨q0,q1,q2,q3⟩,-⟩:=HL.out.box.k4
  go_wp2_with fail
  refine (HDN.out _ HL.out.bel).mono ?_
  rintro e W9 ⟨rfl,hb9⟩
  go_wp2_with fail
  go_ret
  exact ⟨rfl,hb9⟩
 ·
  simp only [Option.getD_some] at HU2 HN5
  obtain ⟨L,HL5⟩:∃ L,Hid (Vl.bldF x (Vl.lstK x) 12 t=L):=⟨_,Lib.hid rfl⟩
  have HLF:=Lib.hid (Vl.least_fits HM.out h1 h2 h3)
  rw [HL5.out] at HU2 HN5 HLF h3
  have HLL:Hid (L.length≤100000):=Lib.hid (by omega)
  have HLZ:Hid (∀ m∈L,m.text.size≤100000):=Lib.hid (fun m hm=>by rw [←HL5.out] at hm;rw [Vl.bld_text _ _ m hm];exact Nat.zero_le _)
  have HT1:=Lib.hid h1
  clear h1 h3
  try simp only [Int.cast_ofNat_Int]
  go_wp2_with fail
  refine (vfits_any _ x HFi.out _ t _ L HLL.out HLZ.out _ (HKW.out.below HL.out.bel) (Id.SchV.below HL.out.bel HV.out) (Id.SortsR.below HS.out HL.out.bel) HU2.out).mono ?_
  rw [HLF.out.1]
  rintro e W3 ⟨rfl,hb⟩
  have HU3:=Lib.hid (Vl.ValR.below HU2.out hb)
  have HL2:=Lib.hid (HL.out.below hb)
  clear HL q0 q1 q2 q3
  have HL:=HL2
  clear HL2 hb
  obtain ⟨⟨q0,q1,q2,q3⟩,-⟩:=HL.out.box.k4
  try simp only [Int.cast_ofNat_Int]
  go_wp2_with fail
  refine (vfits_any _ x HFi.out _ t _ v HL9.out HZ9.out _ (HKW.out.below HL.out.bel) (Id.SchV.below HL.out.bel HV.out) (Id.SortsR.below HS.out HL.out.bel) (Vl.ValR.below HVV.out HL.out.bel)).mono ?_
  rw [HR.out]
  rintro e W2 ⟨rfl,hb⟩
  have HU4:=Lib.hid (Vl.ValR.below HU3.out hb)
  have HL2:=Lib.hid (HL.out.below hb)
  clear HL q0 q1 q2 q3
  have HL:=HL2
  clear HL2 hb
  obtain ⟨⟨q0,q1,q2,q3⟩,-⟩:=HL.out.box.k4
  by_cases hR:R=0
  case neg =>
   have hRi:((R:Int) != 0)=true:=by rw [bne_iff_ne];omega
   have hRj:¬(R:Int)=0:=by omega
   go_wp2_with fail
   refine (HDN.out _ HL.out.bel).mono ?_
   rintro e W9 ⟨rfl,hb9⟩
   go_wp2_with fail
   go_ret
   exact ⟨rfl,hb9⟩
  subst hR
  try simp only [Int.cast_ofNat_Int]
  obtain ⟨dv,hdv1,hdv2,hdv3⟩:=Vl.fits_deep HM.out HR.out
  have HDV:=Lib.hid hdv1
  obtain ⟨D,HD⟩:∃ D,Hid (Vl.dpt (Vl.lstK x) t=D):=⟨_,Lib.hid rfl⟩
  rw [HD.out] at hdv3 h2
  have HDW:Hid (Vl.depF L.length (L.length+1) L=some (D,[])):=Lib.hid (by rw [←HD.out];exact HLF.out.2)
  have hD1:1≤D:=(Vl.depF_len _ _ _ _ HDW.out).2.2.1
  clear hdv1
  go_wp2_with fail
  refine (rdp_any _ L _ HU4.out HLL.out (L.length+1) 0 D [] (by have:=HLL.out;omega) (Nat.zero_le _) (by rw [List.drop_zero];exact HDW.out)).mono ?_
  rintro e W5 ⟨rfl,rfl⟩
  go_wp2_with fail
  refine (rdp_any _ v _ (Vl.ValR.below HVV.out HL.out.bel) HL9.out (v.length+1) 0 dv [] (by have:=HL9.out;omega) (Nat.zero_le _) (by rw [List.drop_zero];exact HDV.out)).mono ?_
  rintro e W6 ⟨rfl,rfl⟩
  have t1:(0:Int)<(D:Int):=by omega
  have t2:(D:Int)≤(dv:Int):=by omega
  go_wp2_with fail
  refine (HDN.out _ HL.out.bel).mono ?_
  rintro e W9 ⟨rfl,hb9⟩
  go_wp2_with fail
  go_ret
  exact ⟨rfl,hb9⟩
end Go.Proofs.YtgefichiillehaaGreatDoor
set_option linter.unusedVariables false
namespace Go.Proofs.YtgefichiillehaaGreatDoor
open Go.ChangeShapes Go.WideShapes Go.ChangeAt Go.RowKit
namespace Kw
theorem gK : Tryz.prog.globalNamed "redress/token.keywords" = some 0 := by kernel_rfl
theorem tK:(Tryz.prog.globals[0]?).map (·.type)=some 200:=by kernel_rfl
theorem c9:Tryz.prog.cellsOf 9=1:=by kernel_rfl
/-- The list of what is laid. -/
abbrev laidL : List (String × DataW Unit) := [("math/bits.deBruijn32tab", Rows.laid_math_bits_deBruijn32tab), ("math/bits.deBruijn64tab", Rows.laid_math_bits_deBruijn64tab), ("internal/strconv.uint64pow10", Rows.laid_internal_strconv_uint64pow10), ("redress/token.keywords", Rows.laid_redress_token_keywords)]
/-- The door's own heap meets the condition. -/
theorem door_met (os:Os) (args:Array Value):laidMetH Tryz.prog laidL ((World.doorLaid Tryz.prog 400 os).forCall (fun _ _=>0) ⟨#[],args,[]⟩).memory :=
 laidMetH_of_parts3 (fuel:=8) (laidMet_of_run' 8 (by kernel_rfl) (by kernel_rfl)) (by kernel_rfl) (by kernel_rfl)
theorem data_eq:(Rows.laid_redress_token_keywords:DataW Unit)=.agg (Tk.words.map fun x=>.lit (.string x.data.toList)):=by kernel_rfl
theorem of_laid {W:World} (h:laidMetH Tryz.prog laidL W):Tk.KW W:=by
 rw [MakeChecks.laidMetH_plain _ _ _ (by kernel_rfl)] at h
 obtain ⟨ps,hps,_,_⟩:=h
 obtain ⟨_,_,_,_,_,_,_,_,_,_,hps,_⟩:=hps
 obtain ⟨_,_,_,_,_,_,_,_,_,_,hps,_⟩:=hps
 obtain ⟨_,_,_,_,_,_,_,_,_,_,hps,_⟩:=hps
 obtain ⟨g0,t0,cs0,f0,p0,q0,hg0,ht0,hv0,hd0,_⟩:=hps
 obtain rfl:=Option.some.inj (gK.symm.trans hg0)
 obtain rfl:=Option.some.inj (tK.symm.trans ht0)
 obtain ⟨xs,m1,rfl,hx1,hlen,hn,hel⟩:=DataW.trod_array Tryz.underlying200 hd0
 simp only [Prod.mk.injEq] at hx1
 have hx2:(Tk.words.map fun x=>(DataW.lit (.string x.data.toList):DataW Unit))=xs.map (·.1):=by
  have:=hx1.1
  rw [data_eq] at this
  injection this
 have key:∀ j,j<Tk.words.length→W.cell? ⟨0,0+j,none⟩=some (.string (Tk.words.getD j ByteArray.empty)):=by
  intro j hj
  have hj17:j<17:=hj
  have h1:=hel j hj17
  rw [c9] at h1
  have hjx:j<xs.length:=by omega
  rw [List.getElem?_eq_getElem hjx] at h1
  obtain ⟨s,e1,e2,_⟩:=DataW.trod_string Tryz.underlying9 h1
  have h3:(xs.map (·.1))[j]?=some (DataW.lit (.string Tk.words[j].data.toList)):=by
   rw [←hx2,List.getElem?_map,List.getElem?_eq_getElem hj]
   rfl
  rw [List.getElem?_map,List.getElem?_eq_getElem hjx,e2] at h3
  simp only [Option.map_some,Option.some.injEq,DataW.lit.injEq,Lit.string.injEq] at h3
  have hs:s=Tk.words[j]:=by
   cases s
   cases hw:Tk.words[j]
   rw [hw] at h3
   simp only at h3
   rw [Array.toList_inj.1 h3]
  have hc:=World.var?_cell hg0 hv0 j
  rw [Nat.zero_add,hc]
  have e4:cs0.toList[j]?=some (.string s):=by
   have:((cs0.toList.drop (j * 1)).take 1)[0]?=some (.string s):=by rw [e1];rfl
   rw [List.getElem?_take_of_lt (by omega),List.getElem?_drop] at this
   simpa using this
  have e5:Tk.words.getD j ByteArray.empty=s:=by rw [hs,List.getD_eq_getElem?_getD,List.getElem?_eq_getElem hj];rfl
  rw [e5]
  simpa using e4
 refine ⟨?_,key⟩
 exact World.block_lt_of_cell? W _ (key 0 (by decide))
end Kw
end Go.Proofs.YtgefichiillehaaGreatDoor
