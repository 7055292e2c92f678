/- the walk of ValueOwn (printed by gen_vlaw.py). No condition but the keywords' table. -/
import Derived.Test.YtgefichiillehaaGreatDoorPV30
set_option linter.unusedVariables false
set_option linter.unusedSimpArgs false
namespace Go.Proofs.YtgefichiillehaaGreatDoor
open Go.RowKit Go.BigFrame
theorem flat_set (size:Nat) {v':Value}:∀ (css:List (List Value)) (_:∀ cs ∈ css,cs.length=size) (i:Nat) (hi:i < css.length) (j:Nat) (_:j < size),css.flatten.set (i * size+j) v'=(css.set i (css[i].set j v')).flatten
 | [],_,i,hi,_,_=>absurd hi (by simp)
 | c :: css,h,0,_,j,hj=>by
  have hc:=h c (by simp)
  simp only [Nat.zero_mul,Nat.zero_add,List.flatten_cons,List.set_cons_zero,List.getElem_cons_zero]
  rw [List.set_append_left _ _ (by rw [hc];exact hj)]
 | c :: css,h,i+1,hi,j,hj=>by
  have hc:=h c (by simp)
  have ih:=flat_set size (v':=v') css (fun cs hcs=>h cs (by simp [hcs])) i (by simpa using hi) j hj
  simp only [List.flatten_cons,List.set_cons_succ,List.getElem_cons_succ]
  rw [List.set_append_right _ _ (by rw [hc,Nat.succ_mul];omega),hc,show (i+1) * size+j - size=i * size+j from by rw [Nat.succ_mul];omega,ih]
theorem set_block {W:World} {g k:Nat} {u:Value} {b:Nat} (h:b ≠ g):(W.setCell ⟨g,k,none⟩ u).heap[b]?=W.heap[b]?:=Below.heap_setCell W ⟨g,k,none⟩ u b h
theorem ERow.own_get {α:Type} {w:World} {b:Nat} {t:TypeId} {size:Nat} {E:World→List Value→α→Prop} {A:Option Addr} {n c:Nat} {l:List α} (h:ERow w (some b) t size E (.slice A n c) l) {i:Nat} (hi:i < l.length) (hs:0 < size) :
  ∃ g cs cur,A=some ⟨g,0,none⟩∧b≤g∧w.heap[g]?=some (.cells cur t (0,0))∧cs.length=size∧E w cs l[i]∧∀ j u,cs[j]?=some u→w.cell? ⟨g,i * size+j,none⟩=some u∧w.frozen? ⟨g,i * size+j,none⟩=false:=by
 obtain ⟨g0,off0,cs,e0,h1,h2,h3⟩:=ERow.get h hi hs
 obtain ⟨g,cap,cur,e,hb,hg⟩:=ERow.own_at h (by omega)
 injection e with e1 e2 e3
 rw [e0] at e1
 injection e1 with e1
 injection e1 with e4 e5
 subst e4 e5
 refine ⟨g0,cs,cur,e0,hb,hg,h1,h2,fun j u hu=>⟨by have:=h3 j u hu;rwa [Nat.zero_add] at this,frozen_of_row w g0 _ _ _ hg⟩⟩
theorem ERow.set {α:Type} {W:World} {b:Nat} {t:TypeId} {size:Nat} {E:World→List Value→α→Prop} {n c g:Nat} {l:List α} (h:ERow W (some b) t size E (.slice (some ⟨g,0,none⟩) n c) l) {i j:Nat} (hi:i < l.length) (hj:j < size) {u:Value}
  (hE:∀ cs x,E W cs x→E (W.setCell ⟨g,i * size+j,none⟩ u) cs x) (hu:∀ cs x,E W cs x→E (W.setCell ⟨g,i * size+j,none⟩ u) (cs.set j u) x) :
  ERow (W.setCell ⟨g,i * size+j,none⟩ u) (some b) t size E (.slice (some ⟨g,0,none⟩) n c) l:=by
 obtain ⟨css,h1,h2,h3,h4⟩:=h
 have hic:i < css.length:=by omega
 have hn:n=l.length:=by obtain ⟨_,_,e,_⟩:=h3.slice;injection e
 subst hn
 have hr:=(row_set (show W.ownsRow b t size (.slice (some ⟨g,0,none⟩) l.length c) l.length css.flatten from h3) (i * size+j) (by
  have:(i+1) * size≤l.length * size:=Nat.mul_le_mul_right _ (by omega)
  rw [Nat.succ_mul] at this
  omega) u).1
 rw [flat_set size css h2 i hic j hj] at hr
 refine ⟨css.set i (css[i].set j u),by simpa using h1,?_,hr,?_⟩
 ·intro cs hcs
  rcases List.mem_or_eq_of_mem_set hcs with hcs | rfl
  ·exact h2 cs hcs
  ·rw [List.length_set];exact h2 _ (List.getElem_mem _)
 ·intro k hk hk'
  rw [List.getElem_set]
  split
  ·rename_i e;subst e;exact hu _ _ (h4 _ _ _)
  ·exact hE _ _ (h4 _ _ _)
theorem ERow.set_lo {α:Type} {W:World} {b g k:Nat} {t:TypeId} {size:Nat} {E:World→List Value→α→Prop} {v:Value} {l:List α} {u:Value} (h:ERow W (some b) t size E v l) (hg:g < b) (hE:∀ cs x,E W cs x→E (W.setCell ⟨g,k,none⟩ u) cs x):ERow (W.setCell ⟨g,k,none⟩ u) (some b) t size E v l :=
 ERow.mono h (fun n xs hr=>by
  obtain ⟨h1,h2⟩:=(show W.ownsRow b t size v n xs from hr)
  refine ⟨h1,?_⟩
  rcases h2 with hn | ⟨b',cap,cur,rfl,hb,hg',rest⟩
  ·exact .inl hn
  ·exact .inr ⟨b',cap,cur,rfl,hb,(set_block (by omega)).trans hg',rest⟩) hE
def WnE (w:World) (cs:List Value) (x:Vl.Node):Prop:=∃ (kd:Nat) (a b c:Value),cs=[.int .u8 kd,a,b,c]
theorem WnE.of {w:World} {cs:List Value} {x:Vl.Node} (h:Vl.NodE w cs x):WnE w cs x:=⟨x.kind,_,_,_,h⟩
theorem WnE.set {w w':World} {cs:List Value} {x:Vl.Node} (h:WnE w cs x):WnE w' (cs.set 0 (.int .u8 77)) x:=by
 obtain ⟨kd,a,b,c,rfl⟩:=h
 exact ⟨77,a,b,c,rfl⟩
set_option maxRecDepth 100000 in
set_option maxHeartbeats 16000000 in
theorem valueOwn_walk (sv:Value) (x:Id.Sch) (rn:ByteArray) (vs:Value) (v:List Vl.Node) (fn:ByteArray) (w0:World) (hv:Id.SchV w0 none sv x) (hrn:rn.size≤maxLen) (hvv:Vl.ValR w0 none vs v) (hok:∀ n ∈ v,Cd.OkN n) (hfn:fn.size≤maxLen) (w:World) (he:w=w0) (hk:Tk.KW w) :
  Calls Tryz.prog 8 #[sv,.string rn,vs,.string fn] w fun e w'=>e=.returned (.bool true)∧Below w.heap.size w w':=by
 subst he
 have HKW:=Lib.hid hk
 clear hk
 unfold maxLen at hrn hfn
 have HV:=Lib.hid hv
 obtain ⟨A1,n1,c1,A2,n2,c2,A3,n3,c3,rfl,-,-,-⟩:=hv
 have HVV:=Lib.hid hvv
 obtain ⟨A9,n9,c9,rfl⟩:=ERow.is hvv
 have HN9:Hid (n9=v.length):=Lib.hid (by obtain ⟨_,_,e,_⟩:=ERow.slice hvv;injection e)
 clear hvv hok
 have done:∀ W,Below w.heap.size w W→Calls Tryz.prog 16 #[] W fun e w'=>e=.returned (.bool true)∧Below w.heap.size w w':=fun W hW=>(wakes15_any W (HKW.out.below hW)).mono fun _ _ ⟨h1,h2⟩=>⟨h1,hW.trans (h2.mono hW.size)⟩
 have HDN:=Lib.hid done
 clear done
 go_enter Tryz.func8,Tryz.ntmps8
 go_upto_region 1 with (fail)
 refine wp_named (fun V hV=>?_)
 have HL:=Lib.hid (Chk.Lx.start hV)
 clear hV
 obtain ⟨⟨q0,q1,q2,q3⟩,-⟩:=HL.out.box.k4
 go_wp2_with fail
 refine (vgreat_any _ x _ [] _ v _ (Id.SchV.below HL.out.bel HV.out) (ERow.nil_none _ _ _ _) (Vl.ValR.below HVV.out HL.out.bel)).mono ?_
 rintro e W1 ⟨b,rfl,hb,hg⟩
 have HG:=Lib.hid hg
 clear hg
 have HL2:=Lib.hid (HL.out.below hb)
 clear HL q0 q1 q2 q3
 have HL:=HL2
 clear HL2 hb
 obtain ⟨⟨q0,q1,q2,q3⟩,-⟩:=HL.out.box.k4
 cases b
 case true =>
  go_wp2_with fail
  refine (HDN.out _ HL.out.bel).mono ?_
  rintro e W9 ⟨rfl,hb9⟩
  go_wp2_with fail
  go_ret
  exact ⟨rfl,hb9⟩
 have HF:=Lib.hid (HG.out rfl)
 clear HG
 by_cases hr:rn.size≤200
 case neg =>
  have hri:(200:Int) < (rn.size:Int):=by omega
  go_wp2_with fail
  refine (HDN.out _ HL.out.bel).mono ?_
  rintro e W9 ⟨rfl,hb9⟩
  go_wp2_with fail
  go_ret
  exact ⟨rfl,hb9⟩
 have hri:¬ (200:Int) < (rn.size:Int):=by omega
 by_cases hf:fn.size≤200
 case neg =>
  have hfi:(200:Int) < (fn.size:Int):=by omega
  go_wp2_with fail
  refine (HDN.out _ HL.out.bel).mono ?_
  rintro e W9 ⟨rfl,hb9⟩
  go_wp2_with fail
  go_ret
  exact ⟨rfl,hb9⟩
 have hfi:¬ (200:Int) < (fn.size:Int):=by omega
 have HFi:=Lib.hid HF.out.sch.fine
 have HL9:Hid (v.length≤100000):=Lib.hid (Nat.le_trans HF.out.vl (by decide))
 have HZ9:Hid (∀ n ∈ v,n.text.size≤100000):=Lib.hid (fun n hn=>by obtain ⟨i,hi,rfl⟩:=List.getElem_of_mem hn;exact Nat.le_trans (HF.out.tx i hi) (by decide))
 go_upto_region 3 with (fail)
 clear q0 q1 q2 q3
 obtain ⟨U,rfl⟩:∃ U,U=W1:=⟨_,rfl⟩
 have hsv:Vl.ValR (U.alloc (.cells #[] 43)) none (.slice A9 n9 c9) v:=Vl.ValR.below HVV.out (HL.out.bel.alloc HL.out.bel.size _)
 have how:=own_nilE U 43 4 Vl.NodE
 go_upto_region 4 with (at_builtin;go_must (refine wpList_append_any rfl _ _ _ rfl U.heap.size 43 _ 4 40 Tryz.underlying29 Vl.info_node rfl (by decide) Vl.NodE _ [] rfl how none A9 n9 c9 v rfl hsv (Vl.NodE.one _) (fun _ _ _ _ h=>h) (by simp only [maxLen,List.length_nil];have:=HL9.out;omega) (by simp only [List.length_nil];have:=HL9.out;omega) (by simp) ?_);intro v3 X hr3 hb3 ho3 hg3)
 rw [List.nil_append] at hr3
 have hbu:Below U.heap.size U X:=((Below.refl U.heap.size U).alloc (Nat.le_refl _) _).trans hb3
 have HLX:=Lib.hid (HL.out.below hbu)
 have HW:Hid (Vl.ValR X none v3 v):=Lib.hid (ERow.mono hr3 (fun _ _ hr=>hr.weak (fun b' e'=>by cases e')) (fun _ _ h=>h))
 clear hsv how hr3 hb3 ho3 hg3 hbu HL
 have HL:=HLX
 have HLx0:=HLX
 clear HLX
 obtain ⟨A3w,n3w,c3w,rfl⟩:=ERow.is HW.out
 obtain ⟨⟨q0,q1,q2,q3⟩,-⟩:=HL.out.box.k4
 obtain ⟨R,HR⟩:∃ R,Hid (Vl.field x rn v fn=R):=⟨_,Lib.hid rfl⟩
 go_wp2_with fail
 refine (vfield_any _ x HFi.out rn _ v HL9.out HZ9.out fn _ (HKW.out.below HL.out.bel) (Id.SchV.below HL.out.bel HV.out) HW.out).mono ?_
 rw [HR.out]
 rintro e Y ⟨u4,rfl,hb,hu⟩
 have HBXY:=Lib.hid hb
 have HA:=Lib.hid hu
 clear hu
 have HL2:=Lib.hid (HL.out.below hb)
 clear HL q0 q1 q2 q3
 have HL:=HL2
 clear HL2 hb
 obtain ⟨⟨q0,q1,q2,q3⟩,-⟩:=HL.out.box.k4
 obtain ⟨A4,n4,c4,rfl⟩:=ERow.is HA.out
 have HN4:Hid (n4=(R.getD []).length):=Lib.hid (by obtain ⟨_,_,e,_⟩:=ERow.slice HA.out;injection e)
 cases R with
 | none =>
  simp only [Option.isSome_none]
  have hn4:n4=0:=by rw [HN4.out];rfl
  subst hn4
  try simp only [Int.cast_ofNat_Int]
  go_wp2_with fail
  refine (HDN.out _ HL.out.bel).mono ?_
  rintro e W9 ⟨rfl,hb9⟩
  go_wp2_with fail
  go_ret
  exact ⟨rfl,hb9⟩
 | some l =>
  simp only [Option.isSome_some,Option.getD_some] at HA HN4 ⊢
  have HFD:Hid (l ≠ []∧Vl.endL l.length 1 l=some []):=Lib.hid (by obtain ⟨_,_,_,_,h4⟩:=Vl.field_some HR.out;exact Vl.field_whole h4)
  have HLL:Hid (l.length≤100000):=Lib.hid (by have h:=Vl.field_len (x:=x) (rn:=rn) (fn:=fn) HL9.out;rw [HR.out] at h;exact h)
  obtain ⟨ga,ca,cura,ea,hba,hga⟩:=ERow.own_at HA.out (List.length_pos_iff.2 HFD.out.1)
  injection ea with ea1 ea2 ea3
  subst ea1 ea3
  clear ea2
  have hgl:ga < Y.heap.size:=(Array.getElem?_eq_some_iff.1 hga).1
  clear hga
  go_upto_region 7 with (fail)
  clear q0 q1 q2 q3
  have hsv:Vl.ValR (Y.alloc (.cells #[] 43)) none (.slice (some ⟨ga,0,none⟩) n4 c4) l:=Vl.ValR.below HA.out.none ((Below.refl _ _).alloc (Nat.le_refl _) _)
  have how:=own_nilE Y 43 4 Vl.NodE
  go_upto_region 8 with (at_builtin;go_must (refine wpList_append_any rfl _ _ _ rfl Y.heap.size 43 _ 4 40 Tryz.underlying29 Vl.info_node rfl (by decide) Vl.NodE _ [] rfl how none (some ⟨ga,0,none⟩) n4 c4 l rfl hsv (Vl.NodE.one _) (fun _ _ _ _ h=>h) (by simp only [maxLen,List.length_nil];have:=HLL.out;omega) (by simp only [List.length_nil];have:=HLL.out;omega) (by simp) ?_);intro v7 Z hr3 hb3 ho3 hg3)
  rw [List.nil_append] at hr3
  have hby:Below Y.heap.size Y Z:=((Below.refl Y.heap.size Y).alloc (Nat.le_refl _) _).trans hb3
  have HLZ:=Lib.hid (HL.out.below hby)
  have HBb:=Lib.hid hr3
  have HAZ:Hid (ERow Z (some X.heap.size) 43 4 WnE (.slice (some ⟨ga,0,none⟩) n4 c4) l):=Lib.hid (ERow.mono (ERow.below HA.out hby (fun _ _ h=>h)) (fun _ _ h=>h) (fun _ _ h=>WnE.of h))
  have HBXZ:Hid (Below X.heap.size X Z):=Lib.hid (HBXY.out.trans (hby.mono HBXY.out.size))
  clear hsv how hr3 hb3 ho3 hg3 hby HL HA HBXY
  have HL:=HLZ
  clear HLZ
  obtain ⟨A7,n7,c7,rfl⟩:=ERow.is HBb.out
  have hn4b:n4≤100000:=by rw [HN4.out];exact HLL.out
  go_wp2_with fail
  go_loopw [13] (fun i wr=>∃ (k:Nat),k≤n4∧i=.int .i64 k∧Hid (ERow wr (some X.heap.size) 43 4 WnE (.slice (some ⟨ga,0,none⟩) n4 c4) l)∧Hid (ERow wr (some Y.heap.size) 43 4 Vl.NodE (.slice A7 n7 c7) l)∧Hid (Below X.heap.size X wr)) (fun i _=>n4 - (intOf i).toNat)
  case atStart=>exact ⟨0,by omega,rfl,HAZ,HBb,HBXZ⟩
  case round =>
   obtain ⟨k,hk,rfl,HA2,HB2,HX2⟩:=hrel
   obtain ⟨V,rfl⟩:∃ w',w'=wr:=⟨_,rfl⟩
   have ik0:(0:Int)≤(k:Int):=by omega
   by_cases hlt:k < n4
   case pos =>
    have hka:k < l.length:=by rw [← HN4.out];exact hlt
    have ik1:(k:Int) < (n4:Int):=by omega
    obtain ⟨g,cs,cur,eg,-,hg,hcl,⟨kd,a1,a2,a3,rfl⟩,hc⟩:=ERow.own_get HA2.out hka (by omega)
    injection eg with eg
    injection eg with eg
    subst eg
    obtain ⟨z0,zf0⟩:=hc 0 _ rfl
    simp only [Nat.add_zero] at z0 zf0
    clear hc hg
    have HA3:=Lib.hid (ERow.set (j:=0) (u:=.int .u8 77) HA2.out hka (by omega) (fun _ _ h=>h) (fun _ _ h=>WnE.set h))
    have HB3:=Lib.hid (ERow.set_lo (k:=k * 4) (u:=.int .u8 77) HB2.out hgl (fun _ _ h=>h))
    have HX3:=Lib.hid (HX2.out.setCell (p:=⟨ga,k * 4,none⟩) (by show X.heap.size≤ga;omega) (.int .u8 77))
    simp only [Nat.add_zero] at HA3
    go_wp2_with fail
    go_roundw
    case rel=>exact ⟨k+1,by omega,by go_num,HA3,HB3,HX3⟩
    case measure=>simp [intOf];have:=HN4.out;omega
   have HLV:Hid (Chk.Lx w V #[.string x.name,.slice A1 n1 c1,.slice A2 n2 c2,.slice A3 n3 c3]):=Lib.hid ⟨HLx0.out.bel.trans (HX2.out.mono HLx0.out.bel.size),HLx0.out.box.below HX2.out HLx0.out.box.lt⟩
   have HWV:=Lib.hid (Vl.ValR.below HW.out HX2.out)
   clear HL
   have HL:=HLV
   clear HLV
   obtain ⟨⟨q0,q1,q2,q3⟩,-⟩:=HL.out.box.k4
   go_wp2_with fail
   refine (vfield_any _ x HFi.out rn _ v HL9.out HZ9.out fn _ (HKW.out.below HL.out.bel) (Id.SchV.below HL.out.bel HV.out) HWV.out).mono ?_
   rw [HR.out]
   rintro e Y2 ⟨u5,rfl,hb,hu⟩
   have HU5:=Lib.hid hu.none
   have HB4:=Lib.hid (Vl.ValR.below (ERow.mono HB2.out (fun _ _ hr=>hr.weak (fun b' e'=>by cases e')) (fun _ _ h=>h):Vl.ValR V none (.slice A7 n7 c7) l) hb)
   have HWY:=Lib.hid (Vl.ValR.below HWV.out hb)
   clear hu
   have HL2:=Lib.hid (HL.out.below hb)
   clear HL q0 q1 q2 q3
   have HL:=HL2
   clear HL2 hb
   obtain ⟨⟨q0,q1,q2,q3⟩,-⟩:=HL.out.box.k4
   simp only [Option.isSome_some,Option.getD_some] at HU5 ⊢
   obtain ⟨A5,n5,c5,rfl⟩:=ERow.is HU5.out
   go_wp2_with fail
   refine (rsame15_any _ _ _ _ _ HB4.out HU5.out HLL.out).mono ?_
   rw [Vl.sameF_refl]
   rintro e Y3 ⟨rfl,hb⟩
   have HB5:=Lib.hid (Vl.ValR.below HB4.out hb)
   have HWZ:=Lib.hid (Vl.ValR.below HWY.out hb)
   have HL2:=Lib.hid (HL.out.below hb)
   clear HL q0 q1 q2 q3
   have HL:=HL2
   clear HL2 hb
   obtain ⟨⟨q0,q1,q2,q3⟩,-⟩:=HL.out.box.k4
   go_wp2_with fail
   refine (rsame15_any _ _ _ _ _ (Vl.ValR.below HVV.out HL.out.bel) HWZ.out HL9.out).mono ?_
   rw [Vl.sameF_refl]
   rintro e Y4 ⟨rfl,hb⟩
   have HB6:=Lib.hid (Vl.ValR.below HB5.out hb)
   have HL2:=Lib.hid (HL.out.below hb)
   clear HL q0 q1 q2 q3
   have HL:=HL2
   clear HL2 hb
   obtain ⟨⟨q0,q1,q2,q3⟩,-⟩:=HL.out.box.k4
   have HN7:Hid (n7=l.length):=Lib.hid (by obtain ⟨_,_,e,_⟩:=ERow.slice HB6.out;injection e)
   go_wp2_with fail
   refine (vend_any _ l 0 _ HB6.out HLL.out).mono ?_
   rw [Vl.endV_whole HFD.out.2,← HN7.out]
   rintro e Y5 ⟨rfl,rfl⟩
   go_wp2_with fail
   refine (HDN.out _ HL.out.bel).mono ?_
   rintro e W9 ⟨rfl,hb9⟩
   go_wp2_with fail
   go_ret
   exact ⟨rfl,hb9⟩
end Go.Proofs.YtgefichiillehaaGreatDoor
