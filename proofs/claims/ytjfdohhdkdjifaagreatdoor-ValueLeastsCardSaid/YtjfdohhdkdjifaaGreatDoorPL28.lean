/- redressref15.Types, Fits; a part of a row; slices.Clone of parts; Field of both (printed by gen_vals.py). No condition but the keywords' table and the ones the theorems state. -/
import Derived.Test.YtjfdohhdkdjifaaGreatDoorPL20
import Derived.Test.YtjfdohhdkdjifaaGreatDoorPL21
import Derived.Test.YtjfdohhdkdjifaaGreatDoorPL27
import Derived.Test.YtjfdohhdkdjifaaGreatDoorPL22
import Derived.Test.YtjfdohhdkdjifaaGreatDoorPL16
import Derived.Test.YtjfdohhdkdjifaaGreatDoorPL15
set_option linter.unusedVariables false
set_option linter.unusedSimpArgs false
namespace Go.Proofs.YtjfdohhdkdjifaaGreatDoor
open Go.RowKit Go.BigFrame
namespace Vl
open Go.Proofs.YtjfdohhdkdjifaaGreatDoor.Id Go.Proofs.YtjfdohhdkdjifaaGreatDoor.Chk
theorem info_node:(Tryz.prog.info? 71).map (fun i=>(i.zero,i.size,i.bytes))=some (some (.agg #[.int .u8 0,.int .i64 0,.string ByteArray.empty,.int .i64 0]),4,40):=by kernel_rfl
theorem NodE.one (w:World) (cs:List Value) (x:Node) (h:NodE w cs x):∀ u∈cs,u.oneCell'=true:=by
 unfold NodE Node.cells at h
 subst h
 simp [Value.oneCell']
theorem ValR.below {w w':World} {B:Option Nat} {v:Value} {l:List Node} (h:ValR w B v l) (hb:Below w.heap.size w w'):ValR w' B v l:=ERow.below h hb (fun _ _ h=>h)
theorem ValR.none {w:World} {b:Nat} {v:Value} {l:List Node} (h:ValR w (some b) v l):ValR w none v l:=ERow.mono h (fun _ _ hr=>hr.weak (fun b' e'=>by cases e')) (fun _ _ h=>h)
/-- A part of a row. -/
theorem _root_.Go.Proofs.YtjfdohhdkdjifaaGreatDoor.ERow.part {α:Type} {w:World} {t:TypeId} {size n c g off:Nat} {E:World→List Value→α→Prop} {l:List α} (h:ERow w none t size E (.slice (some ⟨g,off,none⟩) n c) l) {a b:Nat} (hab:a≤b) (hb:b≤n):ERow w none t size E (.slice (some ⟨g,off+a * size,none⟩) (b - a) (c - a)) ((l.take b).drop a):=by
 obtain ⟨css,h1,h2,h3,h4⟩:=h
 obtain ⟨hl,A,c',e,h5,h6,h7,h8⟩:=h3
 injection e with e1 e2 e3
 subst e1 e2 e3
 have hk:∀ cs∈(css.take b).drop a,cs.length=size:=fun cs hc=>h2 cs (List.mem_of_mem_take (List.mem_of_mem_drop hc))
 have hlen:((css.take b).drop a).length=b - a:=by rw [List.length_drop,List.length_take,h1];omega
 have hll:((l.take b).drop a).length=b - a:=by rw [List.length_drop,List.length_take];omega
 refine ⟨(css.take b).drop a,by rw [hlen,hll],hk,⟨by rw [flatten_len hk,hlen,hll],_,_,by rw [hll],by rw [hll];omega,by omega,(fun e=>by cases e),?_⟩,fun i p q=>?_⟩
 ·intro h0
  rw [flatten_len hk,hlen] at h0
  have hpos:0<l.length * size:=by
   rcases Nat.eq_zero_or_pos size with hz | hz
   ·rw [hz] at h0;omega
   ·refine Nat.mul_pos ?_ hz
    rcases Nat.eq_zero_or_pos (b - a) with hy | hy
    ·rw [hy] at h0;omega
    ·omega
  obtain ⟨g',off',e,hc⟩:=h8 (by rw [hl];exact hpos)
  injection e with e
  injection e with e1 e2
  subst e1 e2
  refine ⟨_,_,rfl,fun j u hu=>?_⟩
  have hj:j<((css.take b).drop a).flatten.length:=(List.getElem?_eq_some_iff.1 hu).1
  rw [flatten_len hk,hlen] at hj
  have hs:0<size:=by rcases Nat.eq_zero_or_pos size with hz | hz;rw [hz] at hj;omega;exact hz
  have hd:j / size<b - a:=(Nat.div_lt_iff_lt_mul hs).2 hj
  have hm:j % size<size:=Nat.mod_lt _ hs
  have hjd:j=j / size * size+j % size:=by have:=Nat.div_add_mod j size;rw [Nat.mul_comm] at this;omega
  have e3:=flatten_get hk (j:=j / size) (by rw [hlen];exact hd) (j % size) hm
  rw [←hjd,hu] at e3
  have e4:=flatten_get h2 (j:=a+j / size) (by rw [h1];omega) (j % size) hm
  have e5:((css.take b).drop a)[j / size]'(by rw [hlen];exact hd)=css[a+j / size]'(by rw [h1];omega):=by simp
  rw [e5,←e4] at e3
  have:=hc ((a+j / size) * size+j % size) u e3.symm
  rw [Nat.add_mul,Nat.add_assoc,←hjd,←Nat.add_assoc] at this
  exact this
 ·have e1:((css.take b).drop a)[i]=css[a+i]'(by rw [hlen] at p;omega):=by simp
  have e2:((l.take b).drop a)[i]=l[a+i]'(by rw [hll] at q;omega):=by simp
  rw [e1,e2]
  exact h4 _ _ _
theorem nmd_row (W:World) (rn:ByteArray):SortsR (W.alloc (.cells #[.int .u8 7,.string rn] 44)) none (.slice (some ⟨W.heap.size,0,none⟩) 1 1) (nmd rn):=by
 refine ⟨[[.int .u8 7,.string rn]],rfl,by simp,⟨rfl,_,_,rfl,Nat.le_refl _,by decide,(fun e=>by cases e),fun _=>⟨_,_,rfl,fun j u hu=>?_⟩⟩,fun i h h'=>?_⟩
 ·rw [Nat.zero_add,World.cell?_alloc_mark]
  simpa using hu
 ·obtain rfl:i=0:=by simpa using h
  rfl
theorem endL_part {N:Nat} {v r:List Node} {a b:Nat} (ha:a≤v.length) (h:endL N 1 (v.drop a)=some r) (hr:r=v.drop b) (hb:b≤v.length):a≤b∧(v.drop a).take ((v.drop a).length - r.length)=(v.take b).drop a:=by
 obtain ⟨h1,h2⟩:=endL_len h
 subst hr
 rw [List.length_drop,List.length_drop] at h1 ⊢
 refine ⟨by omega,?_⟩
 rw [List.drop_take]
 congr 1
 omega
end Vl
theorem clonev_eq1 (W:World):Sem.run Tryz.prog (binOp .eql 23 (.slice none 0 0) (.slice none 0 0)) W=.ok (.bool true) W:=by kernel_rfl
theorem clonev_eq2 (ad:Addr) (n c:Nat) (W:World):Sem.run Tryz.prog (binOp .eql 23 (.slice (some ad) n c) (.slice none 0 0)) W=.ok (.bool false) W:=by kernel_rfl
set_option maxRecDepth 100000 in
set_option maxHeartbeats 4000000 in
theorem clonev_any {α:Type} (E:World→List Value→α→Prop) (hone:∀ w cs x,E w cs x→∀ u∈cs,u.oneCell'=true) (A:Option Addr) (n c:Nat) (l:List α) (hl:l.length≤100000) (w:World) (hE:∀ w',Below w.heap.size w w'→∀ cs x,E w cs x→E w' cs x) (hr:ERow w none 71 4 E (.slice A n c) l) :
  Calls Tryz.prog 166 #[.slice A n c] w fun e w'=>∃ v',e=.returned v'∧Below w.heap.size w w'∧ERow w' (some w.heap.size) 71 4 E v' l:=by
 obtain ⟨A',c',e,h1,h2,h3⟩:=ERow.slice hr
 injection e with e1 e2 e3
 subst e1 e2 e3
 cases A with
 | none =>
  obtain ⟨h4,rfl⟩:=h3 rfl
  obtain rfl:l=[]:=List.length_eq_zero_iff.1 h4
  have heq:=clonev_eq1
  go_enter Tryz.func166,Tryz.ntmps166
  go_wp2_with fail
  go_ret
  exact ⟨_,rfl,Below.refl _ _,ERow.nil _ _ _ _ _⟩
 | some ad =>
  obtain ⟨css,k1,k2,k3,k4⟩:=hr
  obtain ⟨A',c',e',g1,g2,g3,g4⟩:=k3.slice
  injection e' with e1 e2 e3
  subst e1 e3
  have HL:Hid (css.flatten.length=l.length * 4):=Lib.hid (by rw [flatten_len k2,k1])
  have HS:Hid (∀ j u,css.flatten[j]?=some u→(w.alloc (.cells #[] 71)).cell? (ad.add j)=some u):=Lib.hid (fun j u hu=>by
   have hj:j<css.flatten.length:=(List.getElem?_eq_some_iff.1 hu).1
   obtain ⟨g,off,e4,hc⟩:=g4 (by omega)
   injection e4 with e4
   subst e4
   have ha:(⟨g,off,none⟩:Addr).add j=⟨g,off+j,none⟩:=by simp [Addr.add]
   rw [ha]
   have hh:=hc j u hu
   exact (((Below.refl w.heap.size w).alloc (Nat.le_refl _) (.cells #[] 71)).cell (World.block_lt_of_cell? w _ hh)).trans hh)
  have HO:Hid (∀ u∈css.flatten,u.oneCell'=true):=Lib.hid (fun u hu=>by
   obtain ⟨cs,hcs,hu'⟩:=List.mem_flatten.1 hu
   obtain ⟨i,hi',rfl⟩:=List.getElem_of_mem hcs
   exact hone _ _ _ (k4 i hi' (by omega)) u hu')
  have HK:=Lib.hid k4
  have HK1:=Lib.hid k1
  have HK2:=Lib.hid k2
  clear k3 k4 g4 g3 h3 k1 k2
  have heq:=clonev_eq2
  go_enter Tryz.func166,Tryz.ntmps166
  go_wp2_with (at_builtin;go_must (refine wpList_append_src rfl (.tmp 5) (.tmp 6) _ rfl w.heap.size 71 _ 4 40 Tryz.underlying23 Vl.info_node rfl (by decide) _ 0 [] rfl (own_nil_block _ _ _) _ l.length c css.flatten rfl (fun e=>by cases e) HL.out (fun ad' had=>by injection had with had;subst had;exact HS.out) HO.out (by simp only [maxLen];omega) (by omega) (by simp) ?_);intro v' w' hown hg hb)
  go_ret
  rw [Nat.zero_add,List.nil_append] at hown
  have hb':=((Below.refl w.heap.size w).alloc (Nat.le_refl _) (.cells #[] 71)).trans hb
  exact ⟨_,rfl,hb',css,HK1.out,HK2.out,hown,fun i h h'=>hE _ hb' _ _ (HK.out i h h')⟩
set_option maxRecDepth 100000 in
set_option maxHeartbeats 16000000 in
theorem rtypes_any (sv:Value) (x:Id.Sch) (hF:Chk.Fine x) (tv:Value) (t:List Id.Srt) (w:World) (hv:Id.SchV w none sv x) (ht:Id.SortsR w none tv t) :
  Calls Tryz.prog 68 #[sv,tv] w fun e w'=>e=.returned (.int .i64 (Vl.typE x t))∧Below w.heap.size w w':=by
 obtain ⟨R,HR⟩:∃ R,Hid (Vl.typE x t=R):=⟨_,Lib.hid rfl⟩
 rw [HR.out]
 unfold Vl.typE at HR
 have HF:=Lib.hid hF
 have HV:=Lib.hid hv
 have HS:=Lib.hid ht
 obtain ⟨A1,n1,c1,A2,n2,c2,A3,n3,c3,rfl,-,-,-⟩:=hv
 clear hF ht
 go_enter Tryz.func68,Tryz.ntmps68
 go_upto_region 1 with (fail)
 refine wp_named (fun V hV=>?_)
 have HL:=Lib.hid (Chk.Lx.start hV)
 clear hV
 obtain ⟨⟨q0,q1,q2,q3⟩,-⟩:=HL.out.box.k4
 go_wp2_with fail
 clear q0 q1 q2 q3
 have h1:=rcheck_any _ x HF.out _ (HV.out.below HL.out.bel)
 rw [Chk.doc_check] at h1
 unfold Chk.docV at h1
 refine h1.mono ?_
 rintro e W1 ⟨rfl,hb⟩
 have HL1:=Lib.hid (HL.out.below hb)
 clear hb h1 HL
 obtain ⟨⟨cw,ce⟩,HC⟩:∃ c,Hid (Chk.check x=c):=⟨_,Lib.hid rfl⟩
 rw [HC.out] at HR
 rw [HC.out]
 simp only at HR ⊢
 by_cases h0:ce=0
 case neg =>
  have HE:Hid (ce=R):=Lib.hid (by rw [←HR.out,if_pos h0])
  have t0:((ce:Int) != 0)=true:=by rw [bne_iff_ne];omega
  have t1:¬(ce:Int)=0:=by omega
  have t2:((ce:Int)==0)=false:=by rw [beq_eq_false_iff_ne];omega
  go_wp2_with fail
  go_ret
  exact ⟨by rw [←HE.out];rfl,HL1.out.bel⟩
 subst h0
 have HR2:Hid ((if Chk.right x t=true then 0 else 131)=R):=Lib.hid (by rw [←HR.out];simp only [ne_eq,not_true,if_false])
 clear HR HC
 simp only [Int.cast_ofNat_Int]
 obtain ⟨⟨q0,q1,q2,q3⟩,-⟩:=HL1.out.box.k4
 go_wp2_with fail
 clear q0 q1 q2 q3
 refine (rright_any _ x _ t _ (HV.out.below HL1.out.bel) (ERow.below HS.out HL1.out.bel (fun _ _ h=>h))).mono ?_
 rintro e W2 ⟨rfl,hb⟩
 have HL2:=Lib.hid (HL1.out.below hb)
 clear hb HL1
 cases hrt:Chk.right x t
 case false =>
  have HE:Hid (131=R):=Lib.hid (by rw [←HR2.out,hrt];rfl)
  go_wp2_with fail
  go_ret
  exact ⟨by rw [←HE.out];rfl,HL2.out.bel⟩
 case true =>
  have HE:Hid (0=R):=Lib.hid (by rw [←HR2.out,hrt];rfl)
  go_wp2_with fail
  go_ret
  exact ⟨by rw [←HE.out];rfl,HL2.out.bel⟩
set_option maxRecDepth 100000 in
set_option maxHeartbeats 16000000 in
theorem vfield_any (sv:Value) (x:Id.Sch) (hF:Chk.Fine x) (rn:ByteArray) (vs:Value) (v:List Vl.Node) (hl:v.length≤100000) (hz:∀ n∈v,n.text.size≤100000) (fn:ByteArray) (w:World) (hk:Tk.KW w) (hv:Id.SchV w none sv x) (hvv:Vl.ValR w none vs v) :
  Calls Tryz.prog 132 #[sv,.string rn,vs,.string fn] w fun e w'=>∃ u,e=.returned (.tuple #[u,.bool (Vl.field x rn v fn).isSome])∧Below w.heap.size w w'∧Vl.ValR w' (some w.heap.size) u ((Vl.field x rn v fn).getD []):=by
 obtain ⟨R,HR⟩:∃ R,Hid (Vl.field x rn v fn=R):=⟨_,Lib.hid rfl⟩
 rw [HR.out]
 unfold Vl.field at HR
 have HF:=Lib.hid hF
 have HKW:=Lib.hid hk
 have HV:=Lib.hid hv
 have HVV:=Lib.hid hvv
 have HZ:=Lib.hid hz
 obtain ⟨A,n,c,rfl⟩:=ERow.is hvv
 have HN:Hid (n=v.length):=Lib.hid (by obtain ⟨_,_,e,_⟩:=ERow.slice hvv;injection e)
 have hn:n≤100000:=by rw [HN.out];exact hl
 have hcn:n≤c∧c≤9223372036854775807:=by obtain ⟨_,_,e,h1,h2,_⟩:=ERow.slice hvv;injection e with _ e2 e3;rw [e3,e2];exact ⟨h1,h2⟩
 obtain ⟨A1,n1,c1,A2,n2,c2,A3,n3,c3,rfl,-,-,-⟩:=hv
 clear hF hvv hz hk
 go_enter Tryz.func132,Tryz.ntmps132
 go_upto_region 1 with (fail)
 refine wp_named (fun V hV=>?_)
 have HL:=Lib.hid (Chk.Lx.start hV)
 clear hV
 obtain ⟨⟨q0,q1,q2,q3⟩,-⟩:=HL.out.box.k4
 go_wp2_with fail
 clear q0 q1 q2 q3
 refine (cfind_any _ x rn (Vl.fine_small HF.out) _ (HV.out.below HL.out.bel)).mono ?_
 rintro e W1 ⟨u,rfl,hb,uu,rfl,hu⟩
 obtain ⟨A5,n5,c5,rfl⟩:=ERow.is hu
 have HL1:=Lib.hid (HL.out.below hb)
 have HFD:=Lib.hid hu
 have HN5:Hid (n5=((Chk.find x rn).getD Chk.recZ).fields.length):=Lib.hid (by obtain ⟨_,_,e,_⟩:=ERow.slice hu;injection e)
 clear hb hu HL
 go_upto_region 2 with (fail)
 refine wp_named (fun W2 hW=>?_)
 obtain ⟨hb2,hq2,-⟩:=fresh_box hW
 clear hW
 have HL2:=Lib.hid (HL1.out.below hb2)
 have HQ2:=Lib.hid hq2
 have hw2:W1.heap.size<W2.heap.size:=hq2.lt
 have hw0:w.heap.size<W1.heap.size:=HL1.out.box.lt
 have HFD2:=Lib.hid (show Id.FldsR W2 none (.slice A5 n5 c5) ((Chk.find x rn).getD Chk.recZ).fields from ERow.mono (ERow.below HFD.out hb2 (fun cs x he=>Id.FldE.below hb2 cs x he)) (fun _ _ hr=>hr.weak (fun b' e'=>by cases e')) (fun cs x he=>by obtain ⟨u,e,h⟩:=he;exact ⟨u,e,ERow.mono h (fun _ _ hr=>hr.weak (fun b' e'=>by cases e')) (fun _ _ h=>h)⟩))
 obtain ⟨⟨r0,r1,r2⟩,-⟩:=hq2.k3
 clear hb2 hq2 HL1 HFD
 cases hfd:Chk.find x rn with
 | none =>
  rw [hfd] at HR HN5 HFD2 HQ2 r0 r1
  have HX:Hid (R=none):=Lib.hid HR.out.symm
  simp only [Option.isSome_none,Option.getD_none] at *
  go_wp2_with fail
  go_ret2
  exact ⟨_,by rw [HX.out];rfl,HL2.out.bel,by rw [HX.out];exact ERow.nil _ _ _ _ _⟩
 | some r =>
  rw [hfd] at HR HN5 HFD2 HQ2 r0 r1
  have HFND:=Lib.hid hfd
  obtain ⟨rnn,rc,rf⟩:=r
  simp only [Option.isSome_some,Option.getD_some] at HR HN5 HFD2 HQ2 r0 r1 ⊢
  clear hfd
  cases rc
  case true =>
   have HX:Hid (R=none):=Lib.hid (by rw [←HR.out];rfl)
   go_wp2_with fail
   go_ret2
   exact ⟨_,by rw [HX.out];rfl,HL2.out.bel,by rw [HX.out];exact ERow.nil _ _ _ _ _⟩
  have HR2:Hid ((if Vl.fits x (Vl.nmd rn) v≠0 then none else Vl.fieldL v.length fn rf (v.drop 1))=R):=Lib.hid (by rw [←HR.out];rfl)
  clear HR
  obtain ⟨⟨q0,q1,q2,q3⟩,-⟩:=HL2.out.box.k4
  go_wp2_with fail
  skip
  refine (vfits_any _ x HF.out _ (Vl.nmd rn) _ v hl HZ.out _ (HKW.out.below ?_) (Id.SchV.below ?_ HV.out) ?_ (Vl.ValR.below HVV.out ?_)).mono ?_
  all_goals first | exact HL2.out.bel.trans (((Below.refl _ _).alloc (Nat.le_refl _) _).mono HL2.out.bel.size) | skip
  ·exact Vl.nmd_row W2 rn
  rintro e W3 ⟨rfl,hb3⟩
  have hb23:=bl_join ((Below.refl W2.heap.size W2).alloc (Nat.le_refl _) _) hb3
  have HL3:=Lib.hid (HL2.out.below hb23)
  have HQ3:=Lib.hid (HQ2.out.below hb23 HQ2.out.lt)
  have HFD3:=Lib.hid (show Id.FldsR W3 none (.slice A5 n5 c5) rf from ERow.below HFD2.out hb23 (fun cs x he=>Id.FldE.below hb23 cs x he))
  clear hb3 hb23 r0 r1 r2 q0 q1 q2 q3 HL2 HFD2
  obtain ⟨⟨r0,r1,r2⟩,-⟩:=HQ3.out.k3
  obtain ⟨ce,HC⟩:∃ c,Hid (Vl.fits x (Vl.nmd rn) v=c):=⟨_,Lib.hid rfl⟩
  rw [HC.out] at HR2 ⊢
  by_cases h0:ce=0
  case neg =>
   have HX:Hid (R=none):=Lib.hid (by rw [←HR2.out,if_pos h0])
   have t0:((ce:Int) != 0)=true:=by rw [bne_iff_ne];omega
   have t1:¬(ce:Int)=0:=by omega
   have t2:((ce:Int)==0)=false:=by rw [beq_eq_false_iff_ne];omega
   go_wp2_with fail
   go_ret2
   exact ⟨_,by rw [HX.out];rfl,HL3.out.bel,by rw [HX.out];exact ERow.nil _ _ _ _ _⟩
  subst h0
  have HR3:Hid (Vl.fieldL n fn rf (v.drop 1)=R):=Lib.hid (by rw [←HR2.out,HN.out];rfl)
  have hne:1≤n:=by have h:=(Vl.fits_end HC.out).1;rw [HN.out];exact List.length_pos_iff.2 h
  have HM0:Hid (∃ D e,Vl.manyF (Vl.ofF x none n) ((rf.drop 0).map (·.type)) D (v.drop 1)=some (e,[])):=Lib.hid (by obtain ⟨n0,q,e,hv0,hm⟩:=Vl.fits_rec HFND.out rfl HC.out;rw [hv0,List.drop_succ_cons,List.drop_zero,List.drop_zero];rw [hv0] at hm;rw [HN.out,hv0];exact ⟨0,e,hm⟩)
  clear HR2 HC
  simp only [Int.cast_ofNat_Int]
  obtain ⟨g9,off9,_,hA9,-⟩:=ERow.get HVV.out (i:=0) (by rw [←HN.out];exact hne) (by omega)
  subst hA9
  have hfs:n5≤100:=by rw [HN5.out];have:=(HF.out.re _ (Vl.find_name HFND.out).1).2.1;simp only at this;omega
  go_wp2_with fail
  clear r0 r1 r2
  go_loopw [12,15,40] (fun pv _ iv wr=>∃ (j p:Nat),j≤n5∧p≤n∧iv=.int .i64 j∧pv=.int .i64 p∧Hid (Vl.fieldL n fn (rf.drop j) (v.drop p)=R)∧Hid (∃ D e,Vl.manyF (Vl.ofF x none n) ((rf.drop j).map (·.type)) D (v.drop p)=some (e,[]))∧Hid (Below W3.heap.size W3 wr)) (fun pv _ iv _=>n5 - (intOf iv).toNat)
  case atStart=>exact ⟨0,1,by omega,hne,rfl,rfl,HR3,HM0,Lib.hid (Below.refl _ _)⟩
  case round =>
   obtain ⟨j,p,hj,hp,rfl,rfl,HQ,HM,HB⟩:=hrel
   obtain ⟨U,rfl⟩:∃ w',w'=wr:=⟨_,rfl⟩
   have HLU:=Lib.hid (HL3.out.below HB.out)
   have ij0:(0:Int)≤(j:Int):=by omega
   by_cases hlt:j<n5
   case neg =>
    have HX:Hid (R=none):=Lib.hid (by rw [←HQ.out,List.drop_of_length_le (by rw [←HN5.out];omega)];rfl)
    go_wp2_with fail
    go_ret2
    exact ⟨_,by rw [HX.out];rfl,HLU.out.bel,by rw [HX.out];exact ERow.nil _ _ _ _ _⟩
   have hjk:j<rf.length:=by rw [←HN5.out];exact hlt
   have hij:(j:Int)<(n5:Int):=by omega
   have hd:=HQ.out
   rw [List.drop_eq_getElem_cons hjk] at hd
   obtain ⟨g6,off6,cs6,hA6,-,⟨u6,he6,hu6⟩,hc6⟩:=ERow.get HFD3.out hjk (by omega)
   obtain ⟨A7,n7,c7,hu7⟩:=ERow.is hu6
   subst hu7
   obtain ⟨⟨yn,yt⟩,Hy⟩:∃ y,Hid (rf[j]=y):=⟨_,Lib.hid rfl⟩
   rw [Hy.out] at he6 hd
   simp only at he6
   subst he6
   have f0:=hc6 0 _ rfl
   have f1:=hc6 1 _ rfl
   simp only [Nat.add_zero] at f0
   have f0:=(HB.out.cell (World.block_lt_of_cell? W3 _ f0)).trans f0
   have f1:=(HB.out.cell (World.block_lt_of_cell? W3 _ f1)).trans f1
   unfold Vl.fieldL at hd
   have HD:=Lib.hid hd
   subst hA6
   clear hc6 hu6 hd Hy
   go_upto_region 8 with (fail)
   refine wp_named (fun U1 hU=>?_)
   obtain ⟨hb4,hq4,-⟩:=fresh_box hU
   clear hU
   have HLU1:=Lib.hid (HLU.out.below hb4)
   have HB1:=Lib.hid (HB.out.trans (hb4.mono HB.out.size))
   obtain ⟨⟨y0,y1⟩,-⟩:=hq4.k2
   clear hb4 hq4 f0 f1 HLU HB
   go_wp2_with fail
   refine (vend_any _ v (p:Int) U1 (Vl.ValR.below HVV.out HLU1.out.bel) hl).mono ?_
   rw [Vl.endAt_nat,←HN.out]
   rintro e U2 ⟨rfl,rfl⟩
   obtain ⟨D,e0,hm⟩:=HM.out
   rw [List.drop_eq_getElem_cons hjk,List.map_cons] at hm
   unfold Vl.manyF at hm
   split at hm
   ·cases hm
   rename_i pr hpr
   obtain ⟨a5,r⟩:=pr
   have hq:=(Vl.of_len (N:=n) _ _ _ _ _ (by rw [List.length_drop,←HN.out];omega) hpr).2.2
   simp only at hm
   rw [hq]
   obtain ⟨h1,h2⟩:=Vl.endL_len hq
   rw [List.length_drop,←HN.out] at h1 h2
   obtain ⟨z,hz⟩:∃ z,z=n - r.length:=⟨_,rfl⟩
   have hr:r=v.drop z:=by rw [h2,List.drop_drop];congr 1;omega
   have e1:Vl.endV v (some r)=(z:Int):=by show (v.length:Int) - (r.length:Int)=(z:Int);rw [←HN.out];omega
   rw [e1]
   have hzn:z≤n:=by omega
   have hpz0:p<z:=by omega
   obtain ⟨hpz,hpt⟩:=Vl.endL_part (a:=p) (b:=z) (by rw [←HN.out];exact hp) (by exact hq) hr (by rw [←HN.out];exact hzn)
   have HD2:Hid ((if (yn.toList==fn.toList)=true then some ((v.take z).drop p) else Vl.fieldL n fn (rf.drop (j+1)) (v.drop z))=R):=Lib.hid (by rw [←HD.out,hq];simp only;rw [hpt,hr])
   have HM2:Hid (∃ D e,Vl.manyF (Vl.ofF x none n) ((rf.drop (j+1)).map (·.type)) D (v.drop z)=some (e,[])):=Lib.hid ⟨_,_,by rw [←hr];exact hm⟩
   clear hq h1 h2 hz hr e1 hpt HD hm hpr HM
   cases hyn:(yn.toList==fn.toList)
   case false =>
    have HQ2:Hid (Vl.fieldL n fn (rf.drop (j+1)) (v.drop z)=R):=Lib.hid (by rw [←HD2.out,hyn];rfl)
    go_wp2_with fail
    go_roundw
    case rel=>exact ⟨j+1,z,by omega,hzn,by go_num,rfl,HQ2,HM2,HB1⟩
    case measure=>simp [intOf];omega
   have HX:Hid (R=some ((v.take z).drop p)):=Lib.hid (by rw [←HD2.out,hyn];rfl)
   have hk0:(0:Int)≤(p:Int):=by omega
   have hk1:(p:Int)≤(z:Int):=by omega
   have hk2:(z:Int)≤(c:Int):=by omega
   have hk3:((z:Int) - (p:Int)).toNat=z - p:=by omega
   have hk4:((c:Int) - (p:Int)).toNat=c - p:=by omega
   have hk5:¬(c:Int) - (p:Int)=0:=by omega
   have hk6:¬c - p=0:=by omega
   have hk7:¬c=p:=by omega
   have HPT:=Lib.hid (ERow.part (Vl.ValR.below HVV.out HLU1.out.bel) (a:=p) (b:=z) (by omega) (by omega))
   have hlen:((v.take z).drop p).length≤100000:=by rw [List.length_drop,List.length_take];omega
   go_wp2_with fail
   refine (clonev_any Vl.NodE Vl.NodE.one _ _ _ ((v.take z).drop p) hlen _ (fun _ _ _ _ h=>h) HPT.out).mono ?_
   rintro e U3 ⟨u3,rfl,hb5,hr5⟩
   have HB5:=Lib.hid hb5
   have HR5:=Lib.hid hr5
   clear hb5 hr5
   go_wp2_with fail
   go_ret2
   exact ⟨_,by rw [HX.out];rfl,HLU1.out.bel.trans (HB5.out.mono HLU1.out.bel.size),by rw [HX.out];exact ERow.mono HR5.out (fun _ _ h=>h.weak (fun b e=>⟨_,rfl,by injection e with e;have:=HLU1.out.bel.size;omega⟩)) (fun _ _ h=>h)⟩
end Go.Proofs.YtjfdohhdkdjifaaGreatDoor
set_option linter.unusedVariables false
set_option linter.unusedSimpArgs false
namespace Go.Proofs.YtjfdohhdkdjifaaGreatDoor
open Go.RowKit Go.BigFrame
namespace Vl
open Go.Proofs.YtjfdohhdkdjifaaGreatDoor.Id Go.Proofs.YtjfdohhdkdjifaaGreatDoor.Chk
def nodeEq (a b:Node):Bool:=a.kind==b.kind&&a.int==b.int&&a.text.toList==b.text.toList&&a.kids==b.kids
def sameF:List Node→List Node→Bool
 | [],[]=>true
 | x::a,y::b=>nodeEq x y&&sameF a b
 | _,_=>false
theorem nodeEq_iff {a b:Node}:nodeEq a b=true↔a=b:=by
 obtain ⟨a0,a1,a2,a3⟩:=a
 obtain ⟨b0,b1,b2,b3⟩:=b
 unfold nodeEq
 simp only [Bool.and_eq_true,beq_iff_eq,Node.mk.injEq]
 constructor
 ·rintro ⟨⟨⟨h1,h2⟩,h3⟩,h4⟩;exact ⟨h1,h2,Tk.text_eq h3,h4⟩
 ·rintro ⟨h1,h2,h3,h4⟩;exact ⟨⟨⟨h1,h2⟩,by rw [h3]⟩,h4⟩
theorem sameF_iff:∀ {a b:List Node},sameF a b=true↔a=b
 | [],[]=>by simp [sameF]
 | [],y::b=>by simp [sameF]
 | x::a,[]=>by simp [sameF]
 | x::a,y::b=>by unfold sameF;rw [Bool.and_eq_true,nodeEq_iff,sameF_iff,List.cons.injEq]
theorem sameF_len {a b:List Node} (h:a.length≠b.length):sameF a b=false:=by
 rw [Bool.eq_false_iff]
 intro h2
 exact h (by rw [sameF_iff.1 h2])
def ordO (o:Option (ByteArray × Int)):ByteArray × Int:=o.getD (⟨#[]⟩,0)
theorem field_ne {s:Sch} {rn fn:ByteArray} {v l:List Node} (h:field s rn v fn=some l):l≠[]:=by
 obtain ⟨r,h1,h2,h3,h4⟩:=field_some h
 exact (field_whole h4).1
end Vl
set_option maxRecDepth 100000 in
set_option maxHeartbeats 16000000 in
theorem vorder_any (sv:Value) (x:Id.Sch) (hF:Chk.Fine x) (rn:ByteArray) (vs:Value) (v:List Vl.Node) (hl:v.length≤100000) (hz:∀ n∈v,n.text.size≤100000) (w:World) (hk:Tk.KW w) (hv:Id.SchV w none sv x) (hvv:Vl.ValR w none vs v) :
  Calls Tryz.prog 59 #[sv,.string rn,vs] w fun e w'=>e=.returned (.tuple #[.string (Vl.ordO (Vl.ordP x rn v)).1,.int .i64 (Vl.ordO (Vl.ordP x rn v)).2,.bool (Vl.ordP x rn v).isSome])∧Below w.heap.size w w':=by
 obtain ⟨R,HR⟩:∃ R,Hid (Vl.ordP x rn v=R):=⟨_,Lib.hid rfl⟩
 rw [HR.out]
 unfold Vl.ordP at HR
 have HF:=Lib.hid hF
 have HKW:=Lib.hid hk
 have HV:=Lib.hid hv
 have HVV:=Lib.hid hvv
 have HZ:=Lib.hid hz
 obtain ⟨A,n,c,rfl⟩:=ERow.is hvv
 obtain ⟨A1,n1,c1,A2,n2,c2,A3,n3,c3,rfl,-,-,-⟩:=hv
 clear hF hvv hz hk
 go_enter Tryz.func59,Tryz.ntmps59
 go_upto_region 1 with (fail)
 refine wp_named (fun V hV=>?_)
 have HL:=Lib.hid (Chk.Lx.start hV)
 clear hV
 obtain ⟨⟨q0,q1,q2,q3⟩,-⟩:=HL.out.box.k4
 go_wp2_with fail
 clear q0 q1 q2 q3
 have HR2:Hid (Vl.ordT (Vl.field x rn v Vl.wAcc) (Vl.field x rn v Vl.wAmt)=R):=Lib.hid (by rw [←HR.out])
 clear HR
 refine (vfield_any _ x HF.out rn _ v hl HZ.out Vl.wAcc _ (HKW.out.below HL.out.bel) (HV.out.below HL.out.bel) (Vl.ValR.below HVV.out HL.out.bel)).mono ?_
 rintro e W1 ⟨u1,rfl,hb,hu⟩
 obtain ⟨A5,n5,c5,rfl⟩:=ERow.is hu
 have HL1:=Lib.hid (HL.out.below hb)
 have HU1:=Lib.hid hu
 clear hb hu HL
 obtain ⟨fa,HFA⟩:∃ f,Hid (Vl.field x rn v Vl.wAcc=f):=⟨_,Lib.hid rfl⟩
 rw [HFA.out] at HR2 HU1 ⊢
 obtain ⟨⟨q0,q1,q2,q3⟩,-⟩:=HL1.out.box.k4
 go_wp2_with fail
 clear q0 q1 q2 q3
 refine (vfield_any _ x HF.out rn _ v hl HZ.out Vl.wAmt _ (HKW.out.below HL1.out.bel) (HV.out.below HL1.out.bel) (Vl.ValR.below HVV.out HL1.out.bel)).mono ?_
 rintro e W2 ⟨u2,rfl,hb,hu⟩
 obtain ⟨A6,n6,c6,rfl⟩:=ERow.is hu
 have HL2:=Lib.hid (HL1.out.below hb)
 have HU2:=Lib.hid (Vl.ValR.below HU1.out hb)
 have HU3:=Lib.hid hu
 clear hb hu HL1 HU1
 obtain ⟨fb,HFB⟩:∃ f,Hid (Vl.field x rn v Vl.wAmt=f):=⟨_,Lib.hid rfl⟩
 rw [HFB.out] at HR2 HU3 ⊢
 cases fa with
 | none =>
  have HX:Hid (R=none):=Lib.hid (by rw [←HR2.out,Vl.ordT_none_l])
  simp only [Option.isSome_none]
  go_wp2_with fail
  go_ret3
  exact ⟨by rw [HX.out];rfl,HL2.out.bel⟩
 | some la =>
  cases fb with
  | none =>
   have HX:Hid (R=none):=Lib.hid (by rw [←HR2.out,Vl.ordT_none_r])
   simp only [Option.isSome_none,Option.isSome_some]
   go_wp2_with fail
   go_ret3
   exact ⟨by rw [HX.out];rfl,HL2.out.bel⟩
  | some lb =>
   obtain ⟨⟨x0,x1,x2,x3⟩,la,rfl⟩:=List.exists_cons_of_ne_nil (Vl.field_ne HFA.out)
   obtain ⟨⟨y0,y1,y2,y3⟩,lb,rfl⟩:=List.exists_cons_of_ne_nil (Vl.field_ne HFB.out)
   simp only [Option.isSome_some,Option.getD_some] at HU2 HU3 ⊢
   obtain ⟨ga,offa,csa,hAa,-,ea,hca⟩:=ERow.get (Vl.ValR.none HU2.out) (i:=0) (by simp) (by omega)
   unfold Vl.NodE Vl.Node.cells at ea
   simp only [List.getElem_cons_zero] at ea
   subst ea
   have hna:0<n5:=by obtain ⟨_,_,e,_⟩:=ERow.slice HU2.out;injection e with _ e2 _;rw [e2];simp
   have hia:(0:Int)<(n5:Int):=by omega
   have a0:=hca 0 _ rfl
   have a1:=hca 1 _ rfl
   have a2:=hca 2 _ rfl
   simp only [Nat.zero_mul,Nat.add_zero] at a0 a1 a2
   subst hAa
   clear hca
   obtain ⟨gb,offb,csb,hAb,-,eb,hcb⟩:=ERow.get (Vl.ValR.none HU3.out) (i:=0) (by simp) (by omega)
   unfold Vl.NodE Vl.Node.cells at eb
   simp only [List.getElem_cons_zero] at eb
   subst eb
   have hnb:0<n6:=by obtain ⟨_,_,e,_⟩:=ERow.slice HU3.out;injection e with _ e2 _;rw [e2];simp
   have hib:(0:Int)<(n6:Int):=by omega
   have b0:=hcb 0 _ rfl
   have b1:=hcb 1 _ rfl
   have b2:=hcb 2 _ rfl
   simp only [Nat.zero_mul,Nat.add_zero] at b0 b1 b2
   subst hAb
   clear hcb
   have HR3:Hid ((if x0=4∧y0=3 then some (x2,y1) else none)=R):=Lib.hid HR2.out
   clear HR2 HFA HFB
   by_cases h4:x0=4
   case neg =>
    have HX:Hid (R=none):=Lib.hid (by rw [←HR3.out,if_neg (fun h=>h4 h.1)])
    have t0:((x0:Int) != 4)=true:=by rw [bne_iff_ne];omega
    have t1:¬(x0:Int)=4:=by omega
    go_wp2_with fail
    go_ret3
    exact ⟨by rw [HX.out];rfl,HL2.out.bel⟩
   subst h4
   by_cases h3:y0=3
   case neg =>
    have HX:Hid (R=none):=Lib.hid (by rw [←HR3.out,if_neg (fun h=>h3 h.2)])
    have t0:((y0:Int) != 3)=true:=by rw [bne_iff_ne];omega
    have t1:¬(y0:Int)=3:=by omega
    go_wp2_with fail
    go_ret3
    exact ⟨by rw [HX.out];rfl,HL2.out.bel⟩
   subst h3
   have HX:Hid (R=some (x2,y1)):=Lib.hid (by rw [←HR3.out,if_pos ⟨rfl,rfl⟩])
   go_wp2_with fail
   go_quiet (fail)
   go_wp2_with fail
   go_ret3
   exact ⟨by rw [HX.out];rfl,below_drewN HL2.out.bel _⟩
set_option maxRecDepth 100000 in
set_option maxHeartbeats 16000000 in
theorem rsame15_any (va vb:Value) (a b:List Vl.Node) (w:World) (ha:Vl.ValR w none va a) (hb:Vl.ValR w none vb b) (hl:a.length≤100000) :
  Calls Tryz.prog 23 #[va,vb] w fun e w'=>e=.returned (.bool (Vl.sameF a b))∧Below w.heap.size w w':=by
 obtain ⟨R,HR⟩:∃ R,Hid (Vl.sameF a b=R):=⟨_,Lib.hid rfl⟩
 rw [HR.out]
 have HA:=Lib.hid ha
 have HB:=Lib.hid hb
 obtain ⟨A1,n1,c1,rfl⟩:=ERow.is ha
 obtain ⟨A2,n2,c2,rfl⟩:=ERow.is hb
 have HN1:Hid (n1=a.length):=Lib.hid (by obtain ⟨_,_,e,_⟩:=ERow.slice ha;injection e)
 have HN2:Hid (n2=b.length):=Lib.hid (by obtain ⟨_,_,e,_⟩:=ERow.slice hb;injection e)
 have hn:n1≤100000:=by rw [HN1.out];exact hl
 clear ha hb
 go_enter Tryz.func23,Tryz.ntmps23
 by_cases hlen:n1=n2
 case neg =>
  have HX:Hid (R=false):=Lib.hid (by rw [←HR.out];exact Vl.sameF_len (by rw [←HN1.out,←HN2.out];exact hlen))
  have t0:((n1:Int) != (n2:Int))=true:=by rw [bne_iff_ne];omega
  have t1:¬(n1:Int)=(n2:Int):=by omega
  go_wp2_with fail
  go_ret
  exact ⟨by rw [HX.out];rfl,Below.refl _ _⟩
 subst hlen
 have t0:((n1:Int) != (n1:Int))=false:=by simp
 go_wp2_with fail
 go_loopw [5] (fun i wr=>∃ (k:Nat),k≤n1∧i=.int .i64 k∧Hid (Vl.sameF (a.drop k) (b.drop k)=R)∧Hid (Below w.heap.size w wr)) (fun i _=>n1 - (intOf i).toNat)
 case atStart=>exact ⟨0,by omega,rfl,HR,Lib.hid (Below.refl _ _)⟩
 case round =>
  obtain ⟨k,hk,rfl,HK,HBL⟩:=hrel
  obtain ⟨U,rfl⟩:∃ w',w'=wr:=⟨_,rfl⟩
  have ik0:(0:Int)≤(k:Int):=by omega
  by_cases hlt:k<n1
  case neg =>
   have HX:Hid (R=true):=Lib.hid (by rw [←HK.out,List.drop_of_length_le (by rw [←HN1.out];omega),List.drop_of_length_le (by rw [←HN2.out];omega)];rfl)
   go_wp2_with fail
   go_ret
   exact ⟨by rw [HX.out];rfl,HBL.out⟩
  have hka:k<a.length:=by rw [←HN1.out];exact hlt
  have hkb:k<b.length:=by rw [←HN2.out];exact hlt
  have ik1:(k:Int)<(n1:Int):=by omega
  have hd:=HK.out
  rw [List.drop_eq_getElem_cons hka,List.drop_eq_getElem_cons hkb] at hd
  obtain ⟨ga,offa,csa,hAa,-,ea,hca⟩:=ERow.get HA.out hka (by omega)
  obtain ⟨⟨x0,x1,x2,x3⟩,Hxa⟩:∃ y,Hid (a[k]=y):=⟨_,Lib.hid rfl⟩
  rw [Hxa.out] at ea hd
  unfold Vl.NodE Vl.Node.cells at ea
  subst ea
  have a0:=hca 0 _ rfl
  have a1:=hca 1 _ rfl
  have a2:=hca 2 _ rfl
  have a3:=hca 3 _ rfl
  simp only [Nat.add_zero] at a0
  have hgla:ga<w.heap.size:=World.block_lt_of_cell? w _ a0
  have a0:=(HBL.out.cell hgla).trans a0
  have a1:=(HBL.out.cell hgla).trans a1
  have a2:=(HBL.out.cell hgla).trans a2
  have a3:=(HBL.out.cell hgla).trans a3
  subst hAa
  clear hca Hxa
  obtain ⟨gb,offb,csb,hAb,-,eb,hcb⟩:=ERow.get HB.out hkb (by omega)
  obtain ⟨⟨y0,y1,y2,y3⟩,Hxb⟩:∃ y,Hid (b[k]=y):=⟨_,Lib.hid rfl⟩
  rw [Hxb.out] at eb hd
  unfold Vl.NodE Vl.Node.cells at eb
  subst eb
  have b0:=hcb 0 _ rfl
  have b1:=hcb 1 _ rfl
  have b2:=hcb 2 _ rfl
  have b3:=hcb 3 _ rfl
  simp only [Nat.add_zero] at b0
  have hglb:gb<w.heap.size:=World.block_lt_of_cell? w _ b0
  have b0:=(HBL.out.cell hglb).trans b0
  have b1:=(HBL.out.cell hglb).trans b1
  have b2:=(HBL.out.cell hglb).trans b2
  have b3:=(HBL.out.cell hglb).trans b3
  subst hAb
  clear hcb Hxb
  unfold Vl.sameF Vl.nodeEq at hd
  simp only at hd
  have HD:=Lib.hid hd
  clear hd HK
  by_cases e0:x0=y0
  case neg =>
   have HX:Hid (R=false):=Lib.hid (by rw [←HD.out,show (x0==y0)=false from beq_eq_false_iff_ne.2 e0];rfl)
   have t1:((x0:Int)==(y0:Int))=false:=by rw [beq_eq_false_iff_ne];omega
   have t2:¬(x0:Int)=(y0:Int):=by omega
   go_wp2_with fail
   go_quiet (fail)
   go_wp2_with fail
   go_ret
   exact ⟨by rw [HX.out];rfl,below_drewN HBL.out _⟩
  subst e0
  by_cases e1:x1=y1
  case neg =>
   have HX:Hid (R=false):=Lib.hid (by rw [←HD.out,show (x1==y1)=false from beq_eq_false_iff_ne.2 e1,Bool.and_false];rfl)
   have t1:(x1==y1)=false:=beq_eq_false_iff_ne.2 e1
   go_wp2_with fail
   go_quiet (fail)
   go_wp2_with fail
   go_ret
   exact ⟨by rw [HX.out];rfl,below_drewN HBL.out _⟩
  subst e1
  cases e2:(x2.toList==y2.toList)
  case false =>
   have HX:Hid (R=false):=Lib.hid (by rw [←HD.out,e2,Bool.and_false];rfl)
   go_wp2_with fail
   go_quiet (fail)
   go_wp2_with fail
   go_ret
   exact ⟨by rw [HX.out];rfl,below_drewN HBL.out _⟩
  by_cases e3:x3=y3
  case neg =>
   have HX:Hid (R=false):=Lib.hid (by rw [←HD.out,show (x3==y3)=false from beq_eq_false_iff_ne.2 e3,Bool.and_false];rfl)
   have t1:(x3==y3)=false:=beq_eq_false_iff_ne.2 e3
   go_wp2_with fail
   go_quiet (fail)
   go_wp2_with fail
   go_ret
   exact ⟨by rw [HX.out];rfl,below_drewN HBL.out _⟩
  subst e3
  have HK2:Hid (Vl.sameF (a.drop (k+1)) (b.drop (k+1))=R):=Lib.hid (by rw [←HD.out,e2];simp)
  clear HD
  go_wp2_with fail
  go_quiet (fail)
  go_wp2_with fail
  go_roundw
  case rel=>exact ⟨k+1,by omega,by go_num,HK2,Lib.hid (below_drewN HBL.out _)⟩
  case measure=>simp [intOf];omega
end Go.Proofs.YtjfdohhdkdjifaaGreatDoor
set_option linter.unusedVariables false
set_option linter.unusedSimpArgs false
namespace Go.Proofs.YtjfdohhdkdjifaaGreatDoor
open Go.RowKit Go.BigFrame
namespace Prn
open Go.Proofs.YtjfdohhdkdjifaaGreatDoor.Id Go.Proofs.YtjfdohhdkdjifaaGreatDoor.Chk
def wkR:List Rec:=[⟨⟨#[82]⟩,false,[⟨⟨#[97]⟩,[⟨5,⟨#[]⟩⟩,⟨3,⟨#[]⟩⟩]⟩]⟩]
end Prn
end Go.Proofs.YtjfdohhdkdjifaaGreatDoor
