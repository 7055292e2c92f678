/- redressref15.build. No condition but the ones the theorems state. -/
import Derived.Test.YtjfdohhdkdjifaaGreatDoorPL31
import Derived.Test.YtjfdohhdkdjifaaGreatDoorPL32
set_option linter.unusedVariables false
set_option linter.unusedSimpArgs false
namespace Go.Proofs.YtjfdohhdkdjifaaGreatDoor
open Go.RowKit Go.BigFrame
namespace Vl
open Go.Proofs.YtjfdohhdkdjifaaGreatDoor.Id Go.Proofs.YtjfdohhdkdjifaaGreatDoor.Chk
/-- What redressref15.build hands back: o, with R behind it, or more than 4096 parts. -/
def RbP (w:World) (B:Nat) (o R:List Node) (e:Ending) (w':World):Prop:=∃ v' o',e=.returned v'∧ERow w' (some B) 71 4 NodE v' o'∧Below B w w'∧Only 71 w w'∧(o.length+R.length≤4096→o'=o++R)∧(4096<o.length+R.length→4096<o'.length)
def RbC (x:Sch) (kn:Kn) (sv:Value) (w0:World) (g B k:Nat):Prop:=∀ (tv:Value) (t:List Srt) (vv:Value) (o:List Node) (w:World),Below w0.heap.size w0 w→B≤w.heap.size→ERow w (some B) 71 4 NodE vv o→SortsR w0 none tv t→okT x t=true→dpt kn t≠0→dpt kn t≤k→dpt kn t≤12 →
 Calls Tryz.prog 71 #[sv,tv,.slice (some ⟨g,0,none⟩) x.records.length x.records.length,vv] w (RbP w B o (bldF x kn k t))
theorem RbP.full {w w':World} {B:Nat} {o R:List Node} {v:Value} (h:ERow w' (some B) 71 4 NodE v o) (hb:Below B w w') (ho:Only 71 w w') (hf:4096<o.length):RbP w B o R (.returned v) w':=⟨v,o,rfl,h,hb,ho,(fun h=>by omega),fun _=>hf⟩
/-- A box of the schema, and what is known, within build. -/
structure Rb (w0 w wr:World) (S:Array Value) (B:Nat):Prop where
 bel:Below B w wr
 only:Only 71 w wr
 old:Below w0.heap.size w0 wr
 box:Bk wr w.heap.size 28 S
 size:B≤wr.heap.size
theorem Rb.below {w0 w wr w':World} {S:Array Value} {B:Nat} (h:Rb w0 w wr S B) (hb:Below wr.heap.size wr w'):Rb w0 w w' S B :=
 ⟨h.bel.trans (hb.mono h.size),h.only.trans (Only.below hb),h.old.trans (hb.mono h.old.size),h.box.below hb h.box.lt,Nat.le_trans h.size hb.size⟩
theorem Rb.call {w0 w wr w':World} {S:Array Value} {B:Nat} (h:Rb w0 w wr S B) (hB:w0.heap.size≤B) (hb:Below B wr w') (ho:Only 71 wr w'):Rb w0 w w' S B :=
 ⟨h.bel.trans hb,h.only.trans ho,h.old.trans (hb.mono hB),ho.bk h.box (by decide),Nat.le_trans h.size ho.size⟩
end Vl
set_option maxRecDepth 100000 in
set_option maxHeartbeats 8000000 in
theorem rfind_w0 (v:Value) (x:Id.Sch) (name:ByteArray) (w0 w:World) (hold:Below w0.heap.size w0 w) (hv:Id.SchV w0 none v x) :
  Calls Tryz.prog 135 #[v,.string name] w fun e w'=>∃ u,e=.returned (.tuple #[u,.bool (Chk.find x name).isSome])∧Below w.heap.size w w'∧Chk.RecV w0 none u ((Chk.find x name).getD Chk.recZ):=by
 obtain ⟨R,HR⟩:∃ R,Hid (Chk.find x name=R):=⟨_,Lib.hid rfl⟩
 rw [HR.out]
 obtain ⟨A1,n1,c1,A2,n2,c2,A3,n3,c3,rfl,r1,r2,r3⟩:=hv
 have r:=r1
 clear r1 r2 r3
 unfold Chk.find at HR
 generalize x.records=rs at *
 generalize x.name=xn at *
 have hn1:n1=rs.length:=by obtain ⟨_,_,e,_⟩:=ERow.slice r;injection e
 have hm1:n1≤9223372036854775807:=by obtain ⟨_,_,e,_,_⟩:=ERow.slice r;injection e;omega
 have HN:=Lib.hid hn1
 have H1:=Lib.hid r
 have HO:=Lib.hid hold
 clear r hn1 hold
 go_enter Tryz.func135,Tryz.ntmps135
 go_upto_region 1 with (fail)
 refine wp_named (fun W0 hW0=>?_)
 have HL0:Hid (Chk.Look w W0 42 #[.string ⟨#[]⟩,.bool false,.slice none 0 0]):=Lib.hid (by
  subst hW0
  refine ⟨((Below.refl _ _).alloc (Nat.le_refl _) _).alloc (by simp) _,?_,by simp⟩
  have:=Bk.new (w.alloc (.cells #[.string xn,.slice A1 n1 c1,.slice A2 n2 c2,.slice A3 n3 c3] 28)) 42 #[.string ⟨#[]⟩,.bool false,.slice none 0 0]
  rw [World.size_alloc] at this
  exact this)
 have q0:Bk W0 w.heap.size 28 #[.string xn,.slice A1 n1 c1,.slice A2 n2 c2,.slice A3 n3 c3]:=by subst hW0;exact (Bk.new w _ _).alloc _
 clear hW0
 obtain ⟨S,HSeq⟩:∃ S:Array Value,Hid (S=#[.string xn,.slice A1 n1 c1,.slice A2 n2 c2,.slice A3 n3 c3]):=⟨_,Lib.hid rfl⟩
 rw [←HSeq.out] at q0
 have HQ0:=Lib.hid q0
 clear q0
 go_wp2_with fail
 go_loopw [6] (fun i wr=>∃ k:Nat,k≤n1∧i=.int .i64 k∧Hid ((rs.drop k).find? (fun r=>r.name.toList==name.toList)=R)∧Hid (Chk.Look w wr 42 #[.string ⟨#[]⟩,.bool false,.slice none 0 0])∧Hid (Bk wr w.heap.size 28 S)) (fun i _=>n1 - (intOf i).toNat)
 case atStart=>exact ⟨0,by omega,rfl,HR,HL0,HQ0⟩
 case round =>
  clear HL0 HQ0
  obtain ⟨k,hk,rfl,HK,HL,HQ⟩:=hrel
  obtain ⟨Wk,rfl⟩:∃ w',w'=wr:=⟨_,rfl⟩
  have i0:(0:Int)≤(k:Int):=by omega
  have hbk:=HL.out.blk
  obtain ⟨⟨z0,z1,z2⟩,zf0,zf1,zf2⟩:=hbk.k3
  by_cases hlt:k<n1
  case neg =>
   have HE:Hid (R=none):=Lib.hid (by rw [←HK.out];exact Chk.find_done _ (by rw [←HN.out];omega))
   have hsq:=HQ.out
   rw [HSeq.out] at hsq
   obtain ⟨⟨q0,q1,q2,q3⟩,-⟩:=hsq.k4
   clear hsq
   go_wp2_with fail
   have h1:=(((hbk.set_ 0 (.string ⟨#[]⟩)).set_ 1 (.bool false)).set_ 2 (.slice none 0 0))
   have hb:=(((HL.out.bel.setCell (p:=⟨w.heap.size+1,0,none⟩) (by simp) (.string ⟨#[]⟩)).setCell (p:=⟨w.heap.size+1,1,none⟩) (by simp) (.bool false)).setCell (p:=⟨w.heap.size+1,2,none⟩) (by simp) (.slice none 0 0))
   refine bodyPost_ret (v:=.tuple #[.agg #[.string ⟨#[]⟩,.bool false,.slice none 0 0],.bool false]) ?_ rfl ⟨_,by rw [HE.out];rfl,hb,by rw [HE.out];exact ⟨_,rfl,ERow.nil_none _ _ _ _⟩⟩
   clear z0 z1 z2 zf0 zf1 zf2
   obtain ⟨⟨y0,y1,y2⟩,_⟩:=h1.k3
   rw [res_ct rfl]
   go_simp
   try rfl
  have hka:k<rs.length:=by rw [←HN.out];exact hlt
  obtain ⟨g,off,cs,rfl,-,⟨u,rfl,HU⟩,hc⟩:=ERow.get H1.out hka (by omega)
  have HD:=HK.out
  rw [Chk.find_next _ hka] at HD
  generalize rs[k]=r at *
  obtain ⟨rn,rc,rf⟩:=r
  simp only at HU hc HD
  have hB:=HL.out.bel
  have a0:=hc 0 _ rfl
  have a1:=hc 1 _ rfl
  have a2:=hc 2 _ rfl
  have hgl0:g<w0.heap.size:=World.block_lt_of_cell? w0 _ a0
  have hgl:g<w.heap.size:=Nat.lt_of_lt_of_le hgl0 HO.out.size
  have a0:=(hB.cell hgl).trans ((HO.out.cell hgl0).trans a0)
  have a1:=(hB.cell hgl).trans ((HO.out.cell hgl0).trans a1)
  have a2:=(hB.cell hgl).trans ((HO.out.cell hgl0).trans a2)
  simp only [Nat.add_zero] at a0
  have i1:(k:Int)<(n1:Int):=by omega
  obtain ⟨A5,n5,c5,rfl⟩:=ERow.is HU
  have HD2:=Lib.hid HD
  have HU2:=Lib.hid HU
  have hne1:¬g=w.heap.size+1:=by omega
  clear hc hB HD HK hka HU
  have hsq:=HQ.out
  rw [HSeq.out] at hsq
  obtain ⟨⟨q0,q1,q2,q3⟩,-⟩:=hsq.k4
  clear hsq
  cases hn:(rn.toList==name.toList)
  case false =>
   have HK1:Hid (List.find? (fun r=>r.name.toList==name.toList) (List.drop (k+1) rs)=R):=Lib.hid (by rw [←HD2.out];simp [hn])
   go_wp2_with fail
   go_roundw
   case rel=>exact ⟨k+1,by omega,by go_num,HK1,HL,HQ⟩
   case measure=>simp [intOf];omega
  have HE:Hid (R=some ⟨rn,rc,rf⟩):=Lib.hid (by rw [←HD2.out];simp [hn])
  go_wp2_with fail
  have h1:=(((hbk.set_ 0 (.string rn)).set_ 1 (.bool rc)).set_ 2 (.slice A5 n5 c5))
  have hb:=(((HL.out.bel.setCell (p:=⟨w.heap.size+1,0,none⟩) (by simp) (.string rn)).setCell (p:=⟨w.heap.size+1,1,none⟩) (by simp) (.bool rc)).setCell (p:=⟨w.heap.size+1,2,none⟩) (by simp) (.slice A5 n5 c5))
  refine bodyPost_ret (v:=.tuple #[.agg #[.string rn,.bool rc,.slice A5 n5 c5],.bool true]) ?_ rfl ⟨_,by rw [HE.out];rfl,hb,by rw [HE.out];exact ⟨_,rfl,HU2.out⟩⟩
  clear z0 z1 z2 zf0 zf1 zf2
  obtain ⟨⟨y0,y1,y2⟩,_⟩:=h1.k3
  rw [res_ct rfl]
  go_simp
  try rfl
set_option maxRecDepth 100000 in
set_option maxHeartbeats 16000000 in
theorem rbld_step (x:Id.Sch) (kn:Vl.Kn) (hR:Chk.Right x) (hF:Chk.Fine x) (hM:Vl.Min x kn) (sv:Value) (w0:World) (g B k:Nat) (hB:w0.heap.size≤B) (hv:Id.SchV w0 none sv x) (hg:Bk w0 g 3 (iArr (x.records.map fun r=>Vl.kdF kn 12 r.name))) (IH:Vl.RbC x kn sv w0 g B k):Vl.RbC x kn sv w0 g B (k+1):=by
 intro tv t vv o w hold hBw hrow ht hot hd0 hdk hd12
 have HIH:=Lib.hid IH
 have HR:=Lib.hid hR
 have HF:=Lib.hid hF
 have HM:=Lib.hid hM
 have HV:=Lib.hid hv
 have HG:=Lib.hid hg
 have HT:=Lib.hid ht
 have HOT:=Lib.hid hot
 have HOL:=Lib.hid hold
 have HRW:=Lib.hid hrow
 have HD0:=Lib.hid hd0
 have HDK:=Lib.hid hdk
 have HD12:=Lib.hid hd12
 have HPOS:=Lib.hid (Vl.bld_pos (kn:=kn) (k:=k+1) hot (by omega))
 have HZK:Hid (∀ n,Chk.find x n=none→Vl.kdF kn 12 n=0):=Lib.hid (fun n hn=>Vl.kd_zero hM 12 hn)
 obtain ⟨A1,n1,c1,A2,n2,c2,A3,n3,c3,rfl,-,-,-⟩:=hv
 obtain ⟨A8,n8,c8,rfl⟩:=ERow.is hrow
 have HN8:Hid (n8=o.length):=Lib.hid (by obtain ⟨_,_,e,_⟩:=ERow.slice hrow;injection e)
 have hm8:n8≤9223372036854775807:=by obtain ⟨_,_,e,_,_⟩:=ERow.slice hrow;injection e;omega
 obtain ⟨NR,HNR⟩:∃ n,Hid (x.records.length=n):=⟨_,Lib.hid rfl⟩
 rw [HNR.out]
 cases t with
 | nil=>cases hot
 | cons s0 t =>
 have HKD:=Lib.hid (Vl.okT_kind hot)
 obtain ⟨R,HRR⟩:∃ R,Hid (Vl.bldF x kn (k+1) (s0::t)=R):=⟨_,Lib.hid rfl⟩
 rw [HRR.out]
 rw [HRR.out] at HPOS
 obtain ⟨A7,n7,c7,rfl⟩:=ERow.is ht
 obtain ⟨g7,off7,cs,rfl,-,e1,hc⟩:=ERow.get ht (i:=0) (by simp) (by omega)
 unfold Id.SortE Id.Srt.cells at e1
 subst e1
 have b0:=hc 0 _ rfl
 have b1:=hc 1 _ rfl
 simp only [Nat.zero_mul,Nat.add_zero,List.getElem_cons_zero] at b0 b1
 have hg7:g7<w0.heap.size:=World.block_lt_of_cell? w0 _ b0
 have hn7:0<n7:=by obtain ⟨_,_,e,_⟩:=ERow.slice ht;injection e with _ e2 _;rw [e2];simp
 have hn7i:(0:Int)<(n7:Int):=by omega
 have HB0:=Lib.hid b0
 have HB1:=Lib.hid b1
 clear hc ht hrow hold hR hF hM hg IH hot hd0 hdk hd12 b0 b1
 obtain ⟨xk,xn⟩:=s0
 simp only at HB0 HB1 HKD
 go_enter Tryz.func71,Tryz.ntmps71
 go_upto_region 1 with (fail)
 refine wp_named (fun V hV=>?_)
 have HL:Hid (Vl.Rb w0 w V #[.string x.name,.slice A1 n1 c1,.slice A2 n2 c2,.slice A3 n3 c3] B):=Lib.hid (by
  subst hV
  have hb:=(Below.refl w.heap.size w).alloc (Nat.le_refl _) (.cells #[.string x.name,.slice A1 n1 c1,.slice A2 n2 c2,.slice A3 n3 c3] 28)
  exact ⟨hb.mono hBw,Only.below hb,HOL.out.trans (hb.mono HOL.out.size),Bk.new w _ _,by simp;omega⟩)
 have HRV:Hid (ERow V (some B) 71 4 Vl.NodE (.slice A8 n8 c8) o):=Lib.hid (by subst hV;exact ERow.below HRW.out ((Below.refl w.heap.size w).alloc (Nat.le_refl _) _) (fun _ _ h=>h))
 clear hV
 by_cases hfull:4096<n8
 case pos =>
  have tf:(4096:Int)<(n8:Int):=by omega
  go_wp2_with fail
  go_ret
  exact Vl.RbP.full HRV.out HL.out.bel HL.out.only (by rw [←HN8.out];exact hfull)
 have tf:¬(4096:Int)<(n8:Int):=by omega
 have hol:o.length≤4096:=by have:=HN8.out;omega
 have hBV:=HL.out.size
 by_cases h7:xk=7
 case neg =>
  have t7:((xk:Int) != 7)=true:=by rw [bne_iff_ne];omega
  have t7b:¬(xk:Int)=7:=by omega
  have HRX:Hid (R=[⟨xk,0,⟨#[]⟩,0⟩]):=Lib.hid (HRR.out.symm.trans (Vl.bld_plain h7))
  have a0:=(HL.out.old.cell hg7).trans HB0.out
  go_wp2_with (at_builtin;go_must (refine wpList_append_el rfl _ _ _ rfl B 71 _ 4 40 Tryz.underlying23 Vl.info_node rfl (by decide) Vl.NodE (.slice A8 n8 c8) o rfl HRV.out [.int .u8 xk,.int .i64 0,.string ⟨#[]⟩,.int .i64 0] rfl _ rfl (by first | rfl | simp) (by simp [Value.oneCell']) (by simp only [maxLen];omega) (by omega) hBV ?_);intro v9 X hr9 hb9 ho9;have HR9:=Lib.hid (hr9 ⟨xk,0,⟨#[]⟩,0⟩ (fun _ _ h=>h) rfl);have HL9:=Lib.hid (HL.out.call hB hb9 ho9);clear hr9 hb9 ho9)
  go_ret
  exact ⟨v9,_,rfl,HR9.out,HL9.out.bel,HL9.out.only,fun _=>by rw [HRX.out],fun h=>by rw [HRX.out] at h;simpa using h⟩
 subst h7
 have hk7:t=[]∧(Chk.find x xn).isSome=true:=by rcases HKD.out with h | h | h | h <;> (try simp only at h) <;> first | (exfalso;omega) | exact h.2
 obtain ⟨rfl,hsm⟩:=hk7
 obtain ⟨⟨rn,rc,rf⟩,hfd⟩:=Option.isSome_iff_exists.1 hsm
 obtain ⟨hrm,hrn⟩:=Vl.find_name hfd
 simp only at hrn
 subst hrn
 have HFD:=Lib.hid hfd
 have HRM:=Lib.hid hrm
 have hrfl:rf.length≤99:=(HF.out.re _ hrm).2.1
 have HFL:=Lib.hid (Vl.fine_flds HR.out HF.out hrm)
 have hd0:kn rn≠0:=HD0.out
 have hdk:kn rn≤k+1:=HDK.out
 have hd12:kn rn≤12:=HD12.out
 clear hsm hrm hfd HKD HD0 HDK HD12
 have a0:=(HL.out.old.cell hg7).trans HB0.out
 have a1:=(HL.out.old.cell hg7).trans HB1.out
 simp only [Int.cast_ofNat_Int] at a0
 go_upto_region 5 with (fail)
 go_cut [9] (fun u wx=>∃ gr A5 n5 c5,u=.pointer (some ⟨gr,0,none⟩)∧Hid (Vl.Rb w0 w wx #[.string x.name,.slice A1 n1 c1,.slice A2 n2 c2,.slice A3 n3 c3] B)∧w.heap.size<gr∧Hid (Bk wx gr 42 #[.string rn,.bool rc,.slice A5 n5 c5])∧Hid (Id.FldsR w0 none (.slice A5 n5 c5) rf)∧Hid (ERow wx (some B) 71 4 Vl.NodE (.slice A8 n8 c8) o))
 case first =>
  have hdr:Below V.heap.size V V.drew:=(Below.refl _ _).drew
  have hbz:=HL.out.box.lt
  refine wp_region_L_calm (fun w'=>Bk w' w.heap.size 28 #[.string x.name,.slice A1 n1 c1,.slice A2 n2 c2,.slice A3 n3 c3]∧w'.cell? ⟨g7,off7+1,none⟩=some (.string rn)) [11] (by kernel_rfl) ⟨HL.out.box.drew,a1⟩ (fun hHeld=>?_)
  (refine Lst.takeM 11 0 (v:=?_) rfl (by kernel_rfl) (by kernel_rfl) (by kernel_rfl) (by kernel_rfl) (by kernel_rfl) (by kernel_rfl) (fun _ _ _ h=>h) (by assumption) (by rfl) ?_ ?_;rotate_left;· (intro w hSw;((try dsimp only at hSw);obtain ⟨e0,e1,e2,e3⟩:=(Bk.k4 hSw.1).1);go_simp;try with_reducible rfl);try simp only [Act.put,List.setIfInBounds_toArray,List.set_cons_zero,List.set_cons_succ])
  (refine wpAnyL_take0 1 (v:=?_) rfl (by kernel_rfl) (by kernel_rfl) (by kernel_rfl) (by kernel_rfl) (fun _ _ _ h=>h) (fun _=>by assumption) (by rfl) ?_ ?_;rotate_left;· (intro w;go_simp;try with_reducible rfl);try simp only [Act.put,List.setIfInBounds_toArray,List.set_cons_zero,List.set_cons_succ])
  (refine wpAnyL_take0 2 (v:=?_) rfl (by kernel_rfl) (by kernel_rfl) (by kernel_rfl) (by kernel_rfl) (fun _ _ _ h=>h) (fun _=>by assumption) (by rfl) ?_ ?_;rotate_left;· (intro w;go_simp;try with_reducible rfl);try simp only [Act.put,List.setIfInBounds_toArray,List.set_cons_zero,List.set_cons_succ])
  (refine wpAnyL_take0 3 (v:=?_) rfl (by kernel_rfl) (by kernel_rfl) (by kernel_rfl) (by kernel_rfl) (fun _ _ _ h=>h) (fun _=>by assumption) (by rfl) ?_ ?_;rotate_left;· (intro w;go_simp;try with_reducible rfl);try simp only [Act.put,List.setIfInBounds_toArray,List.set_cons_zero,List.set_cons_succ])
  (refine Lst.takeM 11 4 (v:=?_) rfl (by kernel_rfl) (by kernel_rfl) (by kernel_rfl) (by kernel_rfl) (by kernel_rfl) (by kernel_rfl) (fun _ _ _ h=>h) (by assumption) (by rfl) ?_ ?_;rotate_left;· (intro w hSw;((try dsimp only at hSw);have e:=hSw.2);go_simp;try with_reducible rfl);try simp only [Act.put,List.setIfInBounds_toArray,List.set_cons_zero,List.set_cons_succ])
  refine Lst.two 5 9 (by kernel_rfl) rfl rfl (fun K hK=>?_) (fun K hK=>?_)
  ·
   go_simp
   refine (rfind_w0 _ x rn w0 _ (HL.out.below hdr).old HV.out).mono ?_
   rintro e X ⟨u,rfl,hb,hu⟩
   rw [HFD.out] at hu ⊢
   obtain ⟨u2,rfl,hu2⟩:=hu
   obtain ⟨A5,n5,c5,rfl⟩:=ERow.is hu2
   simp only [Option.getD_some,Option.isSome_some] at hu2 ⊢
   have hbX:Below V.heap.size V X:=hdr.trans hb
   have hs2:Bk X w.heap.size 28 #[.string x.name,.slice A1 n1 c1,.slice A2 n2 c2,.slice A3 n3 c3]∧X.cell? ⟨g7,off7+1,none⟩=some (.string rn):=⟨HL.out.box.below hbX hbz,(hbX.cell (by show g7<V.heap.size;have:=HL.out.old.size;omega)).trans a1⟩
   (refine hK.out _ _ (fun hnn=>hs2) ?_;clear hK K;try simp only [Act.put,List.setIfInBounds_toArray,List.set_cons_zero,List.set_cons_succ])
   (refine wpAnyL_take0 6 (v:=?_) rfl (by kernel_rfl) (by kernel_rfl) (by kernel_rfl) (by kernel_rfl) (fun _ _ _ h=>h) (fun _=>by assumption) (by rfl) ?_ ?_;rotate_left;· (intro w;go_simp;try with_reducible rfl);try simp only [Act.put,List.setIfInBounds_toArray,List.set_cons_zero,List.set_cons_succ])
   (refine wpAnyL_take0 7 (v:=?_) rfl (by kernel_rfl) (by kernel_rfl) (by kernel_rfl) (by kernel_rfl) (fun _ _ _ h=>h) (fun _=>by assumption) (by rfl) ?_ ?_;rotate_left;· (intro w;go_simp;try with_reducible rfl);try simp only [Act.put,List.setIfInBounds_toArray,List.set_cons_zero,List.set_cons_succ])
   (refine wpAnyL_take0 8 (v:=?_) rfl (by kernel_rfl) (by kernel_rfl) (by kernel_rfl) (by kernel_rfl) (fun _ _ _ h=>h) (fun _=>by assumption) (by rfl) ?_ ?_;rotate_left;· (intro w;go_simp;try with_reducible rfl);try simp only [Act.put,List.setIfInBounds_toArray,List.set_cons_zero,List.set_cons_succ])
   (refine wpAnyL_step 9 (by kernel_rfl) rfl (fun K hK=>?_))
   go_simp
   have ha:Below X.heap.size X (X.alloc (.cells #[.string ⟨#[]⟩,.bool false,.slice none 0 0] 42)):=(Below.refl _ _).alloc (Nat.le_refl _) _
   have hq:=Bk.new X 42 #[.string ⟨#[]⟩,.bool false,.slice none 0 0]
   (refine hK.out _ _ (fun hnn=>(⟨hs2.1.below ha hs2.1.lt,(ha.cell (World.block_lt_of_cell? _ _ hs2.2)).trans hs2.2⟩)) ?_;clear hK K;try simp only [Act.put,List.setIfInBounds_toArray,List.set_cons_zero,List.set_cons_succ])
   obtain ⟨⟨z1,z2,z3⟩,zf1,zf2,zf3⟩:=hq.k3
   (refine wpAnyL_step 10 (by kernel_rfl) rfl (fun K hK=>?_))
   go_simp
   have ha2:Below X.heap.size X (X.alloc (.cells #[.string rn,.bool rc,.slice A5 n5 c5] 42)):=(Below.refl _ _).alloc (Nat.le_refl _) _
   have hq2:Bk (X.alloc (.cells #[.string rn,.bool rc,.slice A5 n5 c5] 42)) X.heap.size 42 #[.string rn,.bool rc,.slice A5 n5 c5]:=Bk.new X 42 #[.string rn,.bool rc,.slice A5 n5 c5]
   clear z1 z2 z3 zf1 zf2 zf3
   have hbF:=hbX.trans (ha2.mono hbX.size)
   (refine hK.out _ _ (fun hnn=>(⟨hs2.1.below ha2 hs2.1.lt,(ha2.cell (World.block_lt_of_cell? _ _ hs2.2)).trans hs2.2⟩)) ?_;clear hK K;try simp only [Act.put,List.setIfInBounds_toArray,List.set_cons_zero,List.set_cons_succ])
   have hfs:Id.FldsR w0 none (.slice A5 n5 c5) rf:=hu2
   have hrF:=ERow.below HRV.out hbF (fun _ _ h=>h)
   have hlF:=HL.out.below hbF
   have hgr:w.heap.size<X.heap.size:=Nat.lt_of_lt_of_le hbz hbX.size
   generalize (X.alloc (.cells #[.string rn,.bool rc,.slice A5 n5 c5] 42))=Wf at *
   (refine wpAnyL_step 11 (by kernel_rfl) rfl (fun K hK=>?_))
   go_simp
   (refine hK.out _ _ (fun hnn=>absurd hnn (by decide)) ?_;clear hK K;try simp only [Act.put,List.setIfInBounds_toArray,List.set_cons_zero,List.set_cons_succ])
   refine wpAnyL_done (by kernel_rfl) ?_ _
   refine NoPanic.normal ?_
   go_wp2_with fail
   go_meet
   case rel=>exact ⟨_,A5,n5,c5,rfl,Lib.hid hlF,hgr,Lib.hid hq2,Lib.hid hfs,Lib.hid hrF⟩
  ·
   go_simp
   have ha:Below V.heap.size V (V.drew.alloc (.cells #[.string ⟨#[]⟩,.bool false,.slice none 0 0] 42)):=hdr.alloc (Nat.le_refl _) _
   have hq0:Bk (V.drew.alloc (.cells #[.string ⟨#[]⟩,.bool false,.slice none 0 0] 42)) V.heap.size 42 #[.string ⟨#[]⟩,.bool false,.slice none 0 0]:=Bk.new V.drew 42 #[.string ⟨#[]⟩,.bool false,.slice none 0 0]
   have hs1:Bk (V.drew.alloc (.cells #[.string ⟨#[]⟩,.bool false,.slice none 0 0] 42)) w.heap.size 28 #[.string x.name,.slice A1 n1 c1,.slice A2 n2 c2,.slice A3 n3 c3]∧(V.drew.alloc (.cells #[.string ⟨#[]⟩,.bool false,.slice none 0 0] 42)).cell? ⟨g7,off7+1,none⟩=some (.string rn):=⟨HL.out.box.below ha hbz,(ha.cell (by show g7<V.heap.size;have:=HL.out.old.size;omega)).trans a1⟩
   (refine hK.out _ _ (fun hnn=>hs1) ?_;clear hK K;try simp only [Act.put,List.setIfInBounds_toArray,List.set_cons_zero,List.set_cons_succ])
   (refine wpAnyL_step 5 (by kernel_rfl) rfl (fun K hK=>?_))
   go_simp
   refine (rfind_w0 _ x rn w0 _ (HL.out.below ha).old HV.out).mono ?_
   rintro e X ⟨u,rfl,hb,hu⟩
   rw [HFD.out] at hu ⊢
   obtain ⟨u2,rfl,hu2⟩:=hu
   obtain ⟨A5,n5,c5,rfl⟩:=ERow.is hu2
   simp only [Option.getD_some,Option.isSome_some] at hu2 ⊢
   have hbX:Below V.heap.size V X:=ha.trans (hb.mono ha.size)
   have hq:=hq0.below hb hq0.lt
   have hs2:Bk X w.heap.size 28 #[.string x.name,.slice A1 n1 c1,.slice A2 n2 c2,.slice A3 n3 c3]∧X.cell? ⟨g7,off7+1,none⟩=some (.string rn):=⟨HL.out.box.below hbX hbz,(hbX.cell (by show g7<V.heap.size;have:=HL.out.old.size;omega)).trans a1⟩
   (refine hK.out _ _ (fun hnn=>hs2) ?_;clear hK K;try simp only [Act.put,List.setIfInBounds_toArray,List.set_cons_zero,List.set_cons_succ])
   (refine wpAnyL_take0 6 (v:=?_) rfl (by kernel_rfl) (by kernel_rfl) (by kernel_rfl) (by kernel_rfl) (fun _ _ _ h=>h) (fun _=>by assumption) (by rfl) ?_ ?_;rotate_left;· (intro w;go_simp;try with_reducible rfl);try simp only [Act.put,List.setIfInBounds_toArray,List.set_cons_zero,List.set_cons_succ])
   (refine wpAnyL_take0 7 (v:=?_) rfl (by kernel_rfl) (by kernel_rfl) (by kernel_rfl) (by kernel_rfl) (fun _ _ _ h=>h) (fun _=>by assumption) (by rfl) ?_ ?_;rotate_left;· (intro w;go_simp;try with_reducible rfl);try simp only [Act.put,List.setIfInBounds_toArray,List.set_cons_zero,List.set_cons_succ])
   (refine wpAnyL_take0 8 (v:=?_) rfl (by kernel_rfl) (by kernel_rfl) (by kernel_rfl) (by kernel_rfl) (fun _ _ _ h=>h) (fun _=>by assumption) (by rfl) ?_ ?_;rotate_left;· (intro w;go_simp;try with_reducible rfl);try simp only [Act.put,List.setIfInBounds_toArray,List.set_cons_zero,List.set_cons_succ])
   obtain ⟨⟨z1,z2,z3⟩,zf1,zf2,zf3⟩:=hq.k3
   (refine wpAnyL_step 10 (by kernel_rfl) rfl (fun K hK=>?_))
   go_simp
   have hq2:Bk (((X.setCell ⟨V.heap.size,0,none⟩ (.string rn)).setCell ⟨V.heap.size,1,none⟩ (.bool rc)).setCell ⟨V.heap.size,2,none⟩ (.slice A5 n5 c5)) V.heap.size 42 #[.string rn,.bool rc,.slice A5 n5 c5]:=(((hq.set_ 0 (.string rn)).set_ 1 (.bool rc)).set_ 2 (.slice A5 n5 c5))
   have hbF:Below V.heap.size V (((X.setCell ⟨V.heap.size,0,none⟩ (.string rn)).setCell ⟨V.heap.size,1,none⟩ (.bool rc)).setCell ⟨V.heap.size,2,none⟩ (.slice A5 n5 c5)):=((hbX.setCell (p:=⟨V.heap.size,0,none⟩) (Nat.le_refl _) _).setCell (p:=⟨V.heap.size,1,none⟩) (Nat.le_refl _) _).setCell (p:=⟨V.heap.size,2,none⟩) (Nat.le_refl _) _
   clear z1 z2 z3 zf1 zf2 zf3
   have hfs:Id.FldsR w0 none (.slice A5 n5 c5) rf:=hu2
   have hs3:Bk (((X.setCell ⟨V.heap.size,0,none⟩ (.string rn)).setCell ⟨V.heap.size,1,none⟩ (.bool rc)).setCell ⟨V.heap.size,2,none⟩ (.slice A5 n5 c5)) w.heap.size 28 #[.string x.name,.slice A1 n1 c1,.slice A2 n2 c2,.slice A3 n3 c3]∧(((X.setCell ⟨V.heap.size,0,none⟩ (.string rn)).setCell ⟨V.heap.size,1,none⟩ (.bool rc)).setCell ⟨V.heap.size,2,none⟩ (.slice A5 n5 c5)).cell? ⟨g7,off7+1,none⟩=some (.string rn):=⟨HL.out.box.below hbF hbz,(hbF.cell (by show g7<V.heap.size;have:=HL.out.old.size;omega)).trans a1⟩
   (refine hK.out _ _ (fun hnn=>hs3) ?_;clear hK K;try simp only [Act.put,List.setIfInBounds_toArray,List.set_cons_zero,List.set_cons_succ])
   have hrF:=ERow.below HRV.out hbF (fun _ _ h=>h)
   have hlF:=HL.out.below hbF
   generalize (((X.setCell ⟨V.heap.size,0,none⟩ (.string rn)).setCell ⟨V.heap.size,1,none⟩ (.bool rc)).setCell ⟨V.heap.size,2,none⟩ (.slice A5 n5 c5))=Wf at *
   (refine wpAnyL_step 11 (by kernel_rfl) rfl (fun K hK=>?_))
   go_simp
   (refine hK.out _ _ (fun hnn=>absurd hnn (by decide)) ?_;clear hK K;try simp only [Act.put,List.setIfInBounds_toArray,List.set_cons_zero,List.set_cons_succ])
   refine wpAnyL_done (by kernel_rfl) ?_ _
   refine NoPanic.normal ?_
   go_wp2_with fail
   go_meet
   case rel=>exact ⟨_,A5,n5,c5,rfl,Lib.hid hlF,hbz,Lib.hid hq2,Lib.hid hfs,Lib.hid hrF⟩
 case rest =>
  obtain ⟨gr,A5,n5,c5,rfl,HLU,hgr,HQR,HFS,HRU⟩:=hcut
  obtain ⟨U,rfl⟩:∃ wo,wo=wc:=⟨_,rfl⟩
  have HN5:Hid (n5=rf.length):=Lib.hid (by obtain ⟨_,_,e,_⟩:=ERow.slice HFS.out;injection e)
  clear a0 a1 HL HRV hBV
  have hBU:=HLU.out.size
  obtain ⟨⟨r0,r1,r2⟩,-⟩:=HQR.out.k3
  have HG0:=fun (W:World) (hW:Below w0.heap.size w0 W)=>HG.out.below hW HG.out.lt
  cases rc
  case true =>
   have HWY:=Lib.hid (HM.out.way HFD.out hd0 rfl)
   have hJ0:=HWY.out.1
   have hAT:=Vl.way_at hJ0
   have hBC:=Vl.bld_choice (s:=x) (kn:=kn) (k:=k) (x:=⟨7,rn⟩) (t:=[]) rfl HFD.out rfl hJ0
   obtain ⟨J,HJ⟩:∃ J,Hid (Vl.way kn ⟨rn,true,rf⟩ (kn rn - 1)=J):=⟨_,Lib.hid rfl⟩
   simp only [HJ.out] at hJ0 hAT hBC
   have HBE:Hid (∀ j (h:j<rf.length),j<J→Vl.dpt kn (rf[j]'h).type≠kn rn - 1):=Lib.hid (fun j h hj=>by
    have h2:=List.not_of_lt_findIdx (xs:=rf) (p:=fun f:Id.Fld=>Vl.dpt kn f.type==kn rn - 1) (i:=j) (by have:=HJ.out;unfold Vl.way at this;simp only at this;rw [this];exact hj)
    simpa using h2)
   have HAT:=Lib.hid hAT
   have HRC:Hid (R=⟨8,J,⟨#[]⟩,1⟩::Vl.bldF x kn k (rf[J]'hJ0).type):=Lib.hid (HRR.out.symm.trans hBC)
   clear hAT hBC HRR
   have hd2:1<kn rn:=HWY.out.2
   have HKD:∀ yt:List Id.Srt,(Vl.dpt (Vl.kdF kn 12) yt=kn rn - 1)↔(Vl.dpt kn yt=kn rn - 1):=fun yt=>by
    rw [Vl.dpt_kd kn (by decide)]
    split
    ·exact Iff.rfl
    ·constructor <;> (intro h;omega)
   have HKQ:=Lib.hid HKD
   have HDR:Hid (Vl.dpt (Vl.kdF kn 12) [⟨7,rn⟩]=kn rn):=Lib.hid (by rw [Vl.dpt_kd kn (by decide)];show (if kn rn≤12 then kn rn else 0)=kn rn;rw [if_pos hd12])
   clear HKD
   obtain ⟨⟨q0,q1,q2,q3⟩,-⟩:=HLU.out.box.k4
   go_wp2_with fail
   refine (rdepth_any _ x HF.out (Vl.kdF kn 12) HZK.out _ [⟨7,rn⟩] (by simp) g NR NR U (Id.SchV.below HLU.out.old HV.out) (ERow.below HT.out HLU.out.old (fun _ _ h=>h)) HNR.out.symm (HG0 _ HLU.out.old)).mono ?_
   rw [HDR.out]
   rintro e U1 ⟨rfl,hb1⟩
   have HB1:=Lib.hid hb1
   clear r0 r1 r2 q0 q1 q2 q3 hb1
   go_wp2_with fail
   go_loopw [12] (fun i wr=>∃ (m:Nat),m≤J∧i=.int .i64 m∧Hid (Below U.heap.size U wr)) (fun i _=>J+1 - (intOf i).toNat)
   case atStart=>exact ⟨0,by omega,rfl,HB1⟩
   case round =>
    obtain ⟨m,hm,rfl,HB⟩:=hrel
    obtain ⟨Z,rfl⟩:∃ w',w'=wr:=⟨_,rfl⟩
    have im0:(0:Int)≤(m:Int):=by omega
    have hmf:m<rf.length:=by omega
    have im1:(m:Int)<(n5:Int):=by rw [HN5.out];omega
    have HLZ:=Lib.hid (HLU.out.below HB.out)
    have HQZ:=Lib.hid (HQR.out.below HB.out HQR.out.lt)
    have HRZ:=Lib.hid (ERow.below HRU.out HB.out (fun _ _ h=>h))
    obtain ⟨g5,off5,cs5,rfl,-,⟨u5,he5,HU5⟩,hc5⟩:=ERow.get HFS.out hmf (by omega)
    have hfm:=List.getElem_mem hmf
    have HZF:=Lib.hid (HFL.out _ hfm)
    obtain ⟨r5,Hr5⟩:∃ r,Hid (rf[m]=r):=⟨_,Lib.hid rfl⟩
    rw [Hr5.out] at he5 HU5 hfm HZF
    obtain ⟨yn,yt⟩:=r5
    subst he5
    simp only at HU5 HZF
    obtain ⟨A6,n6,c6,rfl⟩:=ERow.is HU5
    have e1:=hc5 1 _ rfl
    have hg5:g5<w0.heap.size:=World.block_lt_of_cell? w0 _ e1
    have HU6:=Lib.hid HU5
    have HE1:=Lib.hid e1
    have hot5:=Lib.hid (Vl.right_okT (Vl.field_right HR.out HRM.out hfm)).1
    clear hc5 HU5 hfm e1
    have e1:=(HLZ.out.old.cell hg5).trans HE1.out
    have hg5Z:g5<Z.heap.size:=Nat.lt_of_lt_of_le hg5 HLZ.out.old.size
    obtain ⟨⟨b0,b1,b2⟩,-⟩:=HQZ.out.k3
    obtain ⟨z,Hz⟩:∃ z,Hid (Vl.dpt (Vl.kdF kn 12) yt=z):=⟨_,Lib.hid rfl⟩
    have hzd:z=kn rn - 1↔m=J:=by
     rw [←Hz.out]
     refine (HKQ.out yt).trans ⟨fun h=>?_,fun h=>?_⟩
     ·rcases Nat.lt_or_ge m J with h1 | h1
      ·have h2:=HBE.out m hmf h1
       rw [Hr5.out] at h2
       exact absurd h h2
      ·omega
     ·subst h
      have h2:=HAT.out
      rw [Hr5.out] at h2
      exact h2
    have HZD:=Lib.hid hzd
    clear hzd
    have dS:∀ w',Bl Z w'→Bk w' w.heap.size 28 #[.string x.name,.slice A1 n1 c1,.slice A2 n2 c2,.slice A3 n3 c3]:=fun w' hb=>HLZ.out.box.below hb HLZ.out.box.lt
    have dF:∀ w',Bl Z w'→w'.cell? ⟨gr,2,none⟩=some (.slice (some ⟨g5,off5,none⟩) n5 c5):=fun w' hb=>(Bk.k3 (HQZ.out.below hb HQZ.out.lt)).1.2.2
    have dT:∀ w',Bl Z w'→w'.cell? ⟨g5,off5+m * 2+1,none⟩=some (.slice A6 n6 c6):=fun w' hb=>(hb.cell hg5Z).trans e1
    have hcall:∀ X,Bl Z X→Calls Tryz.prog 70 #[.agg #[.string x.name,.slice A1 n1 c1,.slice A2 n2 c2,.slice A3 n3 c3],.slice A6 n6 c6,.slice (some ⟨g,0,none⟩) NR NR] X fun e w'=>e=.returned (.int .i64 z)∧Bl Z w':=fun X hX=>by
     refine calls_bl hX ?_
     have hoX:Below w0.heap.size w0 X:=HLZ.out.old.trans (hX.mono HLZ.out.old.size)
     have h:=rdepth_any _ x HF.out (Vl.kdF kn 12) HZK.out _ yt HZF.out.1 g NR NR X (Id.SchV.below hoX HV.out) (ERow.below HU6.out hoX (fun _ _ h=>h)) HNR.out.symm (HG0 _ hoX)
     rw [Hz.out] at h
     exact h
    have HC:=Lib.hid hcall
    have hwr:IntKind.i64.wrap ((kn rn:Int) - 1)=(kn rn:Int) - 1:=by unfold IntKind.wrap;simp [IntKind.bits,IntKind.signed];omega
    clear hcall e1
    go_wp2_with fail
    clear b0 b1 b2
    refine wp_region_bl Z (by kernel_rfl) (by kernel_rfl) (Bl.refl _) ?_
    repeat (first | go_big_quiet_step ((intro hb;exact HC.out _ hb)) | (refine wpQuiet_step (fun K hK=>?_);rw [if_pos (by rfl)];refine quiet_load_row _ _ rfl _ rfl _ _ _ (by assumption) Tryz.underlying28 rfl (by kernel_rfl) ?_;go_simp;refine hK _ ?_;clear hK K) | (refine wpQuiet_step (fun K hK=>?_);rw [if_pos (by rfl)];refine Lst.load_cell _ _ rfl _ rfl _ (by assumption) _ Tryz.underlying40 rfl ?_;go_simp;refine hK _ ?_;clear hK K) | (refine wpQuiet_step (fun K hK=>?_);rw [if_pos (by rfl)];refine Lst.load_cell _ _ rfl _ rfl _ (by assumption) _ Tryz.underlying45 rfl ?_;go_simp;refine hK _ ?_;clear hK K) | (refine wpQuiet_step (fun K hK=>?_);go_simp;refine ⟨_,fun _ _=>rfl,hK _ ?_⟩;clear hK K))
    refine wpQuiet_nil ?_
    intro Z2 hz2
    clear dS dF dT
    have HB2:=Lib.hid (HB.out.trans (hz2.mono HB.out.size))
    by_cases hmJ:m=J
    case neg =>
     have hne:z≠kn rn - 1:=fun h=>hmJ (HZD.out.1 h)
     have t1:((z:Int)==(kn rn:Int) - 1)=false:=beq_eq_false_iff_ne.2 (by omega)
     have t2:¬(z:Int)=(kn rn:Int) - 1:=by omega
     go_wp2_with fail
     go_roundw
     case rel=>exact ⟨m+1,by omega,by go_num,HB2⟩
     case measure=>simp [intOf];omega
    subst hmJ
    have hze:z=kn rn - 1:=HZD.out.2 rfl
    have t1:((z:Int)==(kn rn:Int) - 1)=true:=by rw [beq_iff_eq];omega
    have t2:(z:Int)=(kn rn:Int) - 1:=by omega
    have HL3:=Lib.hid (HLU.out.below HB2.out)
    have HQ3:=Lib.hid (HQR.out.below HB2.out HQR.out.lt)
    have HR3:=Lib.hid (ERow.below HRU.out HB2.out (fun _ _ h=>h))
    have HRC5:Hid (R=⟨8,m,⟨#[]⟩,1⟩::Vl.bldF x kn k yt):=Lib.hid (by have h:=HRC.out;rw [Hr5.out] at h;exact h)
    have hAT5:Vl.dpt kn yt=kn rn - 1:=by have h:=HAT.out;rw [Hr5.out] at h;exact h
    have e1:=(HL3.out.old.cell hg5).trans HE1.out
    clear HLZ HQZ HRZ HRC HAT Hz
    go_upto_region 12 with (fail)
    clear t1 t2
    have hB3:=HL3.out.size
    have hx3:Below Z2.heap.size Z2 Z2.drew:=(Below.refl _ _).drew
    refine wp_region_L_calm (fun w'=>Bk w' w.heap.size 28 #[.string x.name,.slice A1 n1 c1,.slice A2 n2 c2,.slice A3 n3 c3]∧Bk w' gr 42 #[.string rn,.bool true,.slice (some ⟨g5,off5,none⟩) n5 c5]∧w'.cell? ⟨g5,off5+m * 2+1,none⟩=some (.slice A6 n6 c6)) [13] (by kernel_rfl) ⟨HL3.out.box.drew,HQ3.out.drew,e1⟩ (fun hHeld=>?_)
    (refine Lst.takeM 13 0 (v:=?_) rfl (by kernel_rfl) (by kernel_rfl) (by kernel_rfl) (by kernel_rfl) (by kernel_rfl) (by kernel_rfl) (fun _ _ _ h=>h) (by assumption) (by rfl) ?_ ?_;rotate_left;· (intro w hSw;((try dsimp only at hSw);obtain ⟨e0,e1,e2,e3⟩:=(Bk.k4 hSw.1).1);go_simp;try with_reducible rfl);try simp only [Act.put,List.setIfInBounds_toArray,List.set_cons_zero,List.set_cons_succ])
    (refine wpAnyL_take0 1 (v:=?_) rfl (by kernel_rfl) (by kernel_rfl) (by kernel_rfl) (by kernel_rfl) (fun _ _ _ h=>h) (fun _=>by assumption) (by rfl) ?_ ?_;rotate_left;· (intro w;go_simp;try with_reducible rfl);try simp only [Act.put,List.setIfInBounds_toArray,List.set_cons_zero,List.set_cons_succ])
    (refine Lst.takeM 13 2 (v:=?_) rfl (by kernel_rfl) (by kernel_rfl) (by kernel_rfl) (by kernel_rfl) (by kernel_rfl) (by kernel_rfl) (fun _ _ _ h=>h) (by assumption) (by rfl) ?_ ?_;rotate_left;· (intro w hSw;((try dsimp only at hSw);obtain ⟨e0,e1,e2⟩:=(Bk.k3 hSw.2.1).1);go_simp;try with_reducible rfl);try simp only [Act.put,List.setIfInBounds_toArray,List.set_cons_zero,List.set_cons_succ])
    (refine wpAnyL_take0 3 (v:=?_) rfl (by kernel_rfl) (by kernel_rfl) (by kernel_rfl) (by kernel_rfl) (fun _ _ _ h=>h) (fun _=>by assumption) (by rfl) ?_ ?_;rotate_left;· (intro w;go_simp;try with_reducible rfl);try simp only [Act.put,List.setIfInBounds_toArray,List.set_cons_zero,List.set_cons_succ])
    (refine wpAnyL_take0 4 (v:=?_) rfl (by kernel_rfl) (by kernel_rfl) (by kernel_rfl) (by kernel_rfl) (fun _ _ _ h=>h) (fun _=>by assumption) (by rfl) ?_ ?_;rotate_left;· (intro w;go_simp;try with_reducible rfl);try simp only [Act.put,List.setIfInBounds_toArray,List.set_cons_zero,List.set_cons_succ])
    (refine wpAnyL_take0 5 (v:=?_) rfl (by kernel_rfl) (by kernel_rfl) (by kernel_rfl) (by kernel_rfl) (fun _ _ _ h=>h) (fun _=>by assumption) (by rfl) ?_ ?_;rotate_left;· (intro w;go_simp;try with_reducible rfl);try simp only [Act.put,List.setIfInBounds_toArray,List.set_cons_zero,List.set_cons_succ])
    (refine Lst.takeM 13 6 (v:=?_) rfl (by kernel_rfl) (by kernel_rfl) (by kernel_rfl) (by kernel_rfl) (by kernel_rfl) (by kernel_rfl) (fun _ _ _ h=>h) (by assumption) (by rfl) ?_ ?_;rotate_left;· (intro w hSw;((try dsimp only at hSw);have e9:=hSw.2.2);go_simp;try with_reducible rfl);try simp only [Act.put,List.setIfInBounds_toArray,List.set_cons_zero,List.set_cons_succ])
    (refine wpAnyL_take0 7 (v:=?_) rfl (by kernel_rfl) (by kernel_rfl) (by kernel_rfl) (by kernel_rfl) (fun _ _ _ h=>h) (fun _=>by assumption) (by rfl) ?_ ?_;rotate_left;· (intro w;go_simp;try with_reducible rfl);try simp only [Act.put,List.setIfInBounds_toArray,List.set_cons_zero,List.set_cons_succ])
    (refine wpAnyL_take0 8 (v:=?_) rfl (by kernel_rfl) (by kernel_rfl) (by kernel_rfl) (by kernel_rfl) (fun _ _ _ h=>h) (fun _=>by assumption) (by rfl) ?_ ?_;rotate_left;· (intro w;go_simp;try with_reducible rfl);try simp only [Act.put,List.setIfInBounds_toArray,List.set_cons_zero,List.set_cons_succ])
    (refine wpAnyL_take0 9 (v:=?_) rfl (by kernel_rfl) (by kernel_rfl) (by kernel_rfl) (by kernel_rfl) (fun _ _ _ h=>h) (fun _=>by assumption) (by rfl) ?_ ?_;rotate_left;· (intro w;go_simp;try with_reducible rfl);try simp only [Act.put,List.setIfInBounds_toArray,List.set_cons_zero,List.set_cons_succ])
    (refine wpAnyL_take0 10 (v:=?_) rfl (by kernel_rfl) (by kernel_rfl) (by kernel_rfl) (by kernel_rfl) (fun _ _ _ h=>h) (fun _=>by assumption) (by rfl) ?_ ?_;rotate_left;· (intro w;go_simp;try with_reducible rfl);try simp only [Act.put,List.setIfInBounds_toArray,List.set_cons_zero,List.set_cons_succ])
    have hL3:=HL3.out.below hx3
    have hQ3:=HQ3.out.drew
    have hR3:=ERow.below HR3.out hx3 (fun _ _ h=>h)
    have hc3:Z2.drew.cell? ⟨g5,off5+m * 2+1,none⟩=some (.slice A6 n6 c6):=e1
    clear hHeld
    generalize Z2.drew=Y at *
    have hb1:Below Y.heap.size Y (Y.alloc (.cells #[.int .u8 8,.int .i64 m,.string ⟨#[]⟩,.int .i64 1] 71)):=(Below.refl _ _).alloc (Nat.le_refl _) _
    have hq1:=Bk.new Y 71 #[.int .u8 8,.int .i64 m,.string ⟨#[]⟩,.int .i64 1]
    have hL4:=hL3.below hb1
    have hQ4:=hQ3.below hb1 hQ3.lt
    have hR4:=ERow.below hR3 hb1 (fun _ _ h=>h)
    have hc4:=(hb1.cell (World.block_lt_of_cell? _ _ hc3)).trans hc3
    (refine wpAnyL_step 11 (by kernel_rfl) rfl (fun K hK=>?_))
    go_simp
    (refine hK.out _ _ (fun hnn=>(⟨hL4.box,hQ4,hc4⟩)) ?_;clear hK K;try simp only [Act.put,List.setIfInBounds_toArray,List.set_cons_zero,List.set_cons_succ])
    have hz4:=hL4.size
    (refine wpAnyL_step 12 (by kernel_rfl) rfl (fun K hK=>?_))
    refine step_append_el rfl _ _ _ rfl B 71 _ 4 40 Tryz.underlying23 Vl.info_node rfl (by decide) Vl.NodE (.slice A8 n8 c8) o rfl hR4 [.int .u8 8,.int .i64 m,.string ⟨#[]⟩,.int .i64 1] rfl _ rfl hq1 (by simp [Value.oneCell']) (by simp only [maxLen];omega) (by omega) hz4 ?_
    intro A9 n9 c9 X hr9 hb9 ho9
    have hr10:=hr9 ⟨8,m,⟨#[]⟩,1⟩ (fun _ _ h=>h) rfl
    have hL5:=hL4.call hB hb9 ho9
    have hQ5:=ho9.bk hQ4 (by decide)
    have hc5:=(hb9.cell (by show g5<B;omega)).trans hc4
    (refine hK.out _ _ (fun hnn=>(⟨hL5.box,hQ5,hc5⟩)) ?_;clear hK K;try simp only [Act.put,List.setIfInBounds_toArray,List.set_cons_zero,List.set_cons_succ])
    (refine wpAnyL_step 13 (by kernel_rfl) rfl (fun K hK=>?_))
    go_simp
    have hIH:=HIH.out (.slice A6 n6 c6) yt (.slice A9 n9 c9) (o++[⟨8,m,⟨#[]⟩,1⟩]) X hL5.old hL5.size hr10 HU6.out hot5.out (by rw [hAT5];omega) (by rw [hAT5];omega) (by rw [hAT5];omega)
    rw [HNR.out] at hIH
    refine hIH.mono ?_
    rintro e X2 ⟨v',o',rfl,hro,hbo,hoo,hp1,hp2⟩
    have hL6:=hL5.call hB hbo hoo
    have HFIN:Hid (Vl.RbP w B o R (.returned v') X2):=Lib.hid (by
     refine ⟨v',o',rfl,hro,hL6.bel,hL6.only,fun h=>?_,fun h=>?_⟩
     ·rw [HRC5.out] at h ⊢
      rw [hp1 (by simp only [List.length_append,List.length_cons,List.length_nil] at h ⊢;omega),List.append_assoc]
      rfl
     ·rw [HRC5.out] at h
      exact hp2 (by simp only [List.length_append,List.length_cons,List.length_nil] at h ⊢;omega))
    clear hIH hro hbo hoo hp1 hp2
    (refine hK.out _ _ (fun hnn=>absurd hnn (by decide)) ?_;clear hK K;try simp only [Act.put,List.setIfInBounds_toArray,List.set_cons_zero,List.set_cons_succ])
    (refine wpAnyL_step 14 (by kernel_rfl) rfl (fun K hK=>?_))
    go_simp
    (refine hK.out _ _ (fun hnn=>absurd hnn (by decide)) ?_;clear hK K;try simp only [Act.put,List.setIfInBounds_toArray,List.set_cons_zero,List.set_cons_succ])
    refine wpAnyL_done (by kernel_rfl) ?_ _
    refine NoPanic.normal ?_
    go_wp2_with fail
    go_ret
    exact HFIN.out
  case false =>
   have HRL:=Lib.hid (HM.out.rec_le HFD.out hd0 rfl)
   have HRX:Hid (R=⟨7,0,⟨#[]⟩,rf.length⟩::Vl.bldL x kn k rf):=Lib.hid (HRR.out.symm.trans (Vl.bld_record (x:=⟨7,rn⟩) rfl HFD.out rfl))
   obtain rfl:n5=rf.length:=HN5.out
   go_upto_region 14 with (at_builtin;go_must (refine wpList_append_el rfl _ _ _ rfl B 71 _ 4 40 Tryz.underlying23 Vl.info_node rfl (by decide) Vl.NodE (.slice A8 n8 c8) o rfl HRU.out [.int .u8 7,.int .i64 0,.string ⟨#[]⟩,.int .i64 rf.length] rfl _ rfl (by first | rfl | simp) (by simp [Value.oneCell']) (by simp only [maxLen];omega) (by omega) hBU ?_);intro v9 X hr9 hb9 ho9;have HR9:=Lib.hid (hr9 ⟨7,0,⟨#[]⟩,rf.length⟩ (fun _ _ h=>h) rfl);have HL9:=Lib.hid (HLU.out.call hB hb9 ho9);have HQ9:=Lib.hid (ho9.bk HQR.out (by decide));clear hr9 hb9 ho9)
   clear r0 r1 r2
   go_wp2_with fail
   go_loopw [13,3] (fun i sl wr=>∃ (m:Nat) (v':Value) (o':List Vl.Node),m≤rf.length∧i=.int .i64 m∧v'=sl∧Hid (Vl.Rb w0 w wr #[.string x.name,.slice A1 n1 c1,.slice A2 n2 c2,.slice A3 n3 c3] B)∧Hid (Bk wr gr 42 #[.string rn,.bool false,.slice A5 rf.length c5])∧Hid (ERow wr (some B) 71 4 Vl.NodE v' o')∧Hid (o.length+1+(Vl.bldL x kn k (rf.take m)).length≤4096→o'=o++(⟨7,0,⟨#[]⟩,rf.length⟩::Vl.bldL x kn k (rf.take m)))∧Hid (4096<o.length+1+(Vl.bldL x kn k (rf.take m)).length→4096<o'.length)) (fun i _ _=>rf.length - (intOf i).toNat)
   case atStart=>exact ⟨0,v9,_,by omega,rfl,rfl,HL9,HQ9,HR9,Lib.hid (fun _=>by simp [Vl.bldL]),Lib.hid (fun h=>by simp [Vl.bldL] at h ⊢;omega)⟩
   case round =>
    obtain ⟨m,v',o',hm,rfl,rfl,HLm,HQm,HRm,HP1,HP2⟩:=hrel
    obtain ⟨Z,rfl⟩:∃ w',w'=wr:=⟨_,rfl⟩
    clear HR9 HL9 HQ9
    obtain ⟨A9,n9,c9,rfl⟩:=ERow.is HRm.out
    have im0:(0:Int)≤(m:Int):=by omega
    obtain ⟨⟨b0,b1,b2⟩,-⟩:=HQm.out.k3
    by_cases hml:m<rf.length
    case neg =>
     have HFIN:Hid (Vl.RbP w B o R (.returned (.slice A9 n9 c9)) Z):=Lib.hid (by
      have h1:=HP1.out
      have h2:=HP2.out
      rw [List.take_of_length_le (by omega)] at h1 h2
      refine ⟨_,o',rfl,HRm.out,HLm.out.bel,HLm.out.only,fun h=>?_,fun h=>?_⟩
      ·rw [HRX.out] at h ⊢
       exact h1 (by simp only [List.length_cons] at h;omega)
      ·rw [HRX.out] at h
       exact h2 (by simp only [List.length_cons] at h;omega))
     go_wp2_with fail
     go_ret
     exact HFIN.out
    have hmf:m<rf.length:=hml
    have im1:(m:Int)<(rf.length:Int):=by omega
    have hNX:Vl.bldL x kn k (rf.take (m+1))=Vl.bldL x kn k (rf.take m)++Vl.bldF x kn k (rf[m]).type:=by
     rw [List.take_succ_eq_append_getElem hmf]
     unfold Vl.bldL
     rw [List.flatMap_append]
     simp
    have hrl:=HRL.out _ (List.getElem_mem hmf)
    obtain ⟨g5,off5,cs5,rfl,-,⟨u5,he5,HU5⟩,hc5⟩:=ERow.get HFS.out hmf (by omega)
    have hfm:=List.getElem_mem hmf
    have HZF:=Lib.hid (HFL.out _ hfm)
    obtain ⟨r5,Hr5⟩:∃ r,Hid (rf[m]=r):=⟨_,Lib.hid rfl⟩
    rw [Hr5.out] at he5 HU5 hfm HZF
    obtain ⟨yn,yt⟩:=r5
    subst he5
    simp only at HU5 HZF
    obtain ⟨A6,n6,c6,rfl⟩:=ERow.is HU5
    have e1:=hc5 1 _ rfl
    have hg5:g5<w0.heap.size:=World.block_lt_of_cell? w0 _ e1
    have HU6:=Lib.hid HU5
    have HE1:=Lib.hid e1
    have hot5:=Lib.hid (Vl.right_okT (Vl.field_right HR.out HRM.out hfm)).1
    clear hc5 HU5 hfm e1
    rw [Hr5.out] at hNX hrl
    simp only at hNX hrl
    have HNX:=Lib.hid hNX
    have HRl:=Lib.hid hrl
    have e1:=(HLm.out.old.cell hg5).trans HE1.out
    have HP1':=HP1
    clear hNX hrl
    go_wp2_with fail
    clear b0 b1 b2
    refine wp_region_L_calm (fun w'=>Bk w' w.heap.size 28 #[.string x.name,.slice A1 n1 c1,.slice A2 n2 c2,.slice A3 n3 c3]∧Bk w' gr 42 #[.string rn,.bool false,.slice (some ⟨g5,off5,none⟩) rf.length c5]∧w'.cell? ⟨g5,off5+m * 2+1,none⟩=some (.slice A6 n6 c6)) [9] (by kernel_rfl) ⟨HLm.out.box.drew,HQm.out.drew,e1⟩ (fun hHeld=>?_)
    (refine Lst.takeM 9 0 (v:=?_) rfl (by kernel_rfl) (by kernel_rfl) (by kernel_rfl) (by kernel_rfl) (by kernel_rfl) (by kernel_rfl) (fun _ _ _ h=>h) (by assumption) (by rfl) ?_ ?_;rotate_left;· (intro w hSw;((try dsimp only at hSw);obtain ⟨e0,e1,e2,e3⟩:=(Bk.k4 hSw.1).1);go_simp;try with_reducible rfl);try simp only [Act.put,List.setIfInBounds_toArray,List.set_cons_zero,List.set_cons_succ])
    (refine wpAnyL_take0 1 (v:=?_) rfl (by kernel_rfl) (by kernel_rfl) (by kernel_rfl) (by kernel_rfl) (fun _ _ _ h=>h) (fun _=>by assumption) (by rfl) ?_ ?_;rotate_left;· (intro w;go_simp;try with_reducible rfl);try simp only [Act.put,List.setIfInBounds_toArray,List.set_cons_zero,List.set_cons_succ])
    (refine Lst.takeM 9 2 (v:=?_) rfl (by kernel_rfl) (by kernel_rfl) (by kernel_rfl) (by kernel_rfl) (by kernel_rfl) (by kernel_rfl) (fun _ _ _ h=>h) (by assumption) (by rfl) ?_ ?_;rotate_left;· (intro w hSw;((try dsimp only at hSw);obtain ⟨e0,e1,e2⟩:=(Bk.k3 hSw.2.1).1);go_simp;try with_reducible rfl);try simp only [Act.put,List.setIfInBounds_toArray,List.set_cons_zero,List.set_cons_succ])
    (refine wpAnyL_take0 3 (v:=?_) rfl (by kernel_rfl) (by kernel_rfl) (by kernel_rfl) (by kernel_rfl) (fun _ _ _ h=>h) (fun _=>by assumption) (by rfl) ?_ ?_;rotate_left;· (intro w;go_simp;try with_reducible rfl);try simp only [Act.put,List.setIfInBounds_toArray,List.set_cons_zero,List.set_cons_succ])
    (refine wpAnyL_take0 4 (v:=?_) rfl (by kernel_rfl) (by kernel_rfl) (by kernel_rfl) (by kernel_rfl) (fun _ _ _ h=>h) (fun _=>by assumption) (by rfl) ?_ ?_;rotate_left;· (intro w;go_simp;try with_reducible rfl);try simp only [Act.put,List.setIfInBounds_toArray,List.set_cons_zero,List.set_cons_succ])
    (refine wpAnyL_take0 5 (v:=?_) rfl (by kernel_rfl) (by kernel_rfl) (by kernel_rfl) (by kernel_rfl) (fun _ _ _ h=>h) (fun _=>by assumption) (by rfl) ?_ ?_;rotate_left;· (intro w;go_simp;try with_reducible rfl);try simp only [Act.put,List.setIfInBounds_toArray,List.set_cons_zero,List.set_cons_succ])
    (refine Lst.takeM 9 6 (v:=?_) rfl (by kernel_rfl) (by kernel_rfl) (by kernel_rfl) (by kernel_rfl) (by kernel_rfl) (by kernel_rfl) (fun _ _ _ h=>h) (by assumption) (by rfl) ?_ ?_;rotate_left;· (intro w hSw;((try dsimp only at hSw);have e9:=hSw.2.2);go_simp;try with_reducible rfl);try simp only [Act.put,List.setIfInBounds_toArray,List.set_cons_zero,List.set_cons_succ])
    (refine wpAnyL_take0 7 (v:=?_) rfl (by kernel_rfl) (by kernel_rfl) (by kernel_rfl) (by kernel_rfl) (fun _ _ _ h=>h) (fun _=>by assumption) (by rfl) ?_ ?_;rotate_left;· (intro w;go_simp;try with_reducible rfl);try simp only [Act.put,List.setIfInBounds_toArray,List.set_cons_zero,List.set_cons_succ])
    (refine wpAnyL_take0 8 (v:=?_) rfl (by kernel_rfl) (by kernel_rfl) (by kernel_rfl) (by kernel_rfl) (fun _ _ _ h=>h) (fun _=>by assumption) (by rfl) ?_ ?_;rotate_left;· (intro w;go_simp;try with_reducible rfl);try simp only [Act.put,List.setIfInBounds_toArray,List.set_cons_zero,List.set_cons_succ])
    have hx3:Below Z.heap.size Z Z.drew:=(Below.refl _ _).drew
    have hL3:=HLm.out.below hx3
    have hQ3:=HQm.out.drew
    have hR3:=ERow.below HRm.out hx3 (fun _ _ h=>h)
    (refine wpAnyL_step 9 (by kernel_rfl) rfl (fun K hK=>?_))
    go_simp
    have hIH:=HIH.out (.slice A6 n6 c6) yt (.slice A9 n9 c9) o' Z.drew hL3.old hL3.size hR3 HU6.out hot5.out HRl.out.1 (by have:=HRl.out.2;omega) (by have:=HRl.out.2;omega)
    rw [HNR.out] at hIH
    refine hIH.mono ?_
    rintro e X2 ⟨v5,o5,rfl,hro,hbo,hoo,hp1,hp2⟩
    have HL6:=Lib.hid (hL3.call hB hbo hoo)
    have HQ6:=Lib.hid (hoo.bk hQ3 (by decide))
    have HR6:=Lib.hid hro
    have HPA:=Lib.hid hp1
    have HPB:=Lib.hid hp2
    clear hIH hro hbo hoo hp1 hp2
    (refine hK.out _ _ (fun hnn=>absurd hnn (by decide)) ?_;clear hK K;try simp only [Act.put,List.setIfInBounds_toArray,List.set_cons_zero,List.set_cons_succ])
    (refine wpAnyL_step 10 (by kernel_rfl) rfl (fun K hK=>?_))
    go_simp
    (refine hK.out _ _ (fun hnn=>absurd hnn (by decide)) ?_;clear hK K;try simp only [Act.put,List.setIfInBounds_toArray,List.set_cons_zero,List.set_cons_succ])
    refine wpAnyL_done (by kernel_rfl) ?_ _
    refine NoPanic.normal ?_
    have HN1:Hid (o.length+1+(Vl.bldL x kn k (rf.take (m+1))).length≤4096→o5=o++(⟨7,0,⟨#[]⟩,rf.length⟩::Vl.bldL x kn k (rf.take (m+1)))):=Lib.hid (fun h=>by
     rw [HNX.out,List.length_append] at h
     have h1:=HP1.out (by omega)
     have h2:=HPA.out (by rw [h1,List.length_append,List.length_cons];omega)
     rw [h2,h1,HNX.out]
     simp)
    have HN2:Hid (4096<o.length+1+(Vl.bldL x kn k (rf.take (m+1))).length→4096<o5.length):=Lib.hid (fun h=>by
     rw [HNX.out,List.length_append] at h
     refine HPB.out ?_
     by_cases hq:o.length+1+(Vl.bldL x kn k (rf.take m)).length≤4096
     ·rw [HP1.out hq,List.length_append,List.length_cons];omega
     ·have:=HP2.out (by omega)
      omega)
    go_wp2_with fail
    go_roundw
    case rel=>exact ⟨m+1,v5,o5,by omega,by go_num,rfl,HL6,HQ6,HR6,HN1,HN2⟩
    case measure=>simp [intOf];omega
theorem rbld_any (x:Id.Sch) (kn:Vl.Kn) (hR:Chk.Right x) (hF:Chk.Fine x) (hM:Vl.Min x kn) (sv:Value) (w0:World) (g B:Nat) (hB:w0.heap.size≤B) (hv:Id.SchV w0 none sv x) (hg:Bk w0 g 3 (iArr (x.records.map fun r=>Vl.kdF kn 12 r.name))):∀ k,Vl.RbC x kn sv w0 g B k
 | 0=>fun tv t vv o w _ _ _ _ _ h0 hk _=>absurd (Nat.le_zero.1 hk) h0
 | k+1=>rbld_step x kn hR hF hM sv w0 g B k hB hv hg (rbld_any x kn hR hF hM sv w0 g B hB hv hg k)
end Go.Proofs.YtjfdohhdkdjifaaGreatDoor
