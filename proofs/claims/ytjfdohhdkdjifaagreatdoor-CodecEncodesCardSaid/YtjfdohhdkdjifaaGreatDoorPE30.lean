/- codec.Encode. No condition but the keywords' table and the ones the theorems state. -/
import Derived.Test.YtjfdohhdkdjifaaGreatDoorPE29
import Derived.Deep.RegionHeld3
import Derived.Deep.DrawnRows
import Derived.Lib.AppendStr
import Derived.Lib.BufferRead
import Derived.Laws.Bits64
import Derived.Laws.BitsAllLaws
import Derived.Laws.BitsLemmas
import Derived.WalkLawsBesides
set_option linter.unusedVariables false
set_option linter.unusedSimpArgs false
namespace Go.Proofs.YtjfdohhdkdjifaaGreatDoor
section
open Go.RowKit Go.BigFrame
/-- A string put behind a row of bytes of the call's own, within a region that draws its order. -/
theorem step_append_string {P:Program} {ops:Array Oper} {o:Oper} {a:Act} {w:World} {K:Act→World→Prop} {Q:Exit→Act→World→Prop} {H:Prop} (hgd:o.guard=none) (sl x:Operand) (t u:TypeId)
  (ho:o.op=.call { callee:=.builtin .append,args:=#[sl,x],argTypes:=#[t,u] })
  (base:Nat) (e:TypeId) (i:TypeInfo) (ht:P.underlying t=some (.slice e)) (hu:P.underlying u=some .string) (hi:P.info? e=some i) (hz:i.zero=some (.int .u8 0))
  (hsize:i.size=1) (hby:i.bytes=1)
  (v:Value) (n:Nat) (xs:List Value) (hs:a.eval sl=v) (hown:w.ownsRow base e 1 v n xs) (s:ByteArray) (hx:a.eval x=.string s)
  (h63:n+s.size≤maxLen) (hbytes:n+s.size≤140737488355328) (hbase:base≤w.heap.size)
  (h:∀ v' w',w'.ownsRow base e 1 v' (n+s.size) (xs++Lib.strCells s)→Below base w w'→K (a.put o.dst v') w'):if Region.wanted o (yielded ops a.tmps)=true then Oper.wp P o a w K Q else H:=by
 have hw:Region.wanted o (yielded ops a.tmps)=true:=by simp [Region.wanted,hgd]
 rw [if_pos hw]
 obtain ⟨v',w',hr,h2,h3,h4⟩:=Lib.run_append_own_string (P:=P) w base t u o.type e i ht hu hi hz hsize hby v n xs hown s h63 hbytes hbase
 unfold Oper.wp execOp
 simp only [ho,resolve,invoke,builtin,Sem.run_bind,Sem.run_pure,Result.andThen_ok,List.map_toArray,List.map_cons,List.map_nil,hs,hx,hr]
 exact h v' w' h2 ((Below.refl base w).grown h3 hbase (fun k hk=>(hown.lt k hk).1))
theorem Ev.Bt.below {w w':World} {B:Nat} {v:Value} {xs:List UInt8} (h:Ev.Bt w B v xs) (hb:Below w.heap.size w w'):Ev.Bt w' B v xs:=(show RowR w' (some B) 5 1 v xs.length (xs.map Sm.byteV) from RowR.below (B:=some B) h hb)
theorem Ev.Bt.str {w:World} {B:Nat} {v:Value} {xs:List UInt8} (h:Ev.Bt w B v xs):Sem.run Tryz.prog (convert 99 9 v) w=.ok (.string ⟨xs.toArray⟩) w:=by
 rcases h.2 with ⟨rfl,hn⟩ | ⟨g,cap,cur,rfl,-,hg,-⟩
 ·have e:=List.eq_nil_of_length_eq_zero hn
  subst e
  exact Lib.run_convert_nil_bytes w _ _ _ 0 Tryz.underlying99 Tryz.underlying5 Tryz.underlying9
 ·have hcs:=h.own.cells (g:=g) rfl
  refine run_convert_bytes_back (P:=Tryz.prog) w 99 9 5 ⟨g,0,none⟩ cap xs Tryz.underlying99 Tryz.underlying5 Tryz.underlying9 ?_
  intro j hj
  refine hcs j _ ?_
  rw [List.getElem?_map,List.getElem?_eq_getElem hj]
  rfl
set_option maxRecDepth 100000 in
set_option maxHeartbeats 16000000 in
theorem cencode_any (sv:Value) (x:Id.Sch) (hF:Chk.Fine x) (tv:Value) (t:List Id.Srt) (vs:Value) (v:List Vl.Node) (hl:v.length≤100000) (hz:∀ n∈v,n.text.size≤100000) (hok:∀ n∈v,Cd.OkN n) (w:World) (hk:Tk.KW w) (hv:Id.SchV w none sv x) (ht:Id.SortsR w none tv t) (hvv:Vl.ValR w none vs v) :
  Calls Tryz.prog 17 #[sv,tv,vs] w fun e w'=>e=.returned (.tuple #[.string (Cd.encB (Vl.fits x t v) v),.int .i64 (Vl.fits x t v)])∧Below w.heap.size w w':=by
 obtain ⟨R,HR⟩:∃ R,Hid (Vl.fits x t v=R):=⟨_,Lib.hid rfl⟩
 rw [HR.out]
 have HF:=Lib.hid hF
 have HKW:=Lib.hid hk
 have HV:=Lib.hid hv
 have HS:=Lib.hid ht
 have HVV:=Lib.hid hvv
 have HZ:=Lib.hid hz
 have HL9:=Lib.hid hl
 have HOK:=Lib.hid hok
 obtain ⟨A,n,c,rfl⟩:=ERow.is ht
 obtain ⟨A9,n9,c9,rfl⟩:=ERow.is hvv
 have HN9:Hid (n9=v.length):=Lib.hid (by obtain ⟨_,_,e,_⟩:=ERow.slice hvv;injection e)
 obtain ⟨A1,n1,c1,A2,n2,c2,A3,n3,c3,rfl,-,-,-⟩:=hv
 clear hF hk ht hvv hz hl hok
 go_enter Tryz.func17,Tryz.ntmps17
 go_upto_region 1 with (fail)
 refine wp_named (fun V hV=>?_)
 have HL:=Lib.hid (Chk.Lx.start hV)
 clear hV
 obtain ⟨⟨q0,q1,q2,q3⟩,-⟩:=HL.out.box.k4
 go_wp2_with fail
 refine (vfits_any _ x HF.out _ t _ v HL9.out HZ.out _ (HKW.out.below HL.out.bel) (Id.SchV.below HL.out.bel HV.out) (ERow.below HS.out HL.out.bel (fun _ _ h=>h)) (Vl.ValR.below HVV.out HL.out.bel)).mono ?_
 rw [HR.out]
 rintro e U ⟨rfl,hb⟩
 have HB:=Lib.hid (HL.out.bel.trans (hb.mono HL.out.bel.size))
 clear hb HL q0 q1 q2 q3
 by_cases hR:R=0
 case neg =>
  have t1:((R:Int) != 0)=true:=by rw [bne_iff_ne];omega
  have t2:¬(R:Int)=0:=by omega
  have HX:Hid (Cd.encB R v=⟨#[]⟩):=Lib.hid (by unfold Cd.encB;rw [if_neg hR])
  go_wp2_with fail
  go_ret2
  exact ⟨by rw [HX.out];rfl,HB.out⟩
 subst hR
 have HX:Hid (Cd.encB 0 v=⟨(Cd.encGs v).toArray⟩):=Lib.hid (by unfold Cd.encB;rw [if_pos rfl])
 have HEL:Hid ((Cd.encGs v).length≤50000):=Lib.hid (by
  obtain ⟨_,_,_,_,_,h5⟩:=Vl.fits_ok HR.out
  have h6:=Cd.encGs_len v
  unfold Vl.size at h5
  unfold Vl.tsum at h6
  omega)
 try simp only [Int.cast_ofNat_Int]
 have hn9:n9≤100000:=by rw [HN9.out];exact HL9.out
 go_wp2_with fail
 go_loopw [21,9] (fun i sl wr=>∃ (k:Nat) (bv:Value),k≤n9∧i=.int .i64 k∧bv=sl∧Hid (Ev.Bt wr U.heap.size bv (Cd.encGs (v.take k)))∧Hid (Below U.heap.size U wr)) (fun i _ _=>n9 - (intOf i).toNat)
 case atStart=>exact ⟨0,_,by omega,rfl,rfl,Lib.hid (by rw [List.take_zero];exact Ev.Bt.nil _ _),Lib.hid (Below.refl _ _)⟩
 case round =>
  obtain ⟨k,bv,hk,rfl,rfl,HBT,HBU⟩:=hrel
  obtain ⟨W,rfl⟩:∃ w',w'=wr:=⟨_,rfl⟩
  have ik0:(0:Int)≤(k:Int):=by omega
  by_cases hlt:k<n9
  case neg =>
   have HT:Hid (Ev.Bt W U.heap.size bv (Cd.encGs v)):=Lib.hid (by have h:=HBT.out;rw [List.take_of_length_le (by rw [←HN9.out];omega)] at h;exact h)
   have ik1:¬(k:Int)<(n9:Int):=by omega
   go_wp2_with fail
   rw [Ev.Bt.str HT.out]
   go_wp2_with fail
   go_ret2
   exact ⟨by rw [HX.out];rfl,HB.out.trans (HBU.out.mono HB.out.size)⟩
  have hka:k<v.length:=by rw [←HN9.out];exact hlt
  have ik1:(k:Int)<(n9:Int):=by omega
  obtain ⟨g,off,cs,rfl,-,e1,hc⟩:=ERow.get HVV.out hka (by omega)
  have HNX:=Lib.hid (Cd.encGs_next hka)
  have hokk:=HOK.out v[k] (List.getElem_mem hka)
  have htl:(Cd.encGs (v.take (k+1))).length≤50000:=Nat.le_trans (Cd.encGs_take_len v (k+1)) HEL.out
  obtain ⟨⟨k0,k1,k2,k3⟩,Hx⟩:∃ y,Hid (v[k]=y):=⟨_,Lib.hid rfl⟩
  have hk2:k2.size≤100000:=by have h:=HZ.out v[k] (List.getElem_mem hka);rw [Hx.out] at h;exact h
  rw [Hx.out] at e1 HNX hokk
  unfold Vl.NodE Vl.Node.cells at e1
  subst e1
  obtain ⟨o1,o2,-⟩:=hokk
  simp only at o1 o2
  have a0:=hc 0 _ rfl
  have a1:=hc 1 _ rfl
  have a2:=hc 2 _ rfl
  have a3:=hc 3 _ rfl
  simp only [Nat.add_zero] at a0
  have hgl:g<w.heap.size:=World.block_lt_of_cell? w _ a0
  have hBW:=HB.out.trans (HBU.out.mono HB.out.size)
  have a0:=(hBW.cell hgl).trans a0
  have a1:=(hBW.cell hgl).trans a1
  have a2:=(hBW.cell hgl).trans a2
  have a3:=(hBW.cell hgl).trans a3
  obtain ⟨xs,Hxs⟩:∃ xs,Hid (Cd.encGs (v.take k)=xs):=⟨_,Lib.hid rfl⟩
  have hxl:xs.length≤50000:=by rw [←Hxs.out];exact Nat.le_trans (Cd.encGs_take_len v k) HEL.out
  rw [Hxs.out] at HBT HNX
  clear hc Hx hBW htl
  go_upto_region 8 with (fail)
  refine wp_named (fun X hX=>?_)
  obtain ⟨hb,hq,-⟩:=fresh_box hX
  clear hX
  have HBX:=Lib.hid (HBU.out.trans (hb.mono HBU.out.size))
  have HBTX:Hid (Ev.Bt X U.heap.size bv xs):=Lib.hid (Ev.Bt.below HBT.out hb)
  have HQ:=Lib.hid hq
  have hXs:=HBX.out.size
  obtain ⟨⟨b0,b1,b2,b3⟩,-⟩:=hq.k4
  clear hb hq a0 a1 a2 a3
  have hBx:=HBX.out.size
  by_cases d2:k0=2
  ·subst d2
   go_wp2_with (at_builtin;refine wpList_append_one rfl _ _ _ rfl U.heap.size 5 _ _ Tryz.underlying99 info_u8 rfl _ xs.length _ rfl HBTX.out.own _ rfl rfl (by simp only [maxLen];omega) (by omega) (by omega) ?_;intro v' w1 hown1 hb1 hg1;clear hg1)
   go_roundw
   case rel=>exact ⟨k+1,_,by omega,by go_num,rfl,Lib.hid (by rw [HNX.out];exact Ev.Bt.push hown1 rfl (Cd.byte_int k1)),Lib.hid (HBX.out.trans hb1)⟩
   case measure=>simp [intOf];omega
  by_cases d3:k0=3
  ·subst d3
   go_wp2_with fail
   refine (czig_any k1 o1 o2 _).mono ?_
   rintro e wz ⟨rfl,rfl⟩
   go_wp2_with fail
   refine (cputVar_any U.heap.size bv xs (Cd.zz k1) (Cd.zz_lt o1 o2) (by omega) _ HBTX.out hBx).mono ?_
   rintro e w1 ⟨v',rfl,hown1,hb1,-⟩
   go_wp2_with fail
   go_roundw
   case rel=>exact ⟨k+1,_,by omega,by go_num,rfl,Lib.hid (by rw [HNX.out];exact hown1),Lib.hid (HBX.out.trans hb1)⟩
   case measure=>simp [intOf];omega
  by_cases d4:k0=4
  ·subst d4
   have hkl:=(Ev.var_len k2.size).2
   obtain ⟨i0,hi0,hz0,hz1,hz2⟩:=info_parts info_u8
   have hll:(xs++Ev.var k2.size).length≤1000000010:=by rw [List.length_append];omega
   have HW:IntKind.u64.wrap (k2.size:Int)=(k2.size:Int):=by rw [IntKind.wrap_u64];omega
   go_upto_region 14 with (fail)
   have hS:Bk X.drew W.heap.size 71 #[.int .u8 (4:Nat),.int .i64 k1,.string k2,.int .i64 k3]:=HQ.out.drew
   have hbt:Ev.Bt X.drew U.heap.size bv xs:=Ev.Bt.below HBTX.out ((Below.refl _ _).drew)
   have hbu:Below U.heap.size U X.drew:=HBX.out.trans (((Below.refl _ _).drew).mono hBx)
   refine wp_region_L_calm (fun w'=>Bk w' W.heap.size 71 #[.int .u8 (4:Nat),.int .i64 k1,.string k2,.int .i64 k3]) [8] (by kernel_rfl) hS (fun hHeld=>?_)
   clear b0 b1 b2 b3 hS
   generalize X.drew=X1 at *
   have HBT1:=Lib.hid hbt
   have HBU1:=Lib.hid hbu
   have hx1:=hbu.size
   clear hbt hbu
   (refine wpAnyL_take0 0 (v:=?_) rfl (by kernel_rfl) (by kernel_rfl) (by kernel_rfl) (by kernel_rfl) (fun _ _ _ h=>h) (fun _=>by assumption) (by rfl) ?_ ?_;rotate_left;· (intro w;go_simp;try with_reducible rfl);try simp only [Act.put,List.setIfInBounds_toArray,List.set_cons_zero,List.set_cons_succ])
   (refine wpAnyL_take0 1 (v:=?_) rfl (by kernel_rfl) (by kernel_rfl) (by kernel_rfl) (by kernel_rfl) (fun _ _ _ h=>h) (fun _=>by assumption) (by rfl) ?_ ?_;rotate_left;· (intro w;go_simp;try with_reducible rfl);try simp only [Act.put,List.setIfInBounds_toArray,List.set_cons_zero,List.set_cons_succ])
   (refine Lst.takeM 8 2 (v:=?_) rfl (by kernel_rfl) (by kernel_rfl) (by kernel_rfl) (by kernel_rfl) (by kernel_rfl) (by kernel_rfl) (fun _ _ _ h=>h) (by assumption) (by rfl) ?_ ?_;rotate_left;· (intro w hSw;obtain ⟨e0,e1,e2,e3⟩:=(Bk.k4 hSw).1;go_simp;try with_reducible rfl);try simp only [Act.put,List.setIfInBounds_toArray,List.set_cons_zero,List.set_cons_succ])
   (refine wpAnyL_take0 3 (v:=?_) rfl (by kernel_rfl) (by kernel_rfl) (by kernel_rfl) (by kernel_rfl) (fun _ _ _ h=>h) (fun _=>by assumption) (by rfl) ?_ ?_;rotate_left;· (intro w;go_simp;try with_reducible rfl);try simp only [Act.put,List.setIfInBounds_toArray,List.set_cons_zero,List.set_cons_succ])
   (refine wpAnyL_take0 4 (v:=?_) rfl (by kernel_rfl) (by kernel_rfl) (by kernel_rfl) (by kernel_rfl) (fun _ _ _ h=>h) (fun _=>by assumption) (by rfl) ?_ ?_;rotate_left;· (intro w;go_simp;try with_reducible rfl);try simp only [Act.put,List.setIfInBounds_toArray,List.set_cons_zero,List.set_cons_succ])
   (refine wpAnyL_take0 6 (v:=?_) rfl (by kernel_rfl) (by kernel_rfl) (by kernel_rfl) (by kernel_rfl) (fun _ _ _ h=>h) (fun _=>by assumption) (by rfl) ?_ ?_;rotate_left;· (intro w;go_simp;try with_reducible rfl);try simp only [Act.put,List.setIfInBounds_toArray,List.set_cons_zero,List.set_cons_succ])
   (refine Lst.takeM 8 7 (v:=?_) rfl (by kernel_rfl) (by kernel_rfl) (by kernel_rfl) (by kernel_rfl) (by kernel_rfl) (by kernel_rfl) (fun _ _ _ h=>h) (by assumption) (by rfl) ?_ ?_;rotate_left;· (intro w hSw;obtain ⟨e0,e1,e2,e3⟩:=(Bk.k4 hSw).1;go_simp;try with_reducible rfl);try simp only [Act.put,List.setIfInBounds_toArray,List.set_cons_zero,List.set_cons_succ])
   (refine wpAnyL_step 5 (by kernel_rfl) rfl (fun K hK=>?_))
   go_simp
   refine (cputVar_any U.heap.size bv xs k2.size (by omega) (by omega) X1 HBT1.out hx1).mono ?_
   rintro e w1 ⟨v1,rfl,hown1,hb1,hO1⟩
   have hH2:=Only.bk hO1 hHeld (by decide)
   have hbz:=hb1.size
   have HBU2:=Lib.hid (HBU1.out.trans hb1)
   have HOW1:=Lib.hid hown1
   clear hb1 hO1 hHeld hown1
   (refine hK.out _ _ (fun hnn=>hH2) ?_;clear hK K;try simp only [Act.put,List.setIfInBounds_toArray,List.set_cons_zero,List.set_cons_succ])
   (refine wpAnyL_step 8 (by kernel_rfl) rfl (fun K hK=>?_))
   refine step_append_string rfl _ _ 99 9 rfl U.heap.size 5 i0 Tryz.underlying99 Tryz.underlying9 hi0 hz0 hz1 hz2 v1 (xs++Ev.var k2.size).length _ rfl HOW1.out.own k2 rfl (by unfold maxLen;omega) (by omega) (by omega) ?_
   intro v2 w2 h2 hb2
   have HBU3:=Lib.hid (HBU2.out.trans hb2)
   have hfin:Ev.Bt w2 U.heap.size v2 (Cd.encGs (v.take (k+1))):=by
    have h:=Ev.Bt.pushS h2
    rw [HNX.out,show Cd.encG ⟨4,k1,k2,k3⟩=Ev.var k2.size++k2.data.toList from rfl,←List.append_assoc]
    exact h
   have HFN:=Lib.hid hfin
   clear h2 hb2 hfin
   (refine hK.out _ _ (fun hnn=>absurd hnn (by decide)) ?_;clear hK K;try simp only [Act.put,List.setIfInBounds_toArray,List.set_cons_zero,List.set_cons_succ])
   (refine wpAnyL_step 9 (by kernel_rfl) rfl (fun K hK=>?_))
   go_simp
   (refine hK.out _ _ (fun hnn=>absurd hnn (by decide)) ?_;clear hK K;try simp only [Act.put,List.setIfInBounds_toArray,List.set_cons_zero,List.set_cons_succ])
   refine wpAnyL_done (by kernel_rfl) ?_ _
   refine NoPanic.normal ?_
   go_wp2_with fail
   go_roundw
   case rel=>exact ⟨k+1,_,by omega,by go_num,rfl,Lib.hid HFN.out,Lib.hid HBU3.out⟩
   case measure=>simp [intOf];omega
  by_cases d5:k0=5
  ·subst d5
   have hcv:(((k3 % 18446744073709551616).toNat:Nat):Int)=k3 % 18446744073709551616:=by omega
   have hp:=cputVar_any U.heap.size bv xs (k3 % 18446744073709551616).toNat (by omega) (by omega) X HBTX.out hBx
   rw [hcv] at hp
   have HPV:=Lib.hid hp
   clear hp
   go_wp2_with fail
   refine HPV.out.mono ?_
   rintro e w1 ⟨v',rfl,hown1,hb1,-⟩
   go_wp2_with fail
   go_roundw
   case rel=>exact ⟨k+1,_,by omega,by go_num,rfl,Lib.hid (by rw [HNX.out];exact hown1),Lib.hid (HBX.out.trans hb1)⟩
   case measure=>simp [intOf];omega
  by_cases d6:k0=6
  ·subst d6
   go_wp2_with (at_builtin;refine wpList_append_one rfl _ _ _ rfl U.heap.size 5 _ _ Tryz.underlying99 info_u8 rfl _ xs.length _ rfl HBTX.out.own _ rfl rfl (by simp only [maxLen];omega) (by omega) (by omega) ?_;intro v' w1 hown1 hb1 hg1;clear hg1)
   go_roundw
   case rel=>exact ⟨k+1,_,by omega,by go_num,rfl,Lib.hid (by rw [HNX.out];exact Ev.Bt.push hown1 rfl (Cd.byte_int k3)),Lib.hid (HBX.out.trans hb1)⟩
   case measure=>simp [intOf];omega
  by_cases d8:k0=8
  ·subst d8
   have hcv:(((k1 % 18446744073709551616).toNat:Nat):Int)=k1 % 18446744073709551616:=by omega
   have hp:=cputVar_any U.heap.size bv xs (k1 % 18446744073709551616).toNat (by omega) (by omega) X HBTX.out hBx
   rw [hcv] at hp
   have HPV:=Lib.hid hp
   clear hp
   go_wp2_with fail
   refine HPV.out.mono ?_
   rintro e w1 ⟨v',rfl,hown1,hb1,-⟩
   go_wp2_with fail
   go_roundw
   case rel=>exact ⟨k+1,_,by omega,by go_num,rfl,Lib.hid (by rw [HNX.out];exact hown1),Lib.hid (HBX.out.trans hb1)⟩
   case measure=>simp [intOf];omega
  have e2:¬(k0:Int)=2:=by omega
  have e3:¬(k0:Int)=3:=by omega
  have e4:¬(k0:Int)=4:=by omega
  have e5:¬(k0:Int)=5:=by omega
  have e6:¬(k0:Int)=6:=by omega
  have e8:¬(k0:Int)=8:=by omega
  have HE0:Hid (Cd.encGs (v.take (k+1))=xs):=Lib.hid (by rw [HNX.out];unfold Cd.encG;simp only [if_neg d2,if_neg d3,if_neg d4,if_neg d5,if_neg d6,if_neg d8,List.append_nil])
  go_wp2_with fail
  go_roundw
  case rel=>exact ⟨k+1,_,by omega,by go_num,rfl,Lib.hid (by rw [HE0.out];exact HBTX.out),Lib.hid HBX.out⟩
  case measure=>simp [intOf];omega
end
section
open Go.RowKit Go.BigFrame
namespace Cd
open Go.Proofs.YtjfdohhdkdjifaaGreatDoor.Id Go.Proofs.YtjfdohhdkdjifaaGreatDoor.Chk Go.Proofs.YtjfdohhdkdjifaaGreatDoor.Vl Go.Proofs.YtjfdohhdkdjifaaGreatDoor.Ev
/-- Nothing but one block, and cells of parts from a base on, was written; memory may have grown. -/
structure OnlyB (B g:Nat) (w w':World):Prop where
 os:w'.os=w.os
 tape:w'.tape=w.tape
 output:w'.output=w.output
 size:w.heap.size≤w'.heap.size
 block:∀ (i:Nat) (o:Obj),w.heap[i]?=some o→i≠g→(i<B∨∀ (cs:Array Value) (fr:Nat × Nat),o≠Obj.cells cs 71 fr)→w'.heap[i]?=some o
theorem OnlyB.refl (B g:Nat) (w:World):OnlyB B g w w:=⟨rfl,rfl,rfl,Nat.le_refl _,fun _ _ h _ _=>h⟩
theorem OnlyB.trans {B g:Nat} {a b c:World} (h:OnlyB B g a b) (k:OnlyB B g b c):OnlyB B g a c:=⟨k.os.trans h.os,k.tape.trans h.tape,k.output.trans h.output,Nat.le_trans h.size k.size,fun i o hg hi hn=>k.block i o (h.block i o hg hi hn) hi hn⟩
theorem OnlyB.gb {B g:Nat} {w w':World} (h:w.grownBy w' (some g)):OnlyB B g w w':=⟨h.os,h.tape,h.output,h.size,fun i o hg hi _=>(h.block i (Array.getElem?_eq_some_iff.1 hg).1 (by intro e;injection e with e;exact hi e)).trans hg⟩
theorem OnlyB.below {B g:Nat} {w w':World} (h:Below w.heap.size w w'):OnlyB B g w w':=⟨h.os,h.tape,h.output,h.size,fun i o hg _ _=>(h.block i (Array.getElem?_eq_some_iff.1 hg).1).trans hg⟩
theorem OnlyB.only {B g:Nat} {w w':World} (hb:Below B w w') (h:Only 71 w w'):OnlyB B g w w':=⟨h.os,h.tape,h.output,h.size,fun i o hg _ hn=>by
 rcases hn with hn | hn
 ·exact (hb.block i hn).trans hg
 ·exact h.block i o hg hn⟩
theorem OnlyB.bk {B g i:Nat} {w w':World} {t:TypeId} {cs:Array Value} (h:OnlyB B g w w') (hb:Bk w i t cs) (hi:i≠g) (ht:t≠71):Bk w' i t cs:=h.block i _ hb hi (.inr fun cs' fr' e'=>by injection e' with _ e2;exact ht e2)
theorem OnlyB.bel {B g:Nat} {w w':World} (h:OnlyB B g w w') (hg:B≤g) (hB:B≤w.heap.size):Below B w w' :=
 ⟨h.os,h.tape,h.output,h.size,fun i hi=>by
  have hl:i<w.heap.size:=Nat.lt_of_lt_of_le hi hB
  rw [Array.getElem?_eq_getElem hl]
  exact h.block i _ (Array.getElem?_eq_getElem hl) (by omega) (.inl hi)⟩
theorem OnlyB.kp {B g base:Nat} {T:List TypeId} {w w':World} {cs:Array Value} (h:OnlyB B g w w') (hg:Bk w g 97 cs) (h1:97 ∉ T) (h2:71 ∉ T):Kp base T w w':=fun i cs' t _ ht hi=>h.block i _ hi (by
  rintro rfl
  have e:=(show w.heap[i]?=some (.cells cs 97 (0,0)) from hg).symm.trans hi
  injection e with e
  injection e with _ e
  exact h1 (e ▸ ht)) (.inr fun cs'' fr e=>by injection e with _ e;exact h2 (e ▸ ht))
/-- A fault that a reader gives up with. -/
def pan (at_ e:Nat):Ending:=.panicked [{ v:=.iface 93 (.agg #[.int .i64 (at_:Nat),.int .i64 (e:Nat)]),recovered:=false }]
abbrev rcells (q0 q1 q2 q3:Value) (bb:ByteArray) (x:S) (vv:Value):Array Value:=#[q0,q1,q2,q3,.string bb,.int .i64 (x.at_:Nat),vv,.int .i64 (x.sz:Nat)]
structure Rdr (q0 q1 q2 q3:Value) (bb:ByteArray) (w0 w:World) (g:Nat) (x:S) (vv:Value):Prop where
 bel:Below w0.heap.size w0 w
 lo:w0.heap.size≤g
 box:Bk w g 97 (rcells q0 q1 q2 q3 bb x vv)
 row:Vl.ValR w (some w0.heap.size) vv x.v
 ha:x.at_≤bb.size
 hv:x.v.length≤4096
 hz:x.sz≤4096
section
variable {q0 q1 q2 q3 vv : Value} {bb : ByteArray} {w0 w w' : World} {g : Nat} {x : S}
theorem valR_below {b:Nat} {l:List Vl.Node} (h:Vl.ValR w (some b) vv l) (hb:Below w.heap.size w w'):Vl.ValR w' (some b) vv l:=ERow.below (show ERow w (some b) 71 4 Vl.NodE vv l from h) hb (fun _ _ h=>h)
theorem Rdr.below (h:Rdr q0 q1 q2 q3 bb w0 w g x vv) (hb:Below w.heap.size w w'):Rdr q0 q1 q2 q3 bb w0 w' g x vv :=
 ⟨h.bel.trans (hb.mono h.bel.size),h.lo,h.box.below hb h.box.lt,valR_below h.row hb,h.ha,h.hv,h.hz⟩
theorem valR_set {b:Nat} {l:List Vl.Node} {cs:Array Value} (h:Vl.ValR w (some b) vv l) (hg:Bk w g 97 cs) (j:Nat) (u:Value):Vl.ValR (w.setCell ⟨g,j,none⟩ u) (some b) vv l :=
 ERow.kp (T:=[71]) (show ERow w (some b) 71 4 Vl.NodE vv l from h) (Only.kp (Only.set hg j u) b (by decide)) (Nat.le_refl _) (by decide) (fun _ _ h=>h)
theorem Rdr.at_ (h:Rdr q0 q1 q2 q3 bb w0 w g x vv) (p:Nat) (hp:p≤bb.size):Rdr q0 q1 q2 q3 bb w0 (w.setCell ⟨g,5,none⟩ (.int .i64 (p:Nat))) g ⟨p,x.v,x.sz⟩ vv :=
 ⟨h.bel.setCell (p:=⟨g,5,none⟩) h.lo _,h.lo,h.box.set_ 5 _,valR_set h.row h.box 5 _,hp,h.hv,h.hz⟩
theorem Rdr.size_ (h:Rdr q0 q1 q2 q3 bb w0 w g x vv) (z:Nat) (hz:z≤4096):Rdr q0 q1 q2 q3 bb w0 (w.setCell ⟨g,7,none⟩ (.int .i64 (z:Nat))) g ⟨x.at_,x.v,z⟩ vv :=
 ⟨h.bel.setCell (p:=⟨g,7,none⟩) h.lo _,h.lo,h.box.set_ 7 _,valR_set h.row h.box 7 _,h.ha,h.hv,hz⟩
theorem Rdr.drew (h:Rdr q0 q1 q2 q3 bb w0 w g x vv):Rdr q0 q1 q2 q3 bb w0 w.drew g x vv:=h.below (Below.drew (Below.refl _ _))
/-- A part appended, then laid into the block. -/
theorem Rdr.row_ (h:Rdr q0 q1 q2 q3 bb w0 w g x vv) {w':World} {v':Value} {l:List Vl.Node} (hb:Below w0.heap.size w w') (ho:Only 71 w w') (hr:Vl.ValR w' (some w0.heap.size) v' l) (hl:l.length≤4096) :
  Rdr q0 q1 q2 q3 bb w0 (w'.setCell ⟨g,6,none⟩ v') g ⟨x.at_,l,x.sz⟩ v':=by
 have hbx:=ho.bk h.box (by decide)
 exact ⟨(h.bel.trans hb).setCell (p:=⟨g,6,none⟩) h.lo _,h.lo,hbx.set_ 6 _,valR_set hr hbx 6 _,h.ha,hl,h.hz⟩
/-- A type's row that no reading changes. -/
def Sts (B g:Nat) (w:World) (tv:Value) (t:List Srt):Prop:=∀ w',OnlyB B g w w'→SortsR w' none tv t
theorem Sts.now {B:Nat} {tv:Value} {t:List Srt} (h:Sts B g w tv t):SortsR w none tv t:=h w (OnlyB.refl _ _ _)
theorem Sts.next {B:Nat} {tv:Value} {t:List Srt} (h:Sts B g w tv t) (k:OnlyB B g w w'):Sts B g w' tv t:=fun w2 h2=>h w2 (k.trans h2)
theorem Sts.old {tv:Value} {t:List Srt} (h:SortsR w0 none tv t) (hb:Below w0.heap.size w0 w) (hg:w0.heap.size≤g):Sts w0.heap.size g w tv t:=fun w' k=>ERow.below h (hb.trans (k.bel hg hb.size)) (fun _ _ h=>h)
theorem Sts.own {B b:Nat} {tv:Value} {t:List Srt} {cs:Array Value} (h:SortsR w (some b) tv t) (hg:Bk w g 97 cs):Sts B g w tv t:=fun w' k =>
 ERow.mono (ERow.kp (T:=[44]) h (k.kp hg (by decide) (by decide)) (Nat.le_refl _) (by decide) (fun _ _ h=>h)) (fun _ _ hr=>hr.weak (wk_none _)) (fun _ _ h=>h)
theorem flds_only {B b:Nat} {u:Value} {l:List Fld} {cs:Array Value} (h:FldsR w (some b) u l) (k:OnlyB B g w w') (hg:Bk w g 97 cs):FldsR w' (some b) u l:=by
 have hk:Kp b [125,44] w w':=k.kp hg (by decide) (by decide)
 refine ERow.kp h hk (Nat.le_refl _) (by decide) (fun cs x he=>?_)
 obtain ⟨u',e,hs⟩:=he
 exact ⟨u',e,ERow.kp hs hk (Nat.le_refl _) (by decide) (fun _ _ h=>h)⟩
end
end Cd
end
section
open Go.RowKit
namespace Ev
theorem and127 (c:Nat) (hc:c<256):bits .and .u8 (c:Int) 127=((c % 128:Nat):Int):=by
 have h:=u8_and_nat c 127 hc (by omega)
 have e:∀ z,z<256→z &&& 127=z % 128:=by decide +kernel
 rw [e c hc] at h
 exact h
theorem acc_or {a c k:Nat} (ha:a<18446744073709551616) (hc:c<256) :
  bits .or .u64 (a:Int) (IntKind.u64.wrap (IntKind.u64.wrap (bits .and .u8 (c:Int) 127) * 2 ^ (7 * k)))=((a ||| (c % 128 * 2 ^ (7 * k) % 18446744073709551616):Nat):Int):=by
 rw [and127 c hc]
 have e1:IntKind.u64.wrap ((c % 128:Nat):Int)=((c % 128:Nat):Int):=by rw [IntKind.wrap_u64];omega
 have e2:IntKind.u64.wrap (((c % 128:Nat):Int) * 2 ^ (7 * k))=((c % 128 * 2 ^ (7 * k) % 18446744073709551616:Nat):Int):=by
  rw [IntKind.wrap_u64,show ((2:Int) ^ (7 * k))=((2 ^ (7 * k):Nat):Int) from by rw [Int.natCast_pow];rfl,←Int.natCast_mul]
  rfl
 rw [e1,e2]
 exact u64_or_nat a _ ha (Nat.mod_lt _ (by decide))
end Ev
end
section
open Go.RowKit Go.BigFrame
set_option maxRecDepth 100000 in
theorem cfail_any (at_ e:Nat) (w:World):Calls Tryz.prog 105 #[.int .i64 at_,.int .i64 e] w fun en w'=>en=Cd.pan at_ e∧w'=w:=by
 go_enter Tryz.func105,Tryz.ntmps105
 go_wp2_with fail
 exact ⟨rfl,rfl,rfl⟩
namespace Cd
open Go.Proofs.YtjfdohhdkdjifaaGreatDoor.Id Go.Proofs.YtjfdohhdkdjifaaGreatDoor.Chk Go.Proofs.YtjfdohhdkdjifaaGreatDoor.Vl Go.Proofs.YtjfdohhdkdjifaaGreatDoor.Ev
/-- What one reading of a number, a bit, a byte leaves. -/
def NumP (k:IntKind) (q0 q1 q2 q3:Value) (bb:ByteArray) (w0 w:World) (g:Nat) (x:S) (vv:Value) (R:Rs (Nat × Nat)) (e:Ending) (w':World):Prop:=match R with
 | .ok q=>e=.returned (.int k (q.1:Nat))∧w.grownBy w' (some g)∧Rdr q0 q1 q2 q3 bb w0 w' g ⟨q.2,x.v,x.sz⟩ vv
 | .error p=>e=pan p.1 p.2∧Below w0.heap.size w0 w'
def oneP (b:List UInt8) (p:Nat):Rs (Nat × Nat):=if p<b.length then .ok ((b.getD p 0).toNat,p+1) else .error (b.length,160)
end Cd
set_option maxRecDepth 100000 in
set_option maxHeartbeats 4000000 in
theorem cone_any (q0 q1 q2 q3:Value) (bb:ByteArray) (w0 w:World) (g:Nat) (x:Cd.S) (vv:Value) (hb:bb.size≤1000000) (hr:Cd.Rdr q0 q1 q2 q3 bb w0 w g x vv) :
  Calls Tryz.prog 157 #[.pointer (some ⟨g,0,none⟩)] w fun e w'=>Cd.NumP .u8 q0 q1 q2 q3 bb w0 w g x vv (Cd.oneP bb.data.toList x.at_) e w':=by
 obtain ⟨R,HR⟩:∃ R,Hid (Cd.oneP bb.data.toList x.at_=R):=⟨_,Lib.hid rfl⟩
 rw [HR.out]
 have HRD:=Lib.hid hr
 obtain ⟨p,v,z⟩:=x
 obtain ⟨⟨c0,c1,c2,c3,c4,c5,c6,c7⟩,f0,f1,f2,f3,f4,f5,f6,f7⟩:=hr.box.k8
 have hp:p≤bb.size:=hr.ha
 have ip0:(0:Int)≤(p:Int):=by omega
 simp only at c5 c7
 unfold Cd.oneP at HR
 have hbl:bb.data.toList.length=bb.size:=by simp
 clear hr
 by_cases hlt:p<bb.size
 case neg =>
  have HE:Hid (R=.error (bb.size,160)):=Lib.hid (by rw [←HR.out,if_neg (by rw [hbl];exact hlt),hbl])
  have h1:(bb.size:Int)≤(p:Int):=by omega
  have h2:bb.size≤p:=by omega
  obtain rfl:=HE.out
  clear HR hbl HE
  go_enter Tryz.func157,Tryz.ntmps157
  go_wp2_with fail
  go_quiet (fail)
  go_wp2_with fail
  refine (cfail_any bb.size 160 _).mono ?_
  rintro e w1 ⟨rfl,rfl⟩
  unfold Cd.pan
  go_wp2_with fail
  exact ⟨rfl,rfl,below_drewN HRD.out.bel nq⟩
 have HE:Hid (R=.ok ((bb.data.toList.getD p 0).toNat,p+1)):=Lib.hid (by rw [←HR.out,if_pos (by rw [hbl];exact hlt)])
 have h1:¬(bb.size:Int)≤(p:Int):=by omega
 have h2:¬bb.size≤p:=by omega
 have h3:IntKind.i64.wrap ((p:Int)+1)=(p:Int)+1:=by rw [IntKind.wrap_i64];omega
 have h4:(p:Int)+1 - 1=(p:Int):=by omega
 have h5:(p:Int)<(bb.size:Int):=by omega
 have HBY:=Lib.hid (Sm.getD_byte bb p hlt)
 obtain rfl:=HE.out
 clear HR hbl HE
 go_enter Tryz.func157,Tryz.ntmps157
 go_wp2_with fail
 go_quiet (fail)
 go_upto_region 4 with (fail)
 refine wp_named (fun V hV=>?_)
 have hrV:Cd.Rdr q0 q1 q2 q3 bb w0 V g ⟨p+1,v,z⟩ vv:=by
  have h:=(HRD.out.below (below_drewN (Below.refl _ _) nq)).at_ (p+1) (by omega)
  rw [hV]
  exact h
 have hgV:w.grownBy V (some g):=by rw [hV];exact gb_set (gb_below (below_drewN (Below.refl _ _) nq) _) (.inl rfl) _
 clear hV c0 c1 c2 c3 c4 c5 c6 c7 f0 f1 f2 f3 f4 f5 f6 f7 HRD
 have HRV:=Lib.hid hrV
 have HGV:=Lib.hid hgV
 obtain ⟨⟨c0,c1,c2,c3,c4,c5,c6,c7⟩,-⟩:=hrV.box.k8
 simp only at c5
 have h6:(((p+1:Nat):Int))=(p:Int)+1:=by omega
 rw [h6] at c5
 clear hrV hgV
 go_quiet (fail)
 go_wp2_with fail
 go_ret
 refine ⟨?_,gb_drewN HGV.out _,HRV.out.below (below_drewN (Below.refl _ _) _)⟩
 rfl
namespace Cd
open Go.Proofs.YtjfdohhdkdjifaaGreatDoor.Ev
theorem nmF_go {l:List UInt8} {i:Nat} (h10:i<10) (hi:i<l.length) {c:Nat} (hc:(l.getD i 0).toNat=c) (h:¬(i=9∧1<c)) (h2:128≤c):nmF l (10 - i) i=nmF l (10 - (i+1)) (i+1):=by
 obtain ⟨f,hf⟩:∃ f,10 - i=f+1:=⟨9 - i,by omega⟩
 rw [hf,nmF,if_pos hi,hc,if_neg h,if_neg (by omega),show 10 - (i+1)=f by omega]
theorem nmF_bad {l:List UInt8} {i:Nat} (h10:i<10) (hi:i<l.length) {c:Nat} (hc:(l.getD i 0).toNat=c) (h:i=9∧1<c):nmF l (10 - i) i=.error true:=by
 obtain ⟨f,hf⟩:∃ f,10 - i=f+1:=⟨9 - i,by omega⟩
 rw [hf,nmF,if_pos hi,hc,if_pos h]
theorem nmF_zero {l:List UInt8} {i:Nat} (h10:i<10) (hi:i<l.length) {c:Nat} (hc:(l.getD i 0).toNat=c) (h:c=0∧0<i):nmF l (10 - i) i=.error true:=by
 obtain ⟨f,hf⟩:∃ f,10 - i=f+1:=⟨9 - i,by omega⟩
 rw [hf,nmF,if_pos hi,hc,if_neg (by omega),if_pos (by omega),if_pos h]
theorem nmF_end {l:List UInt8} {i:Nat} (h10:i<10) (hi:i<l.length) {c:Nat} (hc:(l.getD i 0).toNat=c) (h:¬(i=9∧1<c)) (h1:c<128) (h2:¬(c=0∧0<i)):nmF l (10 - i) i=.ok (acc l (i+1),i+1):=by
 obtain ⟨f,hf⟩:∃ f,10 - i=f+1:=⟨9 - i,by omega⟩
 rw [hf,nmF,if_pos hi,hc,if_neg h,if_pos h1,if_neg h2]
theorem nmF_few {l:List UInt8} {i:Nat} (h10:i<10) (hi:¬i<l.length):nmF l (10 - i) i=.error false:=by
 obtain ⟨f,hf⟩:∃ f,10 - i=f+1:=⟨9 - i,by omega⟩
 rw [hf,nmF,if_neg hi]
theorem num_ok' {b:List UInt8} {p u j:Nat} (h:nmF (b.drop p) 10 0=.ok (u,j)):num b p=.ok (u,p+j):=by unfold num;rw [h]
theorem num_bad {b:List UInt8} {p:Nat} (h:nmF (b.drop p) 10 0=.error true):num b p=.error (p,162):=by unfold num;rw [h]
theorem num_few {b:List UInt8} {p:Nat} (h:nmF (b.drop p) 10 0=.error false):num b p=.error (b.length,160):=by unfold num;rw [h]
end Cd
set_option maxRecDepth 100000 in
set_option maxHeartbeats 4000000 in
theorem cbit_any (q0 q1 q2 q3:Value) (bb:ByteArray) (w0 w:World) (g:Nat) (x:Cd.S) (vv:Value) (hb:bb.size≤1000000) (hr:Cd.Rdr q0 q1 q2 q3 bb w0 w g x vv) :
  Calls Tryz.prog 107 #[.pointer (some ⟨g,0,none⟩)] w fun e w'=>Cd.NumP .i64 q0 q1 q2 q3 bb w0 w g x vv (Cd.bit bb.data.toList x.at_) e w':=by
 obtain ⟨R,HR⟩:∃ R,Hid (Cd.bit bb.data.toList x.at_=R):=⟨_,Lib.hid rfl⟩
 rw [HR.out]
 have HRD:=Lib.hid hr
 obtain ⟨p,v,z⟩:=x
 obtain ⟨⟨c0,c1,c2,c3,c4,c5,c6,c7⟩,-⟩:=hr.box.k8
 simp only at c5 c7
 unfold Cd.bit at HR
 clear hr
 go_enter Tryz.func107,Tryz.ntmps107
 go_wp2_with fail
 obtain ⟨O,HO⟩:∃ O,Hid (Cd.oneP bb.data.toList p=O):=⟨_,Lib.hid rfl⟩
 refine (cone_any q0 q1 q2 q3 bb w0 w g ⟨p,v,z⟩ vv hb HRD.out).mono ?_
 try simp only
 rw [HO.out]
 have HO2:=HO.out
 unfold Cd.oneP at HO2
 have HO3:=Lib.hid HO2
 clear HO2
 by_cases hlt:p<bb.data.toList.length
 case neg =>
  have e1:O=.error (bb.data.toList.length,160):=by rw [←HO3.out,if_neg hlt]
  have e2:R=.error (bb.data.toList.length,160):=by rw [←HR.out,if_neg hlt]
  subst e1 e2
  rintro e w1 ⟨rfl,hb1⟩
  unfold Cd.pan
  go_wp2_with fail
  exact ⟨rfl,rfl,hb1⟩
 have HRR:Hid ((if 1<(bb.data.toList.getD p 0).toNat then (.error (p,162):Cd.Rs (Nat × Nat)) else .ok ((bb.data.toList.getD p 0).toNat,p+1))=R):=Lib.hid (by rw [←HR.out,if_pos hlt])
 have e1:O=.ok ((bb.data.toList.getD p 0).toNat,p+1):=by rw [←HO3.out,if_pos hlt]
 subst e1
 have hc8:=(bb.data.toList.getD p 0).toNat_lt
 generalize (bb.data.toList.getD p 0).toNat=cc at *
 clear HR HO3 HO
 rintro e w1 ⟨rfl,hg1,hr1⟩
 simp only at hr1 ⊢
 have HG1:=Lib.hid hg1
 have HR1:=Lib.hid hr1
 clear hg1 hr1 HRD c0 c1 c2 c3 c4 c5 c6 c7
 by_cases h1:1<cc
 case pos =>
  have e2:R=.error (p,162):=by rw [←HRR.out,if_pos h1]
  subst e2
  go_wp2_with fail
  refine (cfail_any p 162 _).mono ?_
  rintro e w2 ⟨rfl,rfl⟩
  unfold Cd.pan
  go_wp2_with fail
  exact ⟨rfl,rfl,HR1.out.bel⟩
 have e2:R=.ok (cc,p+1):=by rw [←HRR.out,if_neg h1]
 subst e2
 go_wp2_with fail
 go_ret
 exact ⟨rfl,HG1.out,HR1.out⟩
set_option maxRecDepth 100000 in
set_option maxHeartbeats 8000000 in
theorem cnumber_any (q0 q1 q2 q3:Value) (bb:ByteArray) (w0 w:World) (g:Nat) (x:Cd.S) (vv:Value) (hb:bb.size≤1000000) (hr:Cd.Rdr q0 q1 q2 q3 bb w0 w g x vv) :
  Calls Tryz.prog 109 #[.pointer (some ⟨g,0,none⟩)] w fun e w'=>Cd.NumP .u64 q0 q1 q2 q3 bb w0 w g x vv (Cd.num bb.data.toList x.at_) e w':=by
 obtain ⟨R,HR⟩:∃ R,Hid (Cd.num bb.data.toList x.at_=R):=⟨_,Lib.hid rfl⟩
 rw [HR.out]
 have HRD:=Lib.hid hr
 obtain ⟨p,v,z⟩:=x
 have hp:p≤bb.size:=hr.ha
 obtain ⟨⟨c0,c1,c2,c3,c4,c5,c6,c7⟩,-⟩:=hr.box.k8
 simp only at c5 c7 HR
 clear hr
 obtain ⟨L,HL⟩:∃ L,Hid (bb.data.toList.drop p=L):=⟨_,Lib.hid rfl⟩
 have hLl:L.length=bb.size - p:=by rw [←HL.out,List.length_drop];simp
 have HLL:=Lib.hid hLl
 clear hLl
 go_enter Tryz.func109,Tryz.ntmps109
 go_wp2_with fail
 go_loopw [4,5] (fun u i wr=>∃ k:Nat,k<10∧p+k≤bb.size∧i=.int .i64 k∧u=.int .u64 (Ev.acc L k)∧Hid (Cd.nmF L 10 0=Cd.nmF L (10 - k) k)∧Hid (w.grownBy wr (some g))∧Hid (Cd.Rdr q0 q1 q2 q3 bb w0 wr g ⟨p+k,v,z⟩ vv)) (fun _ i _=>10 - (intOf i).toNat)
 case atStart=>exact ⟨0,by omega,by omega,rfl,rfl,Lib.hid rfl,Lib.hid (gb_refl _ _),HRD⟩
 case round =>
  obtain ⟨k,h10,hpk,rfl,rfl,HF,HG,HRW⟩:=hrel
  obtain ⟨W,rfl⟩:∃ w',w'=wr:=⟨_,rfl⟩
  clear c0 c1 c2 c3 c4 c5 c6 c7 HRD
  obtain ⟨O,HO⟩:∃ O,Hid (Cd.oneP bb.data.toList (p+k)=O):=⟨_,Lib.hid rfl⟩
  go_wp2_with fail
  refine (cone_any q0 q1 q2 q3 bb w0 W g ⟨p+k,v,z⟩ vv hb HRW.out).mono ?_
  try simp only
  rw [HO.out]
  have hbl:bb.data.toList.length=bb.size:=by simp
  have HGD:Hid (bb.data.toList.getD (p+k) 0=L.getD k 0):=Lib.hid (by rw [←HL.out,List.getD_eq_getElem?_getD,List.getD_eq_getElem?_getD,List.getElem?_drop])
  by_cases hlt:k<L.length
  case neg =>
   have hn:¬p+k<bb.data.toList.length:=by have:=HLL.out;omega
   have e1:O=.error (bb.data.toList.length,160):=by rw [←HO.out];unfold Cd.oneP;rw [if_neg hn]
   have e2:R=.error (bb.data.toList.length,160):=by rw [←HR.out];exact Cd.num_few (by rw [HL.out,HF.out];exact Cd.nmF_few h10 hlt)
   subst e1 e2
   rintro e w1 ⟨rfl,hb1⟩
   unfold Cd.pan
   go_wp2_with fail
   exact ⟨rfl,rfl,hb1⟩
  have hn:p+k<bb.data.toList.length:=by have:=HLL.out;omega
  have hcc:=(L.getD k 0).toNat_lt
  obtain ⟨c,HC⟩:∃ c,Hid ((L.getD k 0).toNat=c):=⟨_,Lib.hid rfl⟩
  rw [HC.out] at hcc
  have e1:O=.ok (c,p+k+1):=by rw [←HO.out];unfold Cd.oneP;rw [if_pos hn,HGD.out,HC.out]
  subst e1
  have hal:=Ev.acc_lt L k
  have HA:=Lib.hid (Ev.acc_or (k:=k) hal hcc)
  have HAS:Hid (Ev.acc L (k+1)=Ev.acc L k ||| (c % 128 * 2 ^ (7 * k) % 18446744073709551616)):=Lib.hid (by rw [←HC.out];rfl)
  have HBAD:=Lib.hid (Cd.nmF_bad h10 hlt HC.out)
  have HZERO:=Lib.hid (Cd.nmF_zero h10 hlt HC.out)
  have HEND:=Lib.hid (Cd.nmF_end h10 hlt HC.out)
  have HGO:=Lib.hid (Cd.nmF_go h10 hlt HC.out)
  clear HO HGD hn
  rintro e w1 ⟨rfl,hg1,hr1⟩
  simp only at hr1 ⊢
  have HG1:=Lib.hid (gb_trans HG.out hg1)
  have HR1:=Lib.hid hr1
  clear hg1 hr1 HRW
  by_cases h9:k=9∧1<c
  case pos =>
   have e2:R=.error (p,162):=by rw [←HR.out];exact Cd.num_bad (by rw [HL.out,HF.out];exact HBAD.out h9)
   obtain ⟨rfl,hc1⟩:=h9
   subst e2
   go_wp2_with fail
   refine (cfail_any p 162 _).mono ?_
   rintro e w2 ⟨rfl,rfl⟩
   unfold Cd.pan
   go_wp2_with fail
   exact ⟨rfl,rfl,HR1.out.bel⟩
  have hc256:c<256:=by simpa using hcc
  have hwk:IntKind.i64.wrap (7 * (k:Int))=7 * (k:Int):=by rw [IntKind.wrap_i64];omega
  have hk0:(0:Int)≤7 * (k:Int):=by omega
  have HW1:Hid (IntKind.i64.wrap ((k:Int)+1)=(k:Int)+1):=Lib.hid (by rw [IntKind.wrap_i64];omega)
  by_cases h128:c<128
  case neg =>
   have h98:¬((k:Int)=9)∨¬(1<(c:Int)):=by omega
   have hk9:k<9:=by omega
   have hi9:¬(k:Int)=9:=by omega
   have hi9':((k:Int)==9)=false:=beq_eq_false_iff_ne.2 hi9
   have hi1:¬(c:Int)<128:=by omega
   have HF2:=HGO.out h9 (by omega)
   have HF3:=Lib.hid HF2
   clear HF2 HBAD HZERO HEND HGO HC hcc
   go_wp2_with fail
   go_roundw
   case rel=>exact ⟨k+1,by omega,by have:=HR1.out.ha;simp only at this;omega,by go_num,by rw [HAS.out,←HA.out],Lib.hid (by rw [HF.out,HF3.out]),HG1,HR1⟩
   case measure=>simp [intOf];omega
  have hi1:(c:Int)<128:=by omega
  by_cases hz:c=0∧0<k
  case pos =>
   have e2:R=.error (p,162):=by rw [←HR.out];exact Cd.num_bad (by rw [HL.out,HF.out];exact HZERO.out hz)
   obtain ⟨rfl,hk1⟩:=hz
   have hi9:(0:Int)<(k:Int):=by omega
   subst e2
   clear HBAD HZERO HEND HGO HC hcc h9
   simp only [Int.cast_ofNat_Int] at *
   go_wp2_with fail
   all_goals
    refine (cfail_any p 162 _).mono ?_
    rintro e w2 ⟨rfl,rfl⟩
    unfold Cd.pan
    go_wp2_with fail
    exact ⟨rfl,rfl,HR1.out.bel⟩
  have e2:R=.ok (Ev.acc L (k+1),p+(k+1)):=by rw [←HR.out];exact Cd.num_ok' (by rw [HL.out,HF.out];exact HEND.out h9 h128 hz)
  subst e2
  clear HBAD HZERO HEND HGO HC hcc
  by_cases hk9:k=9
  case neg =>
   have hi9:¬(k:Int)=9:=by omega
   go_wp2_with fail
   all_goals
    go_ret
    refine ⟨?_,HG1.out,HR1.out⟩
    first
     | (rw [HAS.out,←HA.out];rfl)
     | (obtain rfl:c=0:=(by assumption);rw [HAS.out,←HA.out];rfl)
  subst hk9
  have e9:((2:Int) ^ (7 * 9))=9223372036854775808:=by decide +kernel
  have h:=HA.out
  rw [e9] at h
  have HA9:=Lib.hid h
  have hz9:¬c=0:=by omega
  have hc1:¬1<c:=by omega
  clear h e9 hwk hk0 HW1
  go_wp2_with fail
  go_ret
  refine ⟨?_,HG1.out,HR1.out⟩
  show Ending.returned (Value.int .u64 (bits .or .u64 (Ev.acc L 9:Nat) (IntKind.u64.wrap (IntKind.u64.wrap (bits .and .u8 (c:Nat) 127) * 9223372036854775808))))=_
  rw [HA9.out,HAS.out]
end
end Go.Proofs.YtjfdohhdkdjifaaGreatDoor
