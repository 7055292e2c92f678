/- sagadef: Cancel, Call. No condition but the keywords' table and the ones the theorems state. -/
import Derived.Test.YtogijkhenihaaaaGreatDoorGP20
import Derived.Test.YtogijkhenihaaaaGreatDoorGP04
import Derived.Test.YtogijkhenihaaaaGreatDoorGP18
import Derived.Test.YtogijkhenihaaaaGreatDoorGP16
import Derived.Lib.AppendStr
import Derived.Laws.Bits64
import Derived.Laws.BitsAllLaws
import Derived.Laws.BitsLemmas
set_option linter.unusedVariables false
set_option linter.unusedSimpArgs false
namespace Go.Proofs.YtogijkhenihaaaaGreatDoor
open Go.RowKit Go.BigFrame
namespace Sd
open Go.Proofs.YtogijkhenihaaaaGreatDoor.Id Go.Proofs.YtogijkhenihaaaaGreatDoor.Chk Go.Proofs.YtogijkhenihaaaaGreatDoor.Ev
theorem cancel_of {x:Sch} {g id:ByteArray} {i fr:Int}:cancel x g id i fr=if (letter x g id i fr).2=0 then ({ (letter x g id i fr).1 with kind:=3 },0) else letter x g id i fr:=by
 unfold cancel letter
 by_cases h:letE x g id i fr=0
 ·simp [h]
 ·rw [if_pos h,if_pos h,if_neg h]
theorem call_of {x:Sch} {g id:ByteArray} {i fr:Int} {back:Bool} {body:ByteArray}:call x g id i back fr body =
  if (letter x g id i fr).2≠0 then (Letter.zero,(letter x g id i fr).2)
  else if back=false then ({ (letter x g id i fr).1 with kind:=1,body:=body },0)
  else if (undoOf x (letter x g id i fr).1).toList.isEmpty=true then (Letter.zero,133)
  else ({ (letter x g id i fr).1 with kind:=1,body:=body,mth:=undoOf x (letter x g id i fr).1,key:=keyB id i true },0):=by
 unfold call letter
 by_cases h:letE x g id i fr=0
 ·simp [h]
 ·simp [h]
end Sd
set_option maxRecDepth 100000 in
set_option maxHeartbeats 16000000 in
theorem scancel_any (sv:Value) (x:Id.Sch) (hF:Chk.Fine x) (g id:ByteArray) (hid:id.size≤100000) (i fr:Int) (w:World) (hk:Tk.KW w) (hv:Id.SchV w none sv x) :
  Calls Tryz.prog 80 #[sv,.string g,.string id,.int .i64 i,.int .i64 fr] w fun e w'=>e=.returned (.tuple #[(Sd.cancel x g id i fr).1.val,.int .i64 ((Sd.cancel x g id i fr).2:Nat)])∧Below w.heap.size w w':=by
 have hlo:=fun W k v=>sletter_any sv x hF g id hid i fr W k v
 obtain ⟨R,HR⟩:∃ R,Hid (Sd.cancel x g id i fr=R):=⟨_,Lib.hid rfl⟩
 rw [HR.out]
 rw [Sd.cancel_of] at HR
 obtain ⟨⟨⟨k0,k1,k2,k3,k4,k5,k6,k7,k8,k9⟩,E⟩,HG⟩:∃ G,Hid (Sd.letter x g id i fr=G):=⟨_,Lib.hid rfl⟩
 rw [HG.out] at HR
 simp only [HG.out,Ev.Letter.val] at hlo
 have HFO:=Lib.hid hlo
 clear hlo
 have HKW:=Lib.hid hk
 have HV:=Lib.hid hv
 obtain ⟨A1,n1,c1,A2,n2,c2,A3,n3,c3,rfl,-,-,-⟩:=hv
 clear hk
 go_enter Tryz.func80,Tryz.ntmps80
 go_upto_region 1 with (fail)
 refine wp_named (fun V hV=>?_)
 have HL:Hid (Chk.Lx w V #[.string x.name,.slice A1 n1 c1,.slice A2 n2 c2,.slice A3 n3 c3]):=Lib.hid (by subst hV;exact ⟨((Below.refl _ _).alloc (Nat.le_refl _) _).alloc (by simp) _,(Bk.new w _ _).alloc _⟩)
 have HQ:Hid (Bk V (w.heap.size+1) 56 #[.int .u8 0,.int .i64 0,.int .i64 0,.int .u64 0,.string ⟨#[]⟩,.int .u64 0,.string ⟨#[]⟩,.string ⟨#[]⟩,.int .i64 0,.string ⟨#[]⟩]):=Lib.hid (by subst hV;have h:=Bk.new (w.alloc (.cells #[.string x.name,.slice A1 n1 c1,.slice A2 n2 c2,.slice A3 n3 c3] 28)) 56 #[.int .u8 0,.int .i64 0,.int .i64 0,.int .u64 0,.string ⟨#[]⟩,.int .u64 0,.string ⟨#[]⟩,.string ⟨#[]⟩,.int .i64 0,.string ⟨#[]⟩];rw [World.size_alloc] at h;exact h)
 clear hV
 obtain ⟨⟨q0,q1,q2,q3⟩,-⟩:=HL.out.box.k4
 go_wp2_with fail
 refine (HFO.out _ (HKW.out.below HL.out.bel) (Id.SchV.below HL.out.bel HV.out)).mono ?_
 rintro e W1 ⟨rfl,hb⟩
 have HB1:=Lib.hid (HL.out.below hb).bel
 have HQ1:=Lib.hid (HQ.out.below hb HQ.out.lt)
 clear hb q0 q1 q2 q3 HL HQ HFO
 go_upto_region 2 with (fail)
 refine wp_named (fun V2 hV=>?_)
 obtain ⟨hbV,hL,-⟩:=fresh_box hV
 have hB:=HB1.out.trans (hbV.mono HB1.out.size)
 have hQ:=HQ1.out.below hbV HQ1.out.lt
 have hlt:=HQ1.out.lt
 clear hV hbV HQ1 HB1
 obtain ⟨gL,HgL⟩:∃ n,Hid (W1.heap.size=n):=⟨_,Lib.hid rfl⟩
 rw [HgL.out] at hL hlt ⊢
 by_cases hE:E=0
 case neg =>
  have HE:Hid (R=(⟨k0,k1,k2,k3,k4,k5,k6,k7,k8,k9⟩,E)):=Lib.hid (by rw [←HR.out,if_neg hE])
  have t1:((E:Int)==0)=false:=by rw [beq_eq_false_iff_ne];omega
  have t2:¬(E:Int)=0:=by omega
  go_wp2_with (first | (refine wpList_load_row rfl _ _ rfl _ rfl _ _ _ _ hL Tryz.underlying56 rfl (by kernel_rfl) ?_) | (refine wpList_store_row rfl _ _ _ rfl _ _ rfl rfl _ _ hQ (by kernel_rfl) rfl (by simp [Value.oneCell']) ?_))
  (refine ret_row rfl _ rfl _ _ _ (hQ.row _) Tryz.underlying56 rfl (by kernel_rfl) rfl ⟨?_,below_row hB (by omega) _⟩)
  rw [HE.out]
  rfl
 subst hE
 have HE:Hid (R=(⟨3,k1,k2,k3,k4,k5,k6,k7,k8,k9⟩,0)):=Lib.hid (by rw [←HR.out,if_pos rfl])
 go_upto_region 3 with (fail)
 have fL:=hL.frozen 0
 have cL:=hL.cell 0
 simp only [List.getElem?_toArray,List.getElem?_cons_zero] at cL
 go_upto_region 4 with (fail)
 refine wp_named (fun V3 hV=>?_)
 have hx:Bk V3 gL 56 #[.int .u8 3,.int .i64 k1,.int .i64 k2,.int .u64 k3,.string k4,.int .u64 k5,.string k6,.string k7,.int .i64 k8,.string k9]:=by rw [hV];exact hL.set_ 0 _
 have hy:Bk V3 (w.heap.size+1) 56 #[.int .u8 0,.int .i64 0,.int .i64 0,.int .u64 0,.string ⟨#[]⟩,.int .u64 0,.string ⟨#[]⟩,.string ⟨#[]⟩,.int .i64 0,.string ⟨#[]⟩]:=by rw [hV];exact hQ.far (p:=⟨gL,0,none⟩) (by show w.heap.size+1≠gL;omega) _
 have hz:Below w.heap.size w V3:=by rw [hV];exact hB.setCell (p:=⟨gL,0,none⟩) (by show w.heap.size≤gL;omega) _
 clear hL hQ hB hV cL fL
 have hL:=hx
 have hQ:=hy
 have hB:=hz
 clear hx hy hz
 go_wp2_with (first | (refine wpList_load_row rfl _ _ rfl _ rfl _ _ _ _ hL Tryz.underlying56 rfl (by kernel_rfl) ?_) | (refine wpList_store_row rfl _ _ _ rfl _ _ rfl rfl _ _ hQ (by kernel_rfl) rfl (by simp [Value.oneCell']) ?_))
 (refine ret_row rfl _ rfl _ _ _ (hQ.row _) Tryz.underlying56 rfl (by kernel_rfl) rfl ⟨?_,below_row hB (by omega) _⟩)
 rw [HE.out]
 rfl
set_option maxRecDepth 100000 in
set_option maxHeartbeats 16000000 in
theorem scall_any (sv:Value) (x:Id.Sch) (hF:Chk.Fine x) (g id:ByteArray) (hid:id.size≤100000) (i:Int) (back:Bool) (fr:Int) (body:ByteArray) (w:World) (hk:Tk.KW w) (hv:Id.SchV w none sv x) :
  Calls Tryz.prog 71 #[sv,.string g,.string id,.int .i64 i,.bool back,.int .i64 fr,.string body] w fun e w'=>e=.returned (.tuple #[(Sd.call x g id i back fr body).1.val,.int .i64 ((Sd.call x g id i back fr body).2:Nat)])∧Below w.heap.size w w':=by
 have hlo:=fun W k v=>sletter_any sv x hF g id hid i fr W k v
 obtain ⟨R,HR⟩:∃ R,Hid (Sd.call x g id i back fr body=R):=⟨_,Lib.hid rfl⟩
 rw [HR.out]
 rw [Sd.call_of] at HR
 obtain ⟨⟨⟨k0,k1,k2,k3,k4,k5,k6,k7,k8,k9⟩,E⟩,HG⟩:∃ G,Hid (Sd.letter x g id i fr=G):=⟨_,Lib.hid rfl⟩
 rw [HG.out] at HR
 simp only at HR
 simp only [HG.out,Ev.Letter.val] at hlo
 have HFO:=Lib.hid hlo
 clear hlo
 have HKW:=Lib.hid hk
 have HV:=Lib.hid hv
 obtain ⟨A1,n1,c1,A2,n2,c2,A3,n3,c3,rfl,-,-,-⟩:=hv
 clear hk
 go_enter Tryz.func71,Tryz.ntmps71
 go_upto_region 1 with (fail)
 refine wp_named (fun V hV=>?_)
 have HL:Hid (Chk.Lx w V #[.string x.name,.slice A1 n1 c1,.slice A2 n2 c2,.slice A3 n3 c3]):=Lib.hid (by subst hV;exact ⟨((Below.refl _ _).alloc (Nat.le_refl _) _).alloc (by simp) _,(Bk.new w _ _).alloc _⟩)
 have HQ:Hid (Bk V (w.heap.size+1) 56 #[.int .u8 0,.int .i64 0,.int .i64 0,.int .u64 0,.string ⟨#[]⟩,.int .u64 0,.string ⟨#[]⟩,.string ⟨#[]⟩,.int .i64 0,.string ⟨#[]⟩]):=Lib.hid (by subst hV;have h:=Bk.new (w.alloc (.cells #[.string x.name,.slice A1 n1 c1,.slice A2 n2 c2,.slice A3 n3 c3] 28)) 56 #[.int .u8 0,.int .i64 0,.int .i64 0,.int .u64 0,.string ⟨#[]⟩,.int .u64 0,.string ⟨#[]⟩,.string ⟨#[]⟩,.int .i64 0,.string ⟨#[]⟩];rw [World.size_alloc] at h;exact h)
 clear hV
 obtain ⟨⟨q0,q1,q2,q3⟩,-⟩:=HL.out.box.k4
 go_wp2_with fail
 refine (HFO.out _ (HKW.out.below HL.out.bel) (Id.SchV.below HL.out.bel HV.out)).mono ?_
 rintro e W1 ⟨rfl,hb⟩
 have HL1:=Lib.hid (HL.out.below hb)
 have HQ1:=Lib.hid (HQ.out.below hb HQ.out.lt)
 clear hb q0 q1 q2 q3 HL HQ HFO
 go_upto_region 2 with (fail)
 refine wp_named (fun V2 hV=>?_)
 obtain ⟨hbV,hL,-⟩:=fresh_box hV
 have HL:=Lib.hid (HL1.out.below hbV)
 have hB:=HL.out.bel
 have hQ:=HQ1.out.below hbV HQ1.out.lt
 have hlt:=HQ1.out.lt
 clear hV hbV HQ1 HL1
 obtain ⟨gL,HgL⟩:∃ n,Hid (W1.heap.size=n):=⟨_,Lib.hid rfl⟩
 rw [HgL.out] at hL hlt ⊢
 by_cases hE:E=0
 case neg =>
  have HE:Hid (R=(Ev.Letter.zero,E)):=Lib.hid (by rw [←HR.out,if_pos hE])
  have t1:((E:Int) != 0)=true:=by rw [bne_iff_ne];omega
  have t2:¬(E:Int)=0:=by omega
  go_wp2_with (refine wpList_store_row rfl _ _ _ rfl _ _ rfl rfl _ _ hQ (by kernel_rfl) rfl (by simp [Value.oneCell']) ?_)
  (refine ret_row rfl _ rfl _ _ _ (hQ.row _) Tryz.underlying56 rfl (by kernel_rfl) rfl ⟨?_,below_row hB (by omega) _⟩)
  rw [HE.out]
  rfl
 subst hE
 rw [if_neg (by simp)] at HR
 go_upto_region 4 with (fail)
 have fL:=hL.frozen 0
 have cL:=hL.cell 0
 have fL9:=hL.frozen 9
 have cL9:=hL.cell 9
 simp only [List.getElem?_toArray,List.getElem?_cons_zero,List.getElem?_cons_succ] at cL cL9
 go_upto_region 5 with (fail)
 refine wp_named (fun V3 hV=>?_)
 have hx:Bk V3 gL 56 #[.int .u8 1,.int .i64 k1,.int .i64 k2,.int .u64 k3,.string k4,.int .u64 k5,.string k6,.string k7,.int .i64 k8,.string body]:=by rw [hV];exact (hL.set_ 0 _).set_ 9 _
 have hy:Bk V3 (w.heap.size+1) 56 #[.int .u8 0,.int .i64 0,.int .i64 0,.int .u64 0,.string ⟨#[]⟩,.int .u64 0,.string ⟨#[]⟩,.string ⟨#[]⟩,.int .i64 0,.string ⟨#[]⟩]:=by rw [hV];exact (hQ.far (p:=⟨gL,0,none⟩) (by show w.heap.size+1≠gL;omega) _).far (p:=⟨gL,9,none⟩) (by show w.heap.size+1≠gL;omega) _
 have hz:Chk.Lx w V3 #[.string x.name,.slice A1 n1 c1,.slice A2 n2 c2,.slice A3 n3 c3]:=by rw [hV];exact ⟨(hB.setCell (p:=⟨gL,0,none⟩) (by show w.heap.size≤gL;omega) _).setCell (p:=⟨gL,9,none⟩) (by show w.heap.size≤gL;omega) _,(HL.out.box.far (p:=⟨gL,0,none⟩) (by show w.heap.size≠gL;omega) _).far (p:=⟨gL,9,none⟩) (by show w.heap.size≠gL;omega) _⟩
 clear hL hQ hB hV cL fL cL9 fL9 HL
 have hL:=hx
 have hQ:=hy
 have HL:=Lib.hid hz
 clear hx hy hz
 cases back with
 | false =>
  have HE:Hid (R=(⟨1,k1,k2,k3,k4,k5,k6,k7,k8,body⟩,0)):=Lib.hid (by rw [←HR.out,if_pos rfl])
  have hB:=HL.out.bel
  go_wp2_with (first | (refine wpList_load_row rfl _ _ rfl _ rfl _ _ _ _ hL Tryz.underlying56 rfl (by kernel_rfl) ?_) | (refine wpList_store_row rfl _ _ _ rfl _ _ rfl rfl _ _ hQ (by kernel_rfl) rfl (by simp [Value.oneCell']) ?_))
  (refine ret_row rfl _ rfl _ _ _ (hQ.row _) Tryz.underlying56 rfl (by kernel_rfl) rfl ⟨?_,below_row hB (by omega) _⟩)
  rw [HE.out]
  rfl
 | true =>
  rw [if_neg (by simp)] at HR
  go_upto_region 6 with (fail)
  obtain ⟨⟨q0,q1,q2,q3⟩,-⟩:=HL.out.box.k4
  have cL6:=hL.cell 6
  have cL7:=hL.cell 7
  simp only [List.getElem?_toArray,List.getElem?_cons_zero,List.getElem?_cons_succ] at cL6 cL7
  go_wp2_with fail
  refine (cmethod_any _ x k6 k7 _ (Id.SchV.below HL.out.bel HV.out)).mono ?_
  obtain ⟨⟨m0,m1,m2,m3,u⟩,HM⟩:∃ G,Hid ((Chk.meth x k6 k7).getD Chk.mthZ=G):=⟨_,Lib.hid rfl⟩
  have HU:Hid (Sd.undoOf x ⟨k0,k1,k2,k3,k4,k5,k6,k7,k8,k9⟩=u):=Lib.hid (by unfold Sd.undoOf;rw [HM.out])
  rw [HU.out] at HR
  rw [HM.out]
  rintro e W4 ⟨rfl,hb⟩
  unfold Chk.mthV
  have HL4:=Lib.hid (HL.out.below hb)
  have hL4:=hL.below hb hL.lt
  have hQ4:=hQ.below hb hQ.lt
  clear hb q0 q1 q2 q3 cL6 cL7 hL hQ HL
  go_upto_region 7 with (fail)
  refine wp_named (fun V5 hV=>?_)
  obtain ⟨hbV,hM,-⟩:=fresh_box hV
  have hB:=HL4.out.bel.trans (hbV.mono HL4.out.bel.size)
  have hQ:=hQ4.below hbV hQ4.lt
  have hL:=hL4.below hbV hL4.lt
  have hlt4:=hL4.lt
  clear hV hbV HL4 hQ4 hL4
  obtain ⟨gM,HgM⟩:∃ n,Hid (W4.heap.size=n):=⟨_,Lib.hid rfl⟩
  rw [HgM.out] at hM hlt4 ⊢
  have cM:=hM.cell 4
  simp only [List.getElem?_toArray,List.getElem?_cons_zero,List.getElem?_cons_succ] at cM
  by_cases hu:u.toList.isEmpty=true
  case pos =>
   have HE:Hid (R=(Ev.Letter.zero,133)):=Lib.hid (by rw [←HR.out,if_pos hu])
   go_wp2_with (refine wpList_store_row rfl _ _ _ rfl _ _ rfl rfl _ _ hQ (by kernel_rfl) rfl (by simp [Value.oneCell']) ?_)
   (refine ret_row rfl _ rfl _ _ _ (hQ.row _) Tryz.underlying56 rfl (by kernel_rfl) rfl ⟨?_,below_row hB (by omega) _⟩)
   rw [HE.out]
   rfl
  have HE:Hid (R=(⟨1,k1,k2,k3,Sd.keyB id i true,k5,k6,u,k8,body⟩,0)):=Lib.hid (by rw [←HR.out,if_neg hu])
  have hu:u.toList.isEmpty=false:=by simpa using hu
  go_upto_region 9 with (fail)
  have hd:Below V5.heap.size V5 V5.drew:=(Below.refl _ _).drew
  have hS:=And.intro (hB.trans (hd.mono hB.size)) (And.intro (hQ.below hd hQ.lt) (And.intro (hL.below hd hL.lt) (hM.below hd hM.lt)))
  have hkey:=fun W=>skey_any id hid i true W
  obtain ⟨KB,HKB⟩:∃ n,Hid (Sd.keyB id i true=n):=⟨_,Lib.hid rfl⟩
  rw [HKB.out] at hkey HE
  have HKEY:=Lib.hid hkey
  clear hkey hd hB hQ hL hM cM
  refine wp_region_L_calm (fun w'=>Below w.heap.size w w'∧Bk w' (w.heap.size+1) 56 _∧Bk w' gL 56 _∧Bk w' gM 180 _) [6] (by kernel_rfl) hS (fun hHeld=>?_)
  (refine wpAnyL_take0 0 (v:=?_) rfl (by kernel_rfl) (by kernel_rfl) (by kernel_rfl) (by kernel_rfl) (fun _ _ _ h=>h) (fun _=>by assumption) (by kernel_rfl) ?_ ?_;rotate_left;· (intro w;go_simp;try with_reducible rfl);try simp only [Act.put,List.setIfInBounds_toArray,List.set_cons_zero,List.set_cons_succ])
  (refine Lst.takeM 6 1 (v:=?_) rfl (by kernel_rfl) (by kernel_rfl) (by kernel_rfl) (by kernel_rfl) (by kernel_rfl) (by kernel_rfl) (fun _ _ _ h=>h) (by assumption) (by kernel_rfl) ?_ ?_;rotate_left;· (intro w hSw;have e4:=hSw.2.2.2.cell 4;simp only [List.getElem?_toArray,List.getElem?_cons_zero,List.getElem?_cons_succ] at e4;go_simp;try with_reducible rfl);try simp only [Act.put,List.setIfInBounds_toArray,List.set_cons_zero,List.set_cons_succ])
  (refine wpAnyL_take0 2 (v:=?_) rfl (by kernel_rfl) (by kernel_rfl) (by kernel_rfl) (by kernel_rfl) (fun _ _ _ h=>h) (fun _=>by assumption) (by kernel_rfl) ?_ ?_;rotate_left;· (intro w;go_simp;try with_reducible rfl);try simp only [Act.put,List.setIfInBounds_toArray,List.set_cons_zero,List.set_cons_succ])
  (refine wpAnyL_take0 3 (v:=?_) rfl (by kernel_rfl) (by kernel_rfl) (by kernel_rfl) (by kernel_rfl) (fun _ _ _ h=>h) (fun _=>by assumption) (by kernel_rfl) ?_ ?_;rotate_left;· (intro w;go_simp;try with_reducible rfl);try simp only [Act.put,List.setIfInBounds_toArray,List.set_cons_zero,List.set_cons_succ])
  (refine wpAnyL_take0 5 (v:=?_) rfl (by kernel_rfl) (by kernel_rfl) (by kernel_rfl) (by kernel_rfl) (fun _ _ _ h=>h) (fun _=>by assumption) (by kernel_rfl) ?_ ?_;rotate_left;· (intro w;go_simp;try with_reducible rfl);try simp only [Act.put,List.setIfInBounds_toArray,List.set_cons_zero,List.set_cons_succ])
  (refine wpAnyL_step 4 (by kernel_rfl) rfl (fun K hK=>?_))
  go_simp
  refine (HKEY.out _).mono ?_
  rintro e X ⟨rfl,hb⟩
  have hS2:=And.intro (hS.1.trans (hb.mono hS.1.size)) (And.intro (hS.2.1.below hb hS.2.1.lt) (And.intro (hS.2.2.1.below hb hS.2.2.1.lt) (hS.2.2.2.below hb hS.2.2.2.lt)))
  (refine hK.out _ _ (fun hnn=>hS2) ?_;clear hK K;try simp only [Act.put,List.setIfInBounds_toArray,List.set_cons_zero,List.set_cons_succ])
  obtain ⟨hB,hQ,hL,-⟩:=hS2
  have fL7:=hL.frozen 7
  have cL7:=hL.cell 7
  have fL4:=hL.frozen 4
  have cL4:=hL.cell 4
  simp only [List.getElem?_toArray,List.getElem?_cons_zero,List.getElem?_cons_succ] at cL7 cL4
  (refine wpAnyL_step 6 (by kernel_rfl) rfl (fun K hK=>?_))
  go_simp
  (refine hK.out _ _ (fun hnn=>absurd hnn (by decide)) ?_;clear hK K;try simp only [Act.put,List.setIfInBounds_toArray,List.set_cons_zero,List.set_cons_succ])
  (refine wpAnyL_step 7 (by kernel_rfl) rfl (fun K hK=>?_))
  go_simp
  (refine hK.out _ _ (fun hnn=>absurd hnn (by decide)) ?_;clear hK K;try simp only [Act.put,List.setIfInBounds_toArray,List.set_cons_zero,List.set_cons_succ])
  (refine wpAnyL_step 8 (by kernel_rfl) rfl (fun K hK=>?_))
  go_simp
  (refine hK.out _ _ (fun hnn=>absurd hnn (by decide)) ?_;clear hK K;try simp only [Act.put,List.setIfInBounds_toArray,List.set_cons_zero,List.set_cons_succ])
  refine wpAnyL_done (by kernel_rfl) ?_ _
  refine NoPanic.normal ?_
  have hx:Bk ((X.setCell ⟨gL,7,none⟩ (.string u)).setCell ⟨gL,4,none⟩ (.string KB)) gL 56 #[.int .u8 1,.int .i64 k1,.int .i64 k2,.int .u64 k3,.string KB,.int .u64 k5,.string k6,.string u,.int .i64 k8,.string body]:=(hL.set_ 7 _).set_ 4 _
  have hy:=(hQ.far (p:=⟨gL,7,none⟩) (by show w.heap.size+1≠gL;omega) (.string u)).far (p:=⟨gL,4,none⟩) (by show w.heap.size+1≠gL;omega) (.string KB)
  have hz:=(hB.setCell (p:=⟨gL,7,none⟩) (by show w.heap.size≤gL;omega) (.string u)).setCell (p:=⟨gL,4,none⟩) (by show w.heap.size≤gL;omega) (.string KB)
  clear hL hQ hB fL7 cL7 fL4 cL4 hS hHeld hb
  have hL:=hx
  have hQ:=hy
  have hB:=hz
  clear hx hy hz
  generalize (X.setCell ⟨gL,7,none⟩ (.string u)).setCell ⟨gL,4,none⟩ (.string KB)=X2 at *
  go_wp2_with (first | (refine wpList_load_row rfl _ _ rfl _ rfl _ _ _ _ hL Tryz.underlying56 rfl (by kernel_rfl) ?_) | (refine wpList_store_row rfl _ _ _ rfl _ _ rfl rfl _ _ hQ (by kernel_rfl) rfl (by simp [Value.oneCell']) ?_))
  (refine ret_row rfl _ rfl _ _ _ (hQ.row _) Tryz.underlying56 rfl (by kernel_rfl) rfl ⟨?_,below_row hB (by omega) _⟩)
  rw [HE.out]
  rfl
end Go.Proofs.YtogijkhenihaaaaGreatDoor
set_option linter.unusedVariables false
namespace Go.Proofs.YtogijkhenihaaaaGreatDoor
open Go.RowKit
namespace Ev
/-- A row of bytes of the call's own. -/
def Bt (w:World) (B:Nat) (v:Value) (xs:List UInt8):Prop:=w.ownsRow B 5 1 v xs.length (xs.map Sm.byteV)
theorem Bt.own {w:World} {B:Nat} {v:Value} {xs:List UInt8} (h:Bt w B v xs):w.ownsRow B 5 1 v xs.length (xs.map Sm.byteV):=h
theorem Bt.nil (w:World) (B:Nat):Bt w B (.slice none 0 0) []:=World.ownsRow_nil _ _ _ _
end Ev
end Go.Proofs.YtogijkhenihaaaaGreatDoor
set_option linter.unusedVariables false
set_option linter.unusedSimpArgs false
namespace Go.Proofs.YtogijkhenihaaaaGreatDoor
open Go.RowKit Go.BigFrame
namespace Prn
open Go.Proofs.YtogijkhenihaaaaGreatDoor.Id Go.Proofs.YtogijkhenihaaaaGreatDoor.Chk
def typeP (t:List Srt):ByteArray:=if t.length≤12∧okP t=true then jn (t.map sortW) else ⟨#[]⟩
theorem okP_drop {t:List Srt} {k:Nat} (h:k+1<t.length):okP (t.drop k)=(mid (t[k]'(by omega))&&okP (t.drop (k+1))):=by
 rw [List.drop_eq_getElem_cons (show k<t.length by omega),List.drop_eq_getElem_cons h]
 rfl
theorem okP_last {t:List Srt} {k:Nat} (h:k+1=t.length):okP (t.drop k)=finP (t[k]'(by omega)):=by
 rw [List.drop_eq_getElem_cons (show k<t.length by omega),List.drop_of_length_le (by omega)]
 rfl
theorem sorts_size {t:List Srt} (h:okP t=true):∀ u∈t.map sortW,u.size≤32:=fun u hu=>by
 obtain ⟨x,hx,rfl⟩:=List.mem_map.1 hu
 exact (own_sorts h x hx).2
end Prn
set_option maxRecDepth 100000 in
set_option maxHeartbeats 16000000 in
theorem pType_any (tv:Value) (t:List Id.Srt) (w:World) (hk:Tk.KW w) (ht:Id.SortsR w none tv t) :
  Calls Tryz.prog 120 #[tv] w fun e w'=>e=.returned (.string (Prn.typeP t))∧Below w.heap.size w w':=by
 obtain ⟨T,HT⟩:∃ T,Hid (Prn.typeP t=T):=⟨_,Lib.hid rfl⟩
 rw [HT.out]
 unfold Prn.typeP at HT
 have HKW:=Lib.hid hk
 have HS:=Lib.hid ht
 obtain ⟨A,n,c,rfl⟩:=ERow.is ht
 have HN:Hid (n=t.length):=Lib.hid (by obtain ⟨_,_,e,_⟩:=ERow.slice ht;injection e)
 have hm:n≤9223372036854775807:=by obtain ⟨_,_,e,_,_⟩:=ERow.slice ht;injection e;omega
 clear hk ht
 by_cases h12:n≤12
 case neg =>
  have HE:Hid (T=⟨#[]⟩):=Lib.hid (by rw [←HT.out,if_neg (by rw [←HN.out];exact fun h=>h12 h.1)])
  have h0:((n:Int)==0)=false:=by rw [beq_eq_false_iff_ne];omega
  have h0b:¬(n:Int)=0:=by omega
  have h1:(12:Int)<(n:Int):=by omega
  have h2:12<n:=by omega
  clear h12
  go_enter Tryz.func120,Tryz.ntmps120
  go_wp2_with fail
  go_ret
  exact ⟨by rw [HE.out];rfl,Below.refl _ _⟩
 by_cases h00:n=0
 case pos =>
  have HE:Hid (T=⟨#[]⟩):=Lib.hid (by rw [←HT.out,if_neg (by rw [List.length_eq_zero_iff.1 (HN.out.symm.trans h00)];exact fun h=>by cases h.2)])
  subst h00
  try simp only [Int.cast_ofNat_Int] at *
  go_enter Tryz.func120,Tryz.ntmps120
  go_wp2_with fail
  go_ret
  exact ⟨by rw [HE.out];rfl,Below.refl _ _⟩
 obtain ⟨R,HR⟩:∃ R,Hid (Prn.okP t=R):=⟨_,Lib.hid rfl⟩
 have HTT:Hid ((if R=true then Prn.jn (t.map Prn.sortW) else ⟨#[]⟩)=T):=Lib.hid (by rw [←HT.out,HR.out];simp only [←HN.out,h12,true_and])
 have HNO:Hid (R=false→T=⟨#[]⟩):=Lib.hid (fun h=>by rw [←HTT.out,if_neg (by rw [h];decide)])
 have h0:((n:Int)==0)=false:=by rw [beq_eq_false_iff_ne];omega
 have h0b:¬(n:Int)=0:=by omega
 have h1:¬(12:Int)<(n:Int):=by omega
 have h2:¬12<n:=by omega
 have hn1:1≤n:=by omega
 clear h00 HT
 go_enter Tryz.func120,Tryz.ntmps120
 go_wp2_with fail
 go_loopw [17] (fun i wr=>∃ (k:Nat),k≤n∧i=.int .i64 k∧Hid ((k<n→Prn.okP (t.drop k)=R)∧(k=n→R=true))∧Hid (Below w.heap.size w wr)) (fun i _=>n - (intOf i).toNat)
 case atStart=>exact ⟨0,by omega,rfl,Lib.hid ⟨fun _=>HR.out,fun h=>by omega⟩,Lib.hid (Below.refl _ _)⟩
 case round =>
  obtain ⟨k,hk,rfl,HK,HB⟩:=hrel
  obtain ⟨V,rfl⟩:∃ w',w'=wr:=⟨_,rfl⟩
  have ik0:(0:Int)≤(k:Int):=by omega
  by_cases hlt:k<n
  case neg =>
   obtain rfl:k=n:=by omega
   have hRt:=HK.out.2 rfl
   have HRO:Hid (Prn.okP t=true):=Lib.hid (by rw [HR.out];exact hRt)
   have HE:Hid (Prn.jn (t.map Prn.sortW)=T):=Lib.hid (by rw [←HTT.out,if_pos hRt])
   have hbs:=HB.out.size
   clear hRt HK
   go_upto_region 24 with (fail)
   refine wp_named (fun W2 hW=>?_)
   obtain ⟨hbx,hqx,-⟩:=fresh_box hW
   have HP:=Lib.hid (Prn.Put.start (w0:=V) (b:=V.heap.size) (L:=[]) hbx ⟨Nat.le_refl _,hbx.size,_,hqx,ERow.nil _ _ _ _ _⟩)
   clear hW hqx
   have HB2:=Lib.hid (HB.out.trans (hbx.mono hbs))
   clear hbx
   go_wp2_with fail
   refine (pwsorts_any V.heap.size _ t _ V W2 HP.out.bel HP.out.wr (fun w' hb _=>ERow.below (ERow.below HS.out HB.out (fun _ _ h=>h)) hb (fun _ _ h=>h)) (by simp only [List.length_nil,List.length_append,←HN.out];omega)).mono ?_
   rintro e W3 ⟨rfl,hp⟩
   have HP3:=Lib.hid (HP.out.step hp)
   clear hp
   go_wp2_with fail
   have hjl:=Prn.jl_le (Prn.sorts_size HRO.out)
   rw [List.length_map,←HN.out] at hjl
   refine (pwtext_any V.heap.size (t.map Prn.sortW) V.heap.size W3 (by have h:=HP3.out.wr;rw [List.nil_append,List.nil_append] at h;exact h) (by simp only [List.length_map,←HN.out];omega) (by omega)).mono ?_
   rw [HE.out]
   rintro e W4 ⟨rfl,hb4⟩
   have HB4:=Lib.hid (HB.out.trans ((HP3.out.bel.trans (hb4.mono HP3.out.bel.size)).mono hbs))
   clear hb4 hjl
   go_wp2_with fail
   go_ret
   exact ⟨rfl,HB4.out⟩
  have hka:k<t.length:=by rw [←HN.out];exact hlt
  have hK:=HK.out.1 hlt
  obtain ⟨g,off,cs,rfl,-,e1,hc⟩:=ERow.get HS.out hka (by omega)
  have HX:Hid ((k+1<n→Prn.okP (t.drop k)=(Chk.mid t[k]&&Prn.okP (t.drop (k+1))))∧(k+1=n→Prn.okP (t.drop k)=Prn.finP t[k])):=Lib.hid ⟨fun h=>Prn.okP_drop (by rw [←HN.out];exact h),fun h=>Prn.okP_last (by rw [←HN.out];exact h)⟩
  obtain ⟨⟨yk,yn⟩,Hy⟩:∃ y,Hid (t[k]=y):=⟨_,Lib.hid rfl⟩
  rw [hK,Hy.out] at HX
  rw [Hy.out] at e1
  unfold Id.SortE Id.Srt.cells at e1
  subst e1
  have a0:=hc 0 _ rfl
  have a1:=hc 1 _ rfl
  simp only [Nat.add_zero] at a0
  have hgl:g<w.heap.size:=World.block_lt_of_cell? w _ a0
  have a0:=(HB.out.cell hgl).trans a0
  have a1:=(HB.out.cell hgl).trans a1
  have hbs:=HB.out.size
  have hgne:¬g=V.heap.size:=by omega
  have ik1:(k:Int)<(n:Int):=by omega
  clear hc Hy hka hK HK
  go_upto_region 6 with (fail)
  refine wp_named (fun V1 hW=>?_)
  obtain ⟨hbx,hqx,-⟩:=fresh_box hW
  have HB1:=Lib.hid (HB.out.trans (hbx.mono hbs))
  obtain ⟨⟨b0,b1⟩,-⟩:=hqx.k2
  clear hW hbx hqx a0 a1 HB
  by_cases hl:k+1=n
  case pos =>
   have hf:=HX.out.2 hl
   have HFN:=Lib.hid hf
   have l1:((k:Int)==(n:Int) - 1)=true:=by rw [beq_iff_eq];omega
   have l2:(k:Int)=(n:Int) - 1:=by omega
   clear hf
   by_cases h5:yk=5
   case pos =>
    subst h5
    have HE:Hid (T=⟨#[]⟩):=Lib.hid (HNO.out (HFN.out.trans rfl))
    clear HX
    go_wp2_with fail
    go_ret
    exact ⟨by rw [HE.out];rfl,HB1.out⟩
   by_cases h6:yk=6
   case pos =>
    subst h6
    have HE:Hid (T=⟨#[]⟩):=Lib.hid (HNO.out (HFN.out.trans rfl))
    clear HX
    go_wp2_with fail
    go_ret
    exact ⟨by rw [HE.out];rfl,HB1.out⟩
   by_cases h1:yk=1
   case pos =>
    subst h1
    have hf:R=yn.toList.isEmpty:=HFN.out
    cases hne:yn.toList.isEmpty
    case false =>
     have HE:Hid (T=⟨#[]⟩):=Lib.hid (HNO.out (hf.trans hne))
     clear HX
     go_wp2_with fail
     go_ret
     exact ⟨by rw [HE.out];rfl,HB1.out⟩
    have hRt:R=true:=hf.trans hne
    clear hf
    have HK2:Hid ((k+1<n→Prn.okP (t.drop (k+1))=R)∧(k+1=n→R=true)):=Lib.hid (⟨fun h=>by omega,fun _=>hRt⟩)
    clear HX
    go_wp2_with fail
    go_roundw
    case rel=>exact ⟨k+1,by omega,by go_num,HK2,HB1⟩
    case measure=>simp [intOf] <;> omega
   by_cases h2:yk=2
   case pos =>
    subst h2
    have hf:R=yn.toList.isEmpty:=HFN.out
    cases hne:yn.toList.isEmpty
    case false =>
     have HE:Hid (T=⟨#[]⟩):=Lib.hid (HNO.out (hf.trans hne))
     clear HX
     go_wp2_with fail
     go_ret
     exact ⟨by rw [HE.out];rfl,HB1.out⟩
    have hRt:R=true:=hf.trans hne
    clear hf
    have HK2:Hid ((k+1<n→Prn.okP (t.drop (k+1))=R)∧(k+1=n→R=true)):=Lib.hid (⟨fun h=>by omega,fun _=>hRt⟩)
    clear HX
    go_wp2_with fail
    go_roundw
    case rel=>exact ⟨k+1,by omega,by go_num,HK2,HB1⟩
    case measure=>simp [intOf] <;> omega
   by_cases h3:yk=3
   case pos =>
    subst h3
    have hf:R=yn.toList.isEmpty:=HFN.out
    cases hne:yn.toList.isEmpty
    case false =>
     have HE:Hid (T=⟨#[]⟩):=Lib.hid (HNO.out (hf.trans hne))
     clear HX
     go_wp2_with fail
     go_ret
     exact ⟨by rw [HE.out];rfl,HB1.out⟩
    have hRt:R=true:=hf.trans hne
    clear hf
    have HK2:Hid ((k+1<n→Prn.okP (t.drop (k+1))=R)∧(k+1=n→R=true)):=Lib.hid (⟨fun h=>by omega,fun _=>hRt⟩)
    clear HX
    go_wp2_with fail
    go_roundw
    case rel=>exact ⟨k+1,by omega,by go_num,HK2,HB1⟩
    case measure=>simp [intOf] <;> omega
   by_cases h4:yk=4
   case pos =>
    subst h4
    have hf:R=yn.toList.isEmpty:=HFN.out
    cases hne:yn.toList.isEmpty
    case false =>
     have HE:Hid (T=⟨#[]⟩):=Lib.hid (HNO.out (hf.trans hne))
     clear HX
     go_wp2_with fail
     go_ret
     exact ⟨by rw [HE.out];rfl,HB1.out⟩
    have hRt:R=true:=hf.trans hne
    clear hf
    have HK2:Hid ((k+1<n→Prn.okP (t.drop (k+1))=R)∧(k+1=n→R=true)):=Lib.hid (⟨fun h=>by omega,fun _=>hRt⟩)
    clear HX
    go_wp2_with fail
    go_roundw
    case rel=>exact ⟨k+1,by omega,by go_num,HK2,HB1⟩
    case measure=>simp [intOf] <;> omega
   by_cases h7:yk=7
   case pos =>
    subst h7
    have HF7:Hid (R=Tk.isName yn):=Lib.hid HFN.out
    obtain ⟨b,HBN⟩:∃ b,Hid (Tk.isName yn=b):=⟨_,Lib.hid rfl⟩
    go_wp2_with fail
    refine (name_any yn _ (HKW.out.below HB1.out)).mono ?_
    rw [HBN.out]
    rintro e V2 ⟨rfl,hb2⟩
    have HBz:=Lib.hid (HB1.out.trans (hb2.mono HB1.out.size))
    clear hb2 b0 b1
    cases b
    case false =>
     have HE:Hid (T=⟨#[]⟩):=Lib.hid (HNO.out (HF7.out.trans HBN.out))
     go_wp2_with fail
     go_ret
     exact ⟨by rw [HE.out];rfl,HBz.out⟩
    have hRt:R=true:=HF7.out.trans HBN.out
    have HK2:Hid ((k+1<n→Prn.okP (t.drop (k+1))=R)∧(k+1=n→R=true)):=Lib.hid (⟨fun h=>by omega,fun _=>hRt⟩)
    clear HX
    go_wp2_with fail
    go_roundw
    case rel=>exact ⟨k+1,by omega,by go_num,HK2,HBz⟩
    case measure=>simp [intOf] <;> omega
   have hRf:R=false:=by rw [HFN.out];unfold Prn.finP;simp only [h1,h2,h3,h4,h7,false_or,or_self,if_false]
   have t5:((yk:Int)==5)=false:=by rw [beq_eq_false_iff_ne];omega
   have t6:((yk:Int)==6)=false:=by rw [beq_eq_false_iff_ne];omega
   have t1:((yk:Int)==1)=false:=by rw [beq_eq_false_iff_ne];omega
   have t2:((yk:Int)==2)=false:=by rw [beq_eq_false_iff_ne];omega
   have t3:((yk:Int)==3)=false:=by rw [beq_eq_false_iff_ne];omega
   have t4:((yk:Int)==4)=false:=by rw [beq_eq_false_iff_ne];omega
   have t7:((yk:Int)==7)=false:=by rw [beq_eq_false_iff_ne];omega
   have HRF:=Lib.hid hRf
   clear hRf h5 h6 h1 h2 h3 h4 h7
   have HE:Hid (T=⟨#[]⟩):=Lib.hid (HNO.out (HRF.out))
   clear HX
   go_wp2_with fail
   go_ret
   exact ⟨by rw [HE.out];rfl,HB1.out⟩
  have hf:=HX.out.1 (by omega)
  have HFN:=Lib.hid hf
  have l1:((k:Int)==(n:Int) - 1)=false:=by rw [beq_eq_false_iff_ne];omega
  have l2:¬(k:Int)=(n:Int) - 1:=by omega
  clear hf
  by_cases h5:yk=5
  case pos =>
   subst h5
   have hf:R=(yn.toList.isEmpty&&Prn.okP (t.drop (k+1))):=HFN.out
   cases hne:yn.toList.isEmpty
   case false =>
    have HE:Hid (T=⟨#[]⟩):=Lib.hid (HNO.out (by rw [hf,hne];rfl))
    clear HX
    go_wp2_with fail
    go_ret
    exact ⟨by rw [HE.out];rfl,HB1.out⟩
   have HK3:Hid (Prn.okP (t.drop (k+1))=R):=Lib.hid (by rw [hf,hne];rfl)
   clear hf
   have HK2:Hid ((k+1<n→Prn.okP (t.drop (k+1))=R)∧(k+1=n→R=true)):=Lib.hid (⟨fun _=>HK3.out,fun h=>absurd h hl⟩)
   clear HX
   go_wp2_with fail
   go_roundw
   case rel=>exact ⟨k+1,by omega,by go_num,HK2,HB1⟩
   case measure=>simp [intOf] <;> omega
  by_cases h6:yk=6
  case pos =>
   subst h6
   have hf:R=(yn.toList.isEmpty&&Prn.okP (t.drop (k+1))):=HFN.out
   cases hne:yn.toList.isEmpty
   case false =>
    have HE:Hid (T=⟨#[]⟩):=Lib.hid (HNO.out (by rw [hf,hne];rfl))
    clear HX
    go_wp2_with fail
    go_ret
    exact ⟨by rw [HE.out];rfl,HB1.out⟩
   have HK3:Hid (Prn.okP (t.drop (k+1))=R):=Lib.hid (by rw [hf,hne];rfl)
   clear hf
   have HK2:Hid ((k+1<n→Prn.okP (t.drop (k+1))=R)∧(k+1=n→R=true)):=Lib.hid (⟨fun _=>HK3.out,fun h=>absurd h hl⟩)
   clear HX
   go_wp2_with fail
   go_roundw
   case rel=>exact ⟨k+1,by omega,by go_num,HK2,HB1⟩
   case measure=>simp [intOf] <;> omega
  have HRF:Hid (R=false):=Lib.hid (by rw [HFN.out];unfold Chk.mid;simp [h5,h6])
  by_cases h1:yk=1
  case pos =>
   subst h1
   have HE:Hid (T=⟨#[]⟩):=Lib.hid (HNO.out (HRF.out))
   clear HX
   go_wp2_with fail
   go_ret
   exact ⟨by rw [HE.out];rfl,HB1.out⟩
  by_cases h2:yk=2
  case pos =>
   subst h2
   have HE:Hid (T=⟨#[]⟩):=Lib.hid (HNO.out (HRF.out))
   clear HX
   go_wp2_with fail
   go_ret
   exact ⟨by rw [HE.out];rfl,HB1.out⟩
  by_cases h3:yk=3
  case pos =>
   subst h3
   have HE:Hid (T=⟨#[]⟩):=Lib.hid (HNO.out (HRF.out))
   clear HX
   go_wp2_with fail
   go_ret
   exact ⟨by rw [HE.out];rfl,HB1.out⟩
  by_cases h4:yk=4
  case pos =>
   subst h4
   have HE:Hid (T=⟨#[]⟩):=Lib.hid (HNO.out (HRF.out))
   clear HX
   go_wp2_with fail
   go_ret
   exact ⟨by rw [HE.out];rfl,HB1.out⟩
  by_cases h7:yk=7
  case pos =>
   subst h7
   have HE:Hid (T=⟨#[]⟩):=Lib.hid (HNO.out (HRF.out))
   clear HX
   go_wp2_with fail
   go_ret
   exact ⟨by rw [HE.out];rfl,HB1.out⟩
  have t5:((yk:Int)==5)=false:=by rw [beq_eq_false_iff_ne];omega
  have t6:((yk:Int)==6)=false:=by rw [beq_eq_false_iff_ne];omega
  have t1:((yk:Int)==1)=false:=by rw [beq_eq_false_iff_ne];omega
  have t2:((yk:Int)==2)=false:=by rw [beq_eq_false_iff_ne];omega
  have t3:((yk:Int)==3)=false:=by rw [beq_eq_false_iff_ne];omega
  have t4:((yk:Int)==4)=false:=by rw [beq_eq_false_iff_ne];omega
  have t7:((yk:Int)==7)=false:=by rw [beq_eq_false_iff_ne];omega
  clear h5 h6 h1 h2 h3 h4 h7
  have HE:Hid (T=⟨#[]⟩):=Lib.hid (HNO.out (HRF.out))
  clear HX
  go_wp2_with fail
  go_ret
  exact ⟨by rw [HE.out];rfl,HB1.out⟩
end Go.Proofs.YtogijkhenihaaaaGreatDoor
set_option linter.unusedVariables false
set_option linter.unusedSimpArgs false
namespace Go.Proofs.YtogijkhenihaaaaGreatDoor
namespace Prn
open Go.Proofs.YtogijkhenihaaaaGreatDoor.Id Go.Proofs.YtogijkhenihaaaaGreatDoor.Chk
theorem type_of {s:ByteArray} {l:List Tk.Tok} {a:Nat} {x:List Srt} (ht:Tk.all s=(l,a,0)) (hr:sorts (l,false)=(x,([],false))):Id.type s=(x,0,0):=whole_good ht hr
theorem type_text {t:List Srt} (h:okP t=true) (hl:t.length≤12):Id.type (jn (t.map sortW))=(t,0,0):=by
 have ho:Owns (t.map sortT):=fun u hu=>by
  obtain ⟨x,hx,rfl⟩:=List.mem_map.1 hu
  exact own_sorts h x hx
 have hsz:(jn (t.map sortW)).size≤65536:=by
  rw [jn_size]
  have:=jl_le (sorts_size h)
  rw [List.length_map] at this
  omega
 have ha:=all_text ho (by rw [tx_sorts];exact hsz)
 rw [tx_sorts] at ha
 have hr:=sorts_ok h []
 rw [List.append_nil] at hr
 exact type_of ha (read_placed sorts_z (at_sorts t) hr)
end Prn
end Go.Proofs.YtogijkhenihaaaaGreatDoor
set_option linter.unusedVariables false
set_option linter.unusedSimpArgs false
namespace Go.Proofs.YtogijkhenihaaaaGreatDoor
open Go.RowKit Go.BigFrame
namespace Vl
open Go.Proofs.YtogijkhenihaaaaGreatDoor.Id Go.Proofs.YtogijkhenihaaaaGreatDoor.Chk
structure Node where
 kind:Nat
 int:Int
 text:ByteArray
 kids:Int
def Node.cells (n:Node):List Value:=[.int .u8 n.kind,.int .i64 n.int,.string n.text,.int .i64 n.kids]
def NodE (w:World) (cs:List Value) (n:Node):Prop:=cs=n.cells
def ValR (w:World) (B:Option Nat) (v:Value) (l:List Node):Prop:=ERow w B 92 4 NodE v l
/-- A part without others. -/
def leaf (k:Nat) (n:Node):Bool:=n.kind==k&&(n.kids==0)&&(n.int==0||k==3||(k==2&&n.int==1))&&(n.text.toList.isEmpty||k==4)
def kidsRec (r:Rec) (n:Node):Option (List (List Srt)) :=
 if r.choice=true then
  if n.kind=8∧n.text.toList.isEmpty=true∧n.kids=1∧0≤n.int∧n.int<r.fields.length then some [(r.fields.map (·.type)).getD n.int.toNat []] else none
 else if n.kind=7∧n.int=0∧n.text.toList.isEmpty=true∧n.kids=r.fields.length then some (r.fields.map (·.type)) else none
/-- How many parts a list, or an opt, may have. -/
def wlim (lim k:Nat):Nat:=if k=6 then 1 else lim
def kidsWrap (lim k:Nat) (t:List Srt) (n:Node):Option (List (List Srt)) :=
 if n.kind=k∧n.int=0∧n.text.toList.isEmpty=true∧0≤n.kids∧n.kids≤(wlim lim k:Int) then some (List.replicate n.kids.toNat t) else none
def kidsOf (s:Sch) (lim:Nat) (x:Srt) (t:List Srt) (n:Node):Option (List (List Srt)) :=
 if x.kind=5∨x.kind=6 then kidsWrap lim x.kind t n else kidsRec ((find s x.name).getD recZ) n
def manyF (f:List Srt→List Node→Option (Nat × List Node)):List (List Srt)→Nat→List Node→Option (Nat × List Node)
 | [],d,r=>some (d,r)
 | t::ts,d,r=>match f t r with
  | none=>none
  | some p=>manyF f ts (max d p.1) p.2
def up (p:Option (Nat × List Node)):Option (Nat × List Node):=p.map fun p=>(p.1+1,p.2)
def stepK (o:Option (List (List Srt))) (f:List Srt→List Node→Option (Nat × List Node)) (r:List Node):Option (Nat × List Node):=match o with
 | none=>none
 | some ks=>up (manyF f ks 0 r)
/-- A value of a type, taken of the parts: its depth, and what is left. lim: how many parts a list may have (none: those left). -/
def ofF (s:Sch) (lim:Option Nat):Nat→List Srt→List Node→Option (Nat × List Node)
 | 0,_,_=>none
 | _+1,[],_=>none
 | _+1,_::_,[]=>none
 | k+1,x::t,n::r =>
  if x.kind=1∨x.kind=2∨x.kind=3∨x.kind=4 then (if leaf x.kind n=true then some (1,r) else none)
  else stepK (kidsOf s (lim.getD r.length) x t n) (ofF s lim k) r
/-- The parts that so many wholes take. -/
def endL (N:Nat):Nat→List Node→Option (List Node)
 | 0,r=>some r
 | _+1,[]=>none
 | l+1,n::r=>if 0≤n.kids∧n.kids≤N then endL N (l+n.kids.toNat) r else none
def size (v:List Node):Nat:=v.length+(v.map (·.text.size)).sum
noncomputable def fits (s:Sch) (t:List Srt) (v:List Node):Nat :=
 if (check s).2≠0 then (check s).2 else if right s t=false then 131 else
 match ofF s none (v.length+1) t v with
 | none=>150
 | some p=>if p.2.length≠0 then 150 else if 12<p.1 then 151 else if 4096<size v then 3 else 0
def fieldL (N:Nat) (fn:ByteArray):List Fld→List Node→Option (List Node)
 | [],_=>none
 | f::fs,r=>match endL N 1 r with
  | none=>none
  | some r'=>if (f.name.toList==fn.toList)=true then some (r.take (r.length - r'.length)) else fieldL N fn fs r'
def nmd (rn:ByteArray):List Srt:=[⟨7,rn⟩]
noncomputable def field (s:Sch) (rn:ByteArray) (v:List Node) (fn:ByteArray):Option (List Node) :=
 match find s rn with
 | none=>none
 | some r=>if r.choice=true then none else if fits s (nmd rn) v≠0 then none else fieldL v.length fn r.fields (v.drop 1)
end Vl
end Go.Proofs.YtogijkhenihaaaaGreatDoor
