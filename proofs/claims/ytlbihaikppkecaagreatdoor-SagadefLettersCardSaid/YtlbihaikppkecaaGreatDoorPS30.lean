/- redressref22: Cancel, Call. No condition but the ones the theorems state. -/
import Derived.Test.YtlbihaikppkecaaGreatDoorPS29
import Derived.Test.YtlbihaikppkecaaGreatDoorPS03
import Derived.ProofKit
import Derived.LaidMore
import Derived.OpenShut
import Derived.Stop.Joined
set_option linter.unusedVariables false
set_option linter.unusedSimpArgs false
namespace Go.Proofs.YtlbihaikppkecaaGreatDoor
open Go.RowKit Go.BigFrame
namespace Sd
open Go.Proofs.YtlbihaikppkecaaGreatDoor.Id Go.Proofs.YtlbihaikppkecaaGreatDoor.Chk Go.Proofs.YtlbihaikppkecaaGreatDoor.Ev
theorem cancel_of2 {x:Sch} {g id:ByteArray} {i fr:Int}:cancel x g id i fr=if (letter x g id i fr).2=0 then ({ (letter x g id i fr).1 with kind:=3 },0) else (Letter.zero,(letter x g id i fr).2):=by
 unfold cancel letter
 by_cases h:letE x g id i fr=0
 ·simp [h]
 ·simp [h]
end Sd
set_option maxRecDepth 100000 in
set_option maxHeartbeats 16000000 in
theorem rscancel_any (sv:Value) (x:Id.Sch) (hF:Chk.Fine x) (g id:ByteArray) (hid:id.size≤100000) (i fr:Int) (w:World) (hv:Id.SchV w none sv x) :
  Calls Tryz.prog 20 #[sv,.string g,.string id,.int .i64 i,.int .i64 fr] w fun e w'=>e=.returned (.tuple #[(Sd.cancel x g id i fr).1.val,.int .i64 ((Sd.cancel x g id i fr).2:Nat)])∧Below w.heap.size w w':=by
 have hlo:=fun W v=>rsone_any sv x hF g id hid i fr W v
 obtain ⟨R,HR⟩:∃ R,Hid (Sd.cancel x g id i fr=R):=⟨_,Lib.hid rfl⟩
 rw [HR.out]
 rw [Sd.cancel_of2] at HR
 obtain ⟨⟨⟨k0,k1,k2,k3,k4,k5,k6,k7,k8,k9⟩,E⟩,HG⟩:∃ G,Hid (Sd.letter x g id i fr=G):=⟨_,Lib.hid rfl⟩
 rw [HG.out] at HR
 simp only [HG.out,Ev.Letter.val] at hlo
 have HFO:=Lib.hid hlo
 clear hlo
 have HV:=Lib.hid hv
 obtain ⟨A1,n1,c1,A2,n2,c2,A3,n3,c3,rfl,-,-,-⟩:=hv
 go_enter Tryz.func20,Tryz.ntmps20
 go_upto_region 1 with (fail)
 refine wp_named (fun V hV=>?_)
 have HL:Hid (Chk.Lx w V #[.string x.name,.slice A1 n1 c1,.slice A2 n2 c2,.slice A3 n3 c3]):=Lib.hid (by subst hV;exact ⟨((Below.refl _ _).alloc (Nat.le_refl _) _).alloc (by simp) _,(Bk.new w _ _).alloc _⟩)
 have HQ:Hid (Bk V (w.heap.size+1) 40 #[.int .u8 0,.int .i64 0,.int .i64 0,.int .u64 0,.string ⟨#[]⟩,.int .u64 0,.string ⟨#[]⟩,.string ⟨#[]⟩,.int .i64 0,.string ⟨#[]⟩]):=Lib.hid (by subst hV;have h:=Bk.new (w.alloc (.cells #[.string x.name,.slice A1 n1 c1,.slice A2 n2 c2,.slice A3 n3 c3] 33)) 40 #[.int .u8 0,.int .i64 0,.int .i64 0,.int .u64 0,.string ⟨#[]⟩,.int .u64 0,.string ⟨#[]⟩,.string ⟨#[]⟩,.int .i64 0,.string ⟨#[]⟩];rw [World.size_alloc] at h;exact h)
 clear hV
 obtain ⟨⟨q0,q1,q2,q3⟩,-⟩:=HL.out.box.k4
 go_wp2_with fail
 refine (HFO.out _ (Id.SchV.below HL.out.bel HV.out)).mono ?_
 rintro e W1 ⟨rfl,hb⟩
 have HB1:=Lib.hid (HL.out.below hb).bel
 have HQ1:=Lib.hid (HQ.out.below hb HQ.out.lt)
 clear hb q0 q1 q2 q3 HL HQ HFO
 go_upto_region 2 with (fail)
 refine wp_named (fun V2 hV=>?_)
 obtain ⟨hbV,hL,-⟩:=fresh_box hV
 have hB:=HB1.out.trans (hbV.mono HB1.out.size)
 have hQ:=HQ1.out.below hbV HQ1.out.lt
 have hlt:=HQ1.out.lt
 clear hV hbV HQ1 HB1
 obtain ⟨gL,HgL⟩:∃ n,Hid (W1.heap.size=n):=⟨_,Lib.hid rfl⟩
 rw [HgL.out] at hL hlt ⊢
 by_cases hE:E=0
 case neg =>
  have HE:Hid (R=(Ev.Letter.zero,E)):=Lib.hid (by rw [←HR.out,if_neg hE])
  have t1:((E:Int) != 0)=true:=by rw [bne_iff_ne];omega
  have t2:¬(E:Int)=0:=by omega
  go_wp2_with (refine wpList_store_row rfl _ _ _ rfl _ _ rfl rfl _ _ hQ (by kernel_rfl) rfl (by simp [Value.oneCell']) ?_)
  (refine ret_row rfl _ rfl _ _ _ (hQ.row _) Tryz.underlying40 rfl (by kernel_rfl) rfl ⟨?_,below_row hB (by omega) _⟩)
  rw [HE.out]
  rfl
 subst hE
 have HE:Hid (R=(⟨3,k1,k2,k3,k4,k5,k6,k7,k8,k9⟩,0)):=Lib.hid (by rw [←HR.out,if_pos rfl])
 go_upto_region 4 with (fail)
 have fL:=hL.frozen 0
 have cL:=hL.cell 0
 simp only [List.getElem?_toArray,List.getElem?_cons_zero] at cL
 go_upto_region 5 with (fail)
 refine wp_named (fun V3 hV=>?_)
 have hx:Bk V3 gL 40 #[.int .u8 3,.int .i64 k1,.int .i64 k2,.int .u64 k3,.string k4,.int .u64 k5,.string k6,.string k7,.int .i64 k8,.string k9]:=by rw [hV];exact hL.set_ 0 _
 have hy:Bk V3 (w.heap.size+1) 40 #[.int .u8 0,.int .i64 0,.int .i64 0,.int .u64 0,.string ⟨#[]⟩,.int .u64 0,.string ⟨#[]⟩,.string ⟨#[]⟩,.int .i64 0,.string ⟨#[]⟩]:=by rw [hV];exact hQ.far (p:=⟨gL,0,none⟩) (by show w.heap.size+1≠gL;omega) _
 have hz:Below w.heap.size w V3:=by rw [hV];exact hB.setCell (p:=⟨gL,0,none⟩) (by show w.heap.size≤gL;omega) _
 clear hL hQ hB hV cL fL
 have hL:=hx
 have hQ:=hy
 have hB:=hz
 clear hx hy hz
 go_wp2_with (first | (refine wpList_load_row rfl _ _ rfl _ rfl _ _ _ _ hL Tryz.underlying40 rfl (by kernel_rfl) ?_) | (refine wpList_store_row rfl _ _ _ rfl _ _ rfl rfl _ _ hQ (by kernel_rfl) rfl (by simp [Value.oneCell']) ?_))
 (refine ret_row rfl _ rfl _ _ _ (hQ.row _) Tryz.underlying40 rfl (by kernel_rfl) rfl ⟨?_,below_row hB (by omega) _⟩)
 rw [HE.out]
 rfl
set_option maxRecDepth 100000 in
set_option maxHeartbeats 16000000 in
theorem rscall_any (sv:Value) (x:Id.Sch) (hF:Chk.Fine x) (g id:ByteArray) (hid:id.size≤100000) (i:Int) (back:Bool) (fr:Int) (body:ByteArray) (w:World) (hv:Id.SchV w none sv x) :
  Calls Tryz.prog 18 #[sv,.string g,.string id,.int .i64 i,.bool back,.int .i64 fr,.string body] w fun e w'=>e=.returned (.tuple #[(Sd.call x g id i back fr body).1.val,.int .i64 ((Sd.call x g id i back fr body).2:Nat)])∧Below w.heap.size w w':=by
 have hlo:=fun W v=>rsone_any sv x hF g id hid i fr W v
 obtain ⟨R,HR⟩:∃ R,Hid (Sd.call x g id i back fr body=R):=⟨_,Lib.hid rfl⟩
 rw [HR.out]
 rw [Sd.call_of] at HR
 obtain ⟨⟨⟨k0,k1,k2,k3,k4,k5,k6,k7,k8,k9⟩,E⟩,HG⟩:∃ G,Hid (Sd.letter x g id i fr=G):=⟨_,Lib.hid rfl⟩
 rw [HG.out] at HR
 simp only at HR
 simp only [HG.out,Ev.Letter.val] at hlo
 have HFO:=Lib.hid hlo
 clear hlo
 have HV:=Lib.hid hv
 obtain ⟨A1,n1,c1,A2,n2,c2,A3,n3,c3,rfl,-,-,-⟩:=hv
 go_enter Tryz.func18,Tryz.ntmps18
 go_upto_region 1 with (fail)
 refine wp_named (fun V hV=>?_)
 have HL:Hid (Chk.Lx w V #[.string x.name,.slice A1 n1 c1,.slice A2 n2 c2,.slice A3 n3 c3]):=Lib.hid (by subst hV;exact ⟨((Below.refl _ _).alloc (Nat.le_refl _) _).alloc (by simp) _,(Bk.new w _ _).alloc _⟩)
 have HQ:Hid (Bk V (w.heap.size+1) 40 #[.int .u8 0,.int .i64 0,.int .i64 0,.int .u64 0,.string ⟨#[]⟩,.int .u64 0,.string ⟨#[]⟩,.string ⟨#[]⟩,.int .i64 0,.string ⟨#[]⟩]):=Lib.hid (by subst hV;have h:=Bk.new (w.alloc (.cells #[.string x.name,.slice A1 n1 c1,.slice A2 n2 c2,.slice A3 n3 c3] 33)) 40 #[.int .u8 0,.int .i64 0,.int .i64 0,.int .u64 0,.string ⟨#[]⟩,.int .u64 0,.string ⟨#[]⟩,.string ⟨#[]⟩,.int .i64 0,.string ⟨#[]⟩];rw [World.size_alloc] at h;exact h)
 clear hV
 obtain ⟨⟨q0,q1,q2,q3⟩,-⟩:=HL.out.box.k4
 go_wp2_with fail
 refine (HFO.out _ (Id.SchV.below HL.out.bel HV.out)).mono ?_
 rintro e W1 ⟨rfl,hb⟩
 have HL1:=Lib.hid (HL.out.below hb)
 have HQ1:=Lib.hid (HQ.out.below hb HQ.out.lt)
 clear hb q0 q1 q2 q3 HL HQ HFO
 go_upto_region 2 with (fail)
 refine wp_named (fun V2 hV=>?_)
 obtain ⟨hbV,hL,-⟩:=fresh_box hV
 have HL:=Lib.hid (HL1.out.below hbV)
 have hB:=HL.out.bel
 have hQ:=HQ1.out.below hbV HQ1.out.lt
 have hlt:=HQ1.out.lt
 clear hV hbV HQ1 HL1
 obtain ⟨gL,HgL⟩:∃ n,Hid (W1.heap.size=n):=⟨_,Lib.hid rfl⟩
 rw [HgL.out] at hL hlt ⊢
 by_cases hE:E=0
 case neg =>
  have HE:Hid (R=(Ev.Letter.zero,E)):=Lib.hid (by rw [←HR.out,if_pos hE])
  have t1:((E:Int) != 0)=true:=by rw [bne_iff_ne];omega
  have t2:¬(E:Int)=0:=by omega
  go_wp2_with (refine wpList_store_row rfl _ _ _ rfl _ _ rfl rfl _ _ hQ (by kernel_rfl) rfl (by simp [Value.oneCell']) ?_)
  (refine ret_row rfl _ rfl _ _ _ (hQ.row _) Tryz.underlying40 rfl (by kernel_rfl) rfl ⟨?_,below_row hB (by omega) _⟩)
  rw [HE.out]
  rfl
 subst hE
 rw [if_neg (by simp)] at HR
 go_upto_region 4 with (fail)
 have fL:=hL.frozen 0
 have cL:=hL.cell 0
 have fL9:=hL.frozen 9
 have cL9:=hL.cell 9
 simp only [List.getElem?_toArray,List.getElem?_cons_zero,List.getElem?_cons_succ] at cL cL9
 go_upto_region 6 with (fail)
 refine wp_named (fun V3 hV=>?_)
 have hx:Bk V3 gL 40 #[.int .u8 1,.int .i64 k1,.int .i64 k2,.int .u64 k3,.string k4,.int .u64 k5,.string k6,.string k7,.int .i64 k8,.string body]:=by rw [hV];exact (hL.set_ 0 _).set_ 9 _
 have hy:Bk V3 (w.heap.size+1) 40 #[.int .u8 0,.int .i64 0,.int .i64 0,.int .u64 0,.string ⟨#[]⟩,.int .u64 0,.string ⟨#[]⟩,.string ⟨#[]⟩,.int .i64 0,.string ⟨#[]⟩]:=by rw [hV];exact (hQ.far (p:=⟨gL,0,none⟩) (by show w.heap.size+1≠gL;omega) _).far (p:=⟨gL,9,none⟩) (by show w.heap.size+1≠gL;omega) _
 have hz:Chk.Lx w V3 #[.string x.name,.slice A1 n1 c1,.slice A2 n2 c2,.slice A3 n3 c3]:=by rw [hV];exact ⟨(hB.setCell (p:=⟨gL,0,none⟩) (by show w.heap.size≤gL;omega) _).setCell (p:=⟨gL,9,none⟩) (by show w.heap.size≤gL;omega) _,(HL.out.box.far (p:=⟨gL,0,none⟩) (by show w.heap.size≠gL;omega) _).far (p:=⟨gL,9,none⟩) (by show w.heap.size≠gL;omega) _⟩
 clear hL hQ hB hV cL fL cL9 fL9 HL
 have hL:=hx
 have hQ:=hy
 have HL:=Lib.hid hz
 clear hx hy hz
 cases back with
 | false =>
  have HE:Hid (R=(⟨1,k1,k2,k3,k4,k5,k6,k7,k8,body⟩,0)):=Lib.hid (by rw [←HR.out,if_pos rfl])
  have hB:=HL.out.bel
  go_wp2_with (first | (refine wpList_load_row rfl _ _ rfl _ rfl _ _ _ _ hL Tryz.underlying40 rfl (by kernel_rfl) ?_) | (refine wpList_store_row rfl _ _ _ rfl _ _ rfl rfl _ _ hQ (by kernel_rfl) rfl (by simp [Value.oneCell']) ?_))
  (refine ret_row rfl _ rfl _ _ _ (hQ.row _) Tryz.underlying40 rfl (by kernel_rfl) rfl ⟨?_,below_row hB (by omega) _⟩)
  rw [HE.out]
  rfl
 | true =>
  rw [if_neg (by simp)] at HR
  go_upto_region 8 with (fail)
  obtain ⟨⟨q0,q1,q2,q3⟩,-⟩:=HL.out.box.k4
  have cL6:=hL.cell 6
  have cL7:=hL.cell 7
  simp only [List.getElem?_toArray,List.getElem?_cons_zero,List.getElem?_cons_succ] at cL6 cL7
  go_wp2_with fail
  refine (rmethod_any _ x k6 k7 _ (Id.SchV.below HL.out.bel HV.out)).mono ?_
  obtain ⟨⟨m0,m1,m2,m3,u⟩,HM⟩:∃ G,Hid ((Chk.meth x k6 k7).getD Chk.mthZ=G):=⟨_,Lib.hid rfl⟩
  have HU:Hid (Sd.undoOf x ⟨k0,k1,k2,k3,k4,k5,k6,k7,k8,k9⟩=u):=Lib.hid (by unfold Sd.undoOf;rw [HM.out])
  rw [HU.out] at HR
  rw [HM.out]
  rintro e W4 ⟨rfl,hb⟩
  unfold Chk.mthV
  have HL4:=Lib.hid (HL.out.below hb)
  have hL4:=hL.below hb hL.lt
  have hQ4:=hQ.below hb hQ.lt
  clear hb q0 q1 q2 q3 cL6 cL7 hL hQ HL
  go_upto_region 9 with (fail)
  refine wp_named (fun V5 hV=>?_)
  obtain ⟨hbV,hM,-⟩:=fresh_box hV
  have hB:=HL4.out.bel.trans (hbV.mono HL4.out.bel.size)
  have hQ:=hQ4.below hbV hQ4.lt
  have hL:=hL4.below hbV hL4.lt
  have hlt4:=hL4.lt
  clear hV hbV HL4 hQ4 hL4
  obtain ⟨gM,HgM⟩:∃ n,Hid (W4.heap.size=n):=⟨_,Lib.hid rfl⟩
  rw [HgM.out] at hM hlt4 ⊢
  have cM:=hM.cell 4
  simp only [List.getElem?_toArray,List.getElem?_cons_zero,List.getElem?_cons_succ] at cM
  by_cases hu:u.toList.isEmpty=true
  case pos =>
   have HE:Hid (R=(Ev.Letter.zero,133)):=Lib.hid (by rw [←HR.out,if_pos hu])
   go_wp2_with (refine wpList_store_row rfl _ _ _ rfl _ _ rfl rfl _ _ hQ (by kernel_rfl) rfl (by simp [Value.oneCell']) ?_)
   (refine ret_row rfl _ rfl _ _ _ (hQ.row _) Tryz.underlying40 rfl (by kernel_rfl) rfl ⟨?_,below_row hB (by omega) _⟩)
   rw [HE.out]
   rfl
  have HE:Hid (R=(⟨1,k1,k2,k3,Sd.keyB id i true,k5,k6,u,k8,body⟩,0)):=Lib.hid (by rw [←HR.out,if_neg hu])
  have hu:u.toList.isEmpty=false:=by simpa using hu
  have hkey:=fun W=>rskey_any id hid i true W
  obtain ⟨KB,HKB⟩:∃ n,Hid (Sd.keyB id i true=n):=⟨_,Lib.hid rfl⟩
  rw [HKB.out] at hkey HE
  have HKEY:=Lib.hid hkey
  clear hkey
  go_upto_region 11 with (fail)
  have fL7:=hL.frozen 7
  have cL7:=hL.cell 7
  simp only [List.getElem?_toArray,List.getElem?_cons_zero,List.getElem?_cons_succ] at cL7
  go_upto_region 12 with (fail)
  refine wp_named (fun X hV=>?_)
  have hx:Bk X gL 40 #[.int .u8 1,.int .i64 k1,.int .i64 k2,.int .u64 k3,.string k4,.int .u64 k5,.string k6,.string u,.int .i64 k8,.string body]:=by rw [hV];exact hL.set_ 7 _
  have hy:Bk X (w.heap.size+1) 40 #[.int .u8 0,.int .i64 0,.int .i64 0,.int .u64 0,.string ⟨#[]⟩,.int .u64 0,.string ⟨#[]⟩,.string ⟨#[]⟩,.int .i64 0,.string ⟨#[]⟩]:=by rw [hV];exact hQ.far (p:=⟨gL,7,none⟩) (by show w.heap.size+1≠gL;omega) _
  have hz:Below w.heap.size w X:=by rw [hV];exact hB.setCell (p:=⟨gL,7,none⟩) (by show w.heap.size≤gL;omega) _
  clear hL hQ hB hV fL7 cL7 cM hM
  have HL:=Lib.hid hx
  have HQ:=Lib.hid hy
  have HB:=Lib.hid hz
  clear hx hy hz
  go_wp2_with fail
  refine (HKEY.out _).mono ?_
  rintro e Y ⟨rfl,hb⟩
  have HL2:=HL.out.below hb HL.out.lt
  have HQ2:=HQ.out.below hb HQ.out.lt
  have HB2:=HB.out.trans (hb.mono HB.out.size)
  have fL4:=HL2.frozen 4
  have cL4:=HL2.cell 4
  simp only [List.getElem?_toArray,List.getElem?_cons_zero,List.getElem?_cons_succ] at cL4
  clear hb HL HQ HB
  go_upto_region 13 with (fail)
  refine wp_named (fun Z hV=>?_)
  have hL:Bk Z gL 40 #[.int .u8 1,.int .i64 k1,.int .i64 k2,.int .u64 k3,.string KB,.int .u64 k5,.string k6,.string u,.int .i64 k8,.string body]:=by rw [hV];exact HL2.set_ 4 _
  have hQ:Bk Z (w.heap.size+1) 40 #[.int .u8 0,.int .i64 0,.int .i64 0,.int .u64 0,.string ⟨#[]⟩,.int .u64 0,.string ⟨#[]⟩,.string ⟨#[]⟩,.int .i64 0,.string ⟨#[]⟩]:=by rw [hV];exact HQ2.far (p:=⟨gL,4,none⟩) (by show w.heap.size+1≠gL;omega) _
  have hB:Below w.heap.size w Z:=by rw [hV];exact HB2.setCell (p:=⟨gL,4,none⟩) (by show w.heap.size≤gL;omega) _
  clear HL2 HQ2 HB2 hV fL4 cL4
  go_wp2_with (first | (refine wpList_load_row rfl _ _ rfl _ rfl _ _ _ _ hL Tryz.underlying40 rfl (by kernel_rfl) ?_) | (refine wpList_store_row rfl _ _ _ rfl _ _ rfl rfl _ _ hQ (by kernel_rfl) rfl (by simp [Value.oneCell']) ?_))
  (refine ret_row rfl _ rfl _ _ _ (hQ.row _) Tryz.underlying40 rfl (by kernel_rfl) rfl ⟨?_,below_row hB (by omega) _⟩)
  rw [HE.out]
  rfl
end Go.Proofs.YtlbihaikppkecaaGreatDoor
set_option linter.unusedVariables false
set_option linter.unusedSimpArgs false
namespace Go.Proofs.YtlbihaikppkecaaGreatDoor
open Go.RowKit Go.BigFrame
namespace Sd
open Go.Proofs.YtlbihaikppkecaaGreatDoor.Id Go.Proofs.YtlbihaikppkecaaGreatDoor.Chk Go.Proofs.YtlbihaikppkecaaGreatDoor.Ev
theorem ten {w:World} {g:Nat} {t:TypeId} {a0 a1 a2 a3 a4 a5 a6 a7 a8 a9:Value} (h:Bk w g t #[a0,a1,a2,a3,a4,a5,a6,a7,a8,a9]) :
  w.cell? ⟨g,0,none⟩=some a0∧w.cell? ⟨g,1,none⟩=some a1∧w.cell? ⟨g,2,none⟩=some a2∧w.cell? ⟨g,3,none⟩=some a3∧w.cell? ⟨g,4,none⟩=some a4∧w.cell? ⟨g,5,none⟩=some a5∧w.cell? ⟨g,6,none⟩=some a6∧w.cell? ⟨g,7,none⟩=some a7∧w.cell? ⟨g,8,none⟩=some a8∧w.cell? ⟨g,9,none⟩=some a9 :=
 ⟨h.cell 0,h.cell 1,h.cell 2,h.cell 3,h.cell 4,h.cell 5,h.cell 6,h.cell 7,h.cell 8,h.cell 9⟩
theorem shop_print:∃ p:Nat,Prn.print shop=(p,0)∧p≠0:=by
 refine ⟨Sm.print (Prn.jn (Prn.schW shop)).data.toList,?_,by decide +kernel⟩
 have ht:Prn.text shop=(Prn.jn (Prn.schW shop),0):=by
  unfold Prn.text
  rw [shop_check,if_neg (show ¬((⟨#[]⟩:ByteArray),0).2≠0 by simp),if_neg (by decide +kernel)]
 unfold Prn.print
 rw [ht,if_neg (show ¬(Prn.jn (Prn.schW shop),0).2≠0 by simp)]
theorem shop_saga:sagaOf shop ⟨#[103]⟩=some ⟨⟨#[103]⟩,⟨#[79]⟩,[⟨⟨#[83]⟩,⟨#[116]⟩,0⟩,⟨⟨#[83]⟩,⟨#[110]⟩,1⟩]⟩:=by kernel_rfl
theorem shop_call {p:Nat} (h:Prn.print shop=(p,0)):call shop ⟨#[103]⟩ ⟨#[97,49]⟩ 0 true 1 ⟨#[120]⟩=(⟨1,1,0,0,⟨#[97,49,46,48,99]⟩,p,⟨#[83]⟩,⟨#[117]⟩,0,⟨#[120]⟩⟩,0):=by
 have hf:foundE shop ⟨#[103]⟩=0:=by
  unfold foundE
  rw [h,shop_saga,if_neg (by simp)]
  rfl
 have hs:sag shop ⟨#[103]⟩=⟨⟨#[103]⟩,⟨#[79]⟩,[⟨⟨#[83]⟩,⟨#[116]⟩,0⟩,⟨⟨#[83]⟩,⟨#[110]⟩,1⟩]⟩:=by
  unfold sag
  rw [shop_saga]
  rfl
 have hl:letE shop ⟨#[103]⟩ ⟨#[97,49]⟩ 0 1=0:=by
  unfold letE
  rw [hf,hs,if_neg (by simp),if_neg (by decide),if_neg (by decide)]
 have hst:stp shop ⟨#[103]⟩ 0=⟨⟨#[83]⟩,⟨#[116]⟩,0⟩:=by
  unfold stp
  rw [hs]
  rfl
 have hb:base shop ⟨#[103]⟩ ⟨#[97,49]⟩ 0 1=⟨0,1,0,0,keyB ⟨#[97,49]⟩ 0 false,p,⟨#[83]⟩,⟨#[116]⟩,0,ByteArray.empty⟩:=by
  unfold base
  rw [hst,h]
 have hu:undoOf shop ⟨0,1,0,0,keyB ⟨#[97,49]⟩ 0 false,p,⟨#[83]⟩,⟨#[116]⟩,0,ByteArray.empty⟩=⟨#[117]⟩:=by
  unfold undoOf
  show ((meth shop ⟨#[83]⟩ ⟨#[116]⟩).getD mthZ).undo=_
  kernel_rfl
 have hk:keyB ⟨#[97,49]⟩ 0 true=⟨#[97,49,46,48,99]⟩:=by kernel_rfl
 unfold call
 rw [hl,hb,hu,hk,if_neg (by simp),if_neg (by simp),if_neg (by decide +kernel)]
theorem wk_read:readP (⟨#[97,49,46,55,99]⟩:ByteArray).data.toList=some ([97,49],7,true):=by kernel_rfl
end Sd
set_option maxRecDepth 100000 in
set_option maxHeartbeats 8000000 in
theorem wakes22_any (w:World) (hk:Tk.KW w):Calls Tryz.prog 13 #[] w fun e w'=>e=.returned (.bool true)∧Below w.heap.size w w':=by
 have HK:=Lib.hid hk
 clear hk
 obtain ⟨p,HPR,hp0⟩:=Sd.shop_print
 have HCL:=Lib.hid (Sd.shop_call HPR)
 have HRD:=Lib.hid (sread_any ⟨#[97,49,46,55,99]⟩ (by decide))
 rw [Sd.wk_read] at HRD
 clear HPR
 go_enter Tryz.func13,Tryz.ntmps13
 go_wp2_with fail
 refine (shop_any _).mono ?_
 rintro e w1 ⟨v,rfl,hb1,hsv⟩
 have HB1:=Lib.hid hb1
 have HS1:=Lib.hid (Id.SchV.weak (Id.wk_none _) hsv:Id.SchV w1 none v Chk.shop)
 clear hb1 hsv
 go_wp2_with fail
 refine (scall_any v Chk.shop (Chk.shop_fine _ (by decide)) ⟨#[103]⟩ ⟨#[97,49]⟩ (by decide) 0 true 1 ⟨#[120]⟩ w1 (HK.out.below HB1.out) HS1.out).mono ?_
 rw [HCL.out]
 rintro e w2 ⟨rfl,hb2⟩
 have HB2:=Lib.hid (HB1.out.trans (hb2.mono HB1.out.size))
 clear hb2
 unfold Ev.Letter.val
 go_upto_region 2 with (fail)
 refine wp_named (fun W3 hW3=>?_)
 obtain ⟨hb3,hq3,-⟩:=fresh_box hW3
 have HB3:=Lib.hid (HB2.out.trans (hb3.mono HB2.out.size))
 have HQ3:=Lib.hid hq3
 clear hb3 hq3 hW3
 go_wp2_with fail
 refine (HRD.out _).mono ?_
 rintro e w4 ⟨rfl,hb4⟩
 have HB4:=Lib.hid (HB3.out.trans (hb4.mono HB3.out.size))
 have hq4:=HQ3.out.below hb4 HQ3.out.lt
 clear hb4 HQ3
 obtain ⟨c0,c1,c2,c3,c4,c5,c6,c7,c8,c9⟩:=Sd.ten hq4
 unfold Sd.readV
 have hp:¬(p:Int)=0:=by omega
 have hp2:((p:Int) != 0)=true:=by rw [bne_iff_ne];omega
 go_wp2_with fail
 go_ret
 exact ⟨rfl,HB4.out⟩
end Go.Proofs.YtlbihaikppkecaaGreatDoor
set_option linter.unusedVariables false
set_option linter.unusedSimpArgs false
namespace Go.Proofs.YtlbihaikppkecaaGreatDoor
open Go.RowKit Go.BigFrame
theorem Sd.readV_is (o:Option (List UInt8 × Int × Bool)):∃ p q r s,Sd.readV o=.tuple #[.string p,.int .i64 q,.bool r,.bool s]:=by
 cases o with
 | none=>exact ⟨_,_,_,_,rfl⟩
 | some q=>exact ⟨_,_,_,_,rfl⟩
set_option maxRecDepth 100000 in
set_option maxHeartbeats 16000000 in
theorem sagadefKeys_walk (a b:ByteArray) (i:Int) (x:Bool) (ha:a.size≤maxLen) (hb:b.size≤maxLen) (hi:(Lit.int .i64 i).wf=true) (w:World) (hk:Tk.KW w) :
  Calls Tryz.prog 3 #[.string a,.string b,.int .i64 i,.bool x] w fun e w'=>e=.returned (.bool true)∧Below w.heap.size w w':=by
 have HK:=Lib.hid hk
 clear hk hi ha hb
 go_enter Tryz.func3,Tryz.ntmps3
 have HA:Hid (∃ A:ByteArray,A.size≤500∧(500<a.size→a.extract 0 500=A)∧(¬500<a.size→a=A)):=Lib.hid (by
  by_cases h:500<a.size
  ·exact ⟨a.extract 0 500,by simp;omega,fun _=>rfl,fun h'=>absurd h h'⟩
  ·exact ⟨a,by omega,fun h'=>absurd h' h,fun _=>rfl⟩)
 have HB:Hid (∃ A:ByteArray,A.size≤500∧(500<b.size→b.extract 0 500=A)∧(¬500<b.size→b=A)):=Lib.hid (by
  by_cases h:500<b.size
  ·exact ⟨b.extract 0 500,by simp;omega,fun _=>rfl,fun h'=>absurd h h'⟩
  ·exact ⟨b,by omega,fun h'=>absurd h' h,fun _=>rfl⟩)
 obtain ⟨A,hA,hA1,hA2⟩:=HA.out
 obtain ⟨B,hB,hB1,hB2⟩:=HB.out
 clear HA HB
 have HA:=Lib.hid hA
 have HB:=Lib.hid hB
 have hr:=fun W=>sread_any B (by omega) W
 have hrr:=fun W=>rsread_any B (by omega) W
 rw [Sd.read_same] at hr
 obtain ⟨p,q,r,s,hV⟩:=Sd.readV_is (Sd.readL B.data.toList)
 rw [hV] at hr hrr
 have HR:=Lib.hid hr
 have HRR:=Lib.hid hrr
 have HI:=Lib.hid (fun W=>sid_any A (by omega) W)
 have HRI:=Lib.hid (fun W=>rsid_any A (by omega) W)
 have HY:=Lib.hid (fun W=>skey_any A (by omega) i x W)
 have HRY:=Lib.hid (fun W=>rskey_any A (by omega) i x W)
 clear hr hrr hV
 have main:∀ (P:Prop),P→P:=fun _ h=>h
 by_cases h1:500<a.size
 all_goals
  have h1i:(500:Int)<(a.size:Int)∨¬(500:Int)<(a.size:Int):=by omega
  by_cases h2:500<b.size
  all_goals
   first
    | (have g1:(500:Int)<(a.size:Int):=by omega
       have g1b:(500:Int)≤(a.size:Int):=by omega
       have e1:=hA1 h1)
    | (have g1:¬(500:Int)<(a.size:Int):=by omega
       obtain rfl:=hA2 h1)
   first
    | (have g2:(500:Int)<(b.size:Int):=by omega
       have g2b:(500:Int)≤(b.size:Int):=by omega
       have e2:=hB1 h2)
    | (have g2:¬(500:Int)<(b.size:Int):=by omega
       obtain rfl:=hB2 h2)
   clear hA1 hA2 hB1 hB2 h1i main
   go_wp2_with fail
   try rw [e1]
   try rw [e2]
   refine (HR.out _).mono ?_
   rintro e w1 ⟨rfl,hb1⟩
   have hbA:=hb1
   clear hb1
   go_wp2_with fail
   refine (HRR.out _).mono ?_
   rintro e w2 ⟨rfl,hb2⟩
   have hbB:=hbA.trans (hb2.mono hbA.size)
   clear hb2 hbA
   go_wp2_with fail
   refine (HI.out _).mono ?_
   rintro e w3 ⟨rfl,hb3⟩
   have hbC:=hbB.trans (hb3.mono hbB.size)
   clear hb3 hbB
   go_wp2_with fail
   refine (HRI.out _).mono ?_
   rintro e w4 ⟨rfl,rfl⟩
   go_wp2_with fail
   refine (HY.out _).mono ?_
   rintro e w5 ⟨rfl,hb3⟩
   have hbD:=hbC.trans (hb3.mono hbC.size)
   clear hb3 hbC
   go_wp2_with fail
   refine (HRY.out _).mono ?_
   rintro e w6 ⟨rfl,hb3⟩
   have hbE:=hbD.trans (hb3.mono hbD.size)
   clear hb3 hbD
   go_wp2_with fail
   refine (wakes22_any _ (HK.out.below hbE)).mono ?_
   rintro e w7 ⟨rfl,hb3⟩
   have hbF:=hbE.trans (hb3.mono hbE.size)
   clear hb3 hbE
   go_wp2_with fail
   go_ret
   exact ⟨rfl,hbF⟩
end Go.Proofs.YtlbihaikppkecaaGreatDoor
set_option linter.unusedVariables false
namespace Go.Proofs.YtlbihaikppkecaaGreatDoor
open Go.ChangeShapes Go.WideShapes Go.ChangeAt Go.RowKit
namespace Kw
theorem gK : Tryz.prog.globalNamed "redress/token.keywords" = some 1 := by kernel_rfl
theorem tK:(Tryz.prog.globals[1]?).map (·.type)=some 140:=by kernel_rfl
theorem c9:Tryz.prog.cellsOf 9=1:=by kernel_rfl
/-- The list of what is laid. -/
abbrev laidL : List (String × DataW Unit) := [("math/bits.deBruijn32tab", Rows.laid_math_bits_deBruijn32tab), ("math/bits.deBruijn64tab", Rows.laid_math_bits_deBruijn64tab), ("internal/strconv.uint64pow10", Rows.laid_internal_strconv_uint64pow10), ("redress/token.keywords", Rows.laid_redress_token_keywords)]
/-- The door's own heap meets the condition. -/
theorem door_met (os:Os) (args:Array Value):laidMetH Tryz.prog laidL ((World.doorLaid Tryz.prog 400 os).forCall (fun _ _=>0) ⟨#[],args,[]⟩).memory :=
 laidMetH_of_parts3 (fuel:=8) (laidMet_of_run' 8 (by kernel_rfl) (by kernel_rfl)) (by kernel_rfl) (by kernel_rfl)
theorem data_eq:(Rows.laid_redress_token_keywords:DataW Unit)=.agg (Tk.words.map fun x=>.lit (.string x.data.toList)):=by kernel_rfl
theorem of_laid {W:World} (h:laidMetH Tryz.prog laidL W):Tk.KW W:=by
 rw [MakeChecks.laidMetH_plain _ _ _ (by kernel_rfl)] at h
 obtain ⟨ps,hps,_,_⟩:=h
 obtain ⟨_,_,_,_,_,_,_,_,_,_,hps,_⟩:=hps
 obtain ⟨_,_,_,_,_,_,_,_,_,_,hps,_⟩:=hps
 obtain ⟨_,_,_,_,_,_,_,_,_,_,hps,_⟩:=hps
 obtain ⟨g0,t0,cs0,f0,p0,q0,hg0,ht0,hv0,hd0,_⟩:=hps
 obtain rfl:=Option.some.inj (gK.symm.trans hg0)
 obtain rfl:=Option.some.inj (tK.symm.trans ht0)
 obtain ⟨xs,m1,rfl,hx1,hlen,hn,hel⟩:=DataW.trod_array Tryz.underlying140 hd0
 simp only [Prod.mk.injEq] at hx1
 have hx2:(Tk.words.map fun x=>(DataW.lit (.string x.data.toList):DataW Unit))=xs.map (·.1):=by
  have:=hx1.1
  rw [data_eq] at this
  injection this
 have key:∀ j,j<Tk.words.length→W.cell? ⟨1,0+j,none⟩=some (.string (Tk.words.getD j ByteArray.empty)):=by
  intro j hj
  have hj17:j<17:=hj
  have h1:=hel j hj17
  rw [c9] at h1
  have hjx:j<xs.length:=by omega
  rw [List.getElem?_eq_getElem hjx] at h1
  obtain ⟨s,e1,e2,_⟩:=DataW.trod_string Tryz.underlying9 h1
  have h3:(xs.map (·.1))[j]?=some (DataW.lit (.string Tk.words[j].data.toList)):=by
   rw [←hx2,List.getElem?_map,List.getElem?_eq_getElem hj]
   rfl
  rw [List.getElem?_map,List.getElem?_eq_getElem hjx,e2] at h3
  simp only [Option.map_some,Option.some.injEq,DataW.lit.injEq,Lit.string.injEq] at h3
  have hs:s=Tk.words[j]:=by
   cases s
   cases hw:Tk.words[j]
   rw [hw] at h3
   simp only at h3
   rw [Array.toList_inj.1 h3]
  have hc:=World.var?_cell hg0 hv0 j
  rw [Nat.zero_add,hc]
  have e4:cs0.toList[j]?=some (.string s):=by
   have:((cs0.toList.drop (j * 1)).take 1)[0]?=some (.string s):=by rw [e1];rfl
   rw [List.getElem?_take_of_lt (by omega),List.getElem?_drop] at this
   simpa using this
  have e5:Tk.words.getD j ByteArray.empty=s:=by rw [hs,List.getD_eq_getElem?_getD,List.getElem?_eq_getElem hj];rfl
  rw [e5]
  simpa using e4
 refine ⟨?_,key⟩
 exact World.block_lt_of_cell? W _ (key 0 (by decide))
end Kw
end Go.Proofs.YtlbihaikppkecaaGreatDoor
set_option linter.unusedVariables false
set_option linter.unusedSimpArgs false
namespace Go.Proofs.YtlbihaikppkecaaGreatDoor
open Go.RowKit Go.BigFrame
namespace Sd
theorem keyB_list (a:ByteArray) (i:Int) (x:Bool):(keyB a i x).toList=keyL a.data.toList i x:=by
 rw [ByteArray.toList_eq]
 rfl
end Sd
set_option maxRecDepth 100000 in
set_option maxHeartbeats 16000000 in
theorem sagadefApart_walk (a b:ByteArray) (i j:Int) (x y:Bool) (ha:a.size≤maxLen) (hb:b.size≤maxLen) (hi:(Lit.int .i64 i).wf=true) (hj:(Lit.int .i64 j).wf=true) (w:World) (hk:Tk.KW w) :
  Calls Tryz.prog 4 #[.string a,.string b,.int .i64 i,.int .i64 j,.bool x,.bool y] w fun e w'=>e=.returned (.bool true)∧Below w.heap.size w w':=by
 have HK:=Lib.hid hk
 clear hk hi hj ha hb
 go_enter Tryz.func4,Tryz.ntmps4
 by_cases hbig:(500:Int)<(a.size:Int)∨(500:Int)<(b.size:Int)
 case pos =>
  rcases hbig with h | h
  ·go_wp2_with fail
   refine (wakes22_any _ HK.out).mono ?_
   rintro e w7 ⟨rfl,hb3⟩
   go_wp2_with fail
   go_ret
   exact ⟨rfl,hb3⟩
  ·by_cases h0:(500:Int)<(a.size:Int)
   all_goals
    go_wp2_with fail
    refine (wakes22_any _ HK.out).mono ?_
    rintro e w7 ⟨rfl,hb3⟩
    go_wp2_with fail
    go_ret
    exact ⟨rfl,hb3⟩
 have hA:¬(500:Int)<(a.size:Int):=by omega
 have hB:¬(500:Int)<(b.size:Int):=by omega
 clear hbig
 have HY:=Lib.hid (fun W=>skey_any a (by omega) i x W)
 have HY2:=Lib.hid (fun W=>skey_any b (by omega) j y W)
 have HI:=Lib.hid (fun W=>sid_any a (by omega) W)
 obtain ⟨K1,HK1⟩:∃ K,Hid (Sd.keyB a i x=K):=⟨_,Lib.hid rfl⟩
 obtain ⟨K2,HK2⟩:∃ K,Hid (Sd.keyB b j y=K):=⟨_,Lib.hid rfl⟩
 rw [HK1.out] at HY
 rw [HK2.out] at HY2
 have HL1:Hid (K1.toList=Sd.keyL a.data.toList i x):=Lib.hid (by rw [←HK1.out,Sd.keyB_list])
 have HL2:Hid (K2.toList=Sd.keyL b.data.toList j y):=Lib.hid (by rw [←HK2.out,Sd.keyB_list])
 have HSZ:Hid (K1.size≤27):=Lib.hid (by
  have h:=Sd.key_len (a:=a.data.toList) (i:=i) (x:=x)
  rw [←HL1.out] at h
  have e:K1.toList.length=K1.size:=by rw [ByteArray.toList_eq];simp
  omega)
 go_wp2_with fail
 refine (HY.out _).mono ?_
 rintro e w1 ⟨rfl,hbA⟩
 go_wp2_with fail
 refine (HY2.out _).mono ?_
 rintro e w2 ⟨rfl,hb2⟩
 have hbB:=hbA.trans (hb2.mono hbA.size)
 clear hb2 hbA
 by_cases he:K1.toList.isEmpty=true
 case pos =>
  have hno:Sd.idL a.data.toList=false∨i<0∨8≤i:=Sd.key_none.1 (by rw [←HL1.out];exact List.isEmpty_iff.1 he)
  go_wp2_with fail
  refine (HI.out _).mono ?_
  generalize Sd.idL a.data.toList=I at *
  rintro e w3 ⟨rfl,hb2⟩
  have hbC:=hbB.trans (hb2.mono hbB.size)
  clear hb2 hbB
  rcases hno with rfl | h | h
  ·go_wp2_with fail
   refine (wakes22_any _ (HK.out.below hbC)).mono ?_
   rintro e w7 ⟨rfl,hb3⟩
   go_wp2_with fail
   go_ret
   exact ⟨rfl,hbC.trans (hb3.mono hbC.size)⟩
  ·cases I
   all_goals
    go_wp2_with fail
    refine (wakes22_any _ (HK.out.below hbC)).mono ?_
    rintro e w7 ⟨rfl,hb3⟩
    go_wp2_with fail
    go_ret
    exact ⟨rfl,hbC.trans (hb3.mono hbC.size)⟩
  ·have h0:¬i<0:=by omega
   cases I
   all_goals
    go_wp2_with fail
    refine (wakes22_any _ (HK.out.below hbC)).mono ?_
    rintro e w7 ⟨rfl,hb3⟩
    go_wp2_with fail
    go_ret
    exact ⟨rfl,hbC.trans (hb3.mono hbC.size)⟩
 have hne:Sd.keyL a.data.toList i x≠[]:=fun h=>he (by rw [HL1.out,h];rfl)
 have he:K1.toList.isEmpty=false:=by simpa using he
 have hrd:=sread_any K1 (by have:=HSZ.out;omega) w2
 have hv:Sd.readV (Sd.readP K1.data.toList)=.tuple #[.string a,.int .i64 i,.bool x,.bool true]:=by
  rw [←ByteArray.toList_eq,HL1.out,Sd.readP_key hne]
  rfl
 rw [hv] at hrd
 go_wp2_with fail
 refine hrd.mono ?_
 rintro e w3 ⟨rfl,hb2⟩
 have hbC:=hbB.trans (hb2.mono hbB.size)
 clear hb2 hbB hrd hv
 have hz:=HSZ.out
 have hz1:¬(64:Int)<(K1.size:Int):=by omega
 have hinj:=Sd.key_inj (b:=b.data.toList) (j:=j) (y:=y) hne
 rw [←HL1.out,←HL2.out] at hinj
 by_cases hkk:K1.toList=K2.toList
 case pos =>
  obtain ⟨e1,rfl,rfl⟩:=hinj.1 hkk
  have e2:a=b:=by
   apply ByteArray.ext
   apply Array.ext'
   exact e1
  subst e2
  have t1:(K1.toList==K2.toList)=true:=by rw [hkk];simp
  clear hinj e1
  cases x
  all_goals
   go_wp2_with fail
   refine (wakes22_any _ (HK.out.below hbC)).mono ?_
   rintro e w7 ⟨rfl,hb3⟩
   go_wp2_with fail
   go_ret
   exact ⟨rfl,hbC.trans (hb3.mono hbC.size)⟩
 have t1:(K1.toList==K2.toList)=false:=by rw [beq_eq_false_iff_ne];exact hkk
 have hno:¬(a.toList=b.toList∧i=j∧x=y):=fun h=>hkk (hinj.2 (by rw [←ByteArray.toList_eq,←ByteArray.toList_eq];exact h))
 clear hinj
 by_cases h1:a.toList=b.toList
 case neg =>
  have t2:(a.toList==b.toList)=false:=by rw [beq_eq_false_iff_ne];exact h1
  cases x
  all_goals
   go_wp2_with fail
   refine (wakes22_any _ (HK.out.below hbC)).mono ?_
   rintro e w7 ⟨rfl,hb3⟩
   go_wp2_with fail
   go_ret
   exact ⟨rfl,hbC.trans (hb3.mono hbC.size)⟩
 have t2:(a.toList==b.toList)=true:=by rw [h1];simp
 by_cases h2:i=j
 case neg =>
  have t3:(i==j)=false:=by rw [beq_eq_false_iff_ne];exact h2
  cases x
  all_goals
   go_wp2_with fail
   refine (wakes22_any _ (HK.out.below hbC)).mono ?_
   rintro e w7 ⟨rfl,hb3⟩
   go_wp2_with fail
   go_ret
   exact ⟨rfl,hbC.trans (hb3.mono hbC.size)⟩
 have t3:(i==j)=true:=by rw [h2];simp
 have h3:x≠y:=fun h=>hno ⟨h1,h2,h⟩
 cases x <;> cases y <;> first | exact absurd rfl h3 | skip
 all_goals
  go_wp2_with fail
  refine (wakes22_any _ (HK.out.below hbC)).mono ?_
  rintro e w7 ⟨rfl,hb3⟩
  go_wp2_with fail
  go_ret
  exact ⟨rfl,hbC.trans (hb3.mono hbC.size)⟩
end Go.Proofs.YtlbihaikppkecaaGreatDoor
set_option linter.unusedVariables false
set_option linter.unusedSimpArgs false
namespace Go.Proofs.YtlbihaikppkecaaGreatDoor
open Go.RowKit Go.BigFrame
set_option maxRecDepth 100000 in
set_option maxHeartbeats 16000000 in
theorem sagadefCalls_walk (v:Value) (x:Id.Sch) (g id:ByteArray) (i:Int) (back:Bool) (fr:Int) (body:ByteArray) (w0:World) (hv:Id.SchV w0 none v x) (hw1:g.size≤maxLen) (hw2:id.size≤maxLen) (hw3:(Lit.int .i64 i).wf=true) (hw5:(Lit.int .i64 fr).wf=true) (hw6:body.size≤maxLen) (w:World) (he:w=w0) (hk:Tk.KW w) :
  Calls Tryz.prog 5 #[v,.string g,.string id,.int .i64 i,.bool back,.int .i64 fr,.string body] w fun e w'=>e=.returned (.bool true)∧Below w.heap.size w w':=by
 subst he
 have hv0:=hv
 have HV:=Lib.hid hv
 have HKW:=Lib.hid hk
 obtain ⟨A1,n1,c1,A2,n2,c2,A3,n3,c3,rfl,-⟩:=hv
 clear hw1 hw2 hw3 hw5 hw6 hk
 go_enter Tryz.func5,Tryz.ntmps5
 go_upto_region 1 with (fail)
 refine wp_named (fun W0 hW0=>?_)
 have HL:Hid (Chk.Lx w W0 #[.string x.name,.slice A1 n1 c1,.slice A2 n2 c2,.slice A3 n3 c3]):=Lib.hid (by subst hW0;exact ⟨(Below.refl _ _).alloc (Nat.le_refl _) _,Bk.new w _ _⟩)
 clear hW0
 obtain ⟨⟨q0,q1,q2,q3⟩,-⟩:=HL.out.box.k4
 go_wp2_with fail
 refine (cgreat_any _ x _ (Id.SchV.below HL.out.bel HV.out)).mono ?_
 rintro e W1 ⟨b,rfl,hb,hg⟩
 have HL1:=Lib.hid (HL.out.below hb)
 have HG:=Lib.hid hg
 clear HL hb hg q0 q1 q2 q3
 have done:∀ W,Below w.heap.size w W→Calls Tryz.prog 13 #[] W fun e w'=>e=.returned (.bool true)∧Below w.heap.size w w':=fun W hW=>(wakes22_any W (HKW.out.below hW)).mono fun _ _ ⟨h1,h2⟩=>⟨h1,hW.trans (h2.mono hW.size)⟩
 have HDN:=Lib.hid done
 clear done
 cases b
 case true =>
  go_wp2_with fail
  refine (HDN.out _ HL1.out.bel).mono ?_
  rintro e W2 ⟨rfl,hb2⟩
  go_wp2_with fail
  go_ret
  exact ⟨rfl,hb2⟩
 have HFG:=Lib.hid (HG.out rfl)
 have HFi:=Lib.hid HFG.out.fine
 clear HG
 by_cases hbig:(500:Int)<(g.size:Int)∨(500:Int)<(id.size:Int)∨(500:Int)<(body.size:Int)
 case pos =>
  by_cases g1:(500:Int)<(g.size:Int)
  ·go_wp2_with fail
   refine (HDN.out _ HL1.out.bel).mono ?_
   rintro e W2 ⟨rfl,hb2⟩
   go_wp2_with fail
   go_ret
   exact ⟨rfl,hb2⟩
  ·by_cases g2:(500:Int)<(id.size:Int)
   ·go_wp2_with fail
    refine (HDN.out _ HL1.out.bel).mono ?_
    rintro e W2 ⟨rfl,hb2⟩
    go_wp2_with fail
    go_ret
    exact ⟨rfl,hb2⟩
   ·have g3:(500:Int)<(body.size:Int):=by omega
    go_wp2_with fail
    refine (HDN.out _ HL1.out.bel).mono ?_
    rintro e W2 ⟨rfl,hb2⟩
    go_wp2_with fail
    go_ret
    exact ⟨rfl,hb2⟩
 have g1:¬(500:Int)<(g.size:Int):=by omega
 have g2:¬(500:Int)<(id.size:Int):=by omega
 have g3:¬(500:Int)<(body.size:Int):=by omega
 have hid:id.size≤100000:=by omega
 clear hbig
 have CS:=Lib.hid (fun sv W k s=>ssteps_any sv x HFi.out g W k s)
 have CSR:=Lib.hid (fun sv W s=>rssteps_any sv x HFi.out g W s)
 have CC:=Lib.hid (fun sv W k s=>scall_any sv x HFi.out g id hid i back fr body W k s)
 have CCR:=Lib.hid (fun sv W s=>rscall_any sv x HFi.out g id hid i back fr body W s)
 have CN:=Lib.hid (fun sv W k s=>scancel_any sv x HFi.out g id hid i fr W k s)
 have CNR:=Lib.hid (fun sv W s=>rscancel_any sv x HFi.out g id hid i fr W s)
 generalize Sd.steps x g=ST at *
 generalize Sd.call x g id i back fr body=CA at *
 generalize Sd.cancel x g id i fr=CE at *
 obtain ⟨sn,se⟩:=ST
 obtain ⟨⟨k0,k1,k2,k3,k4,k5,k6,k7,k8,k9⟩,ce⟩:=CA
 obtain ⟨⟨r0,r1,r2,r3,r4,r5,r6,r7,r8,r9⟩,ne⟩:=CE
 unfold Ev.Letter.val at CC CCR CN CNR
 obtain ⟨⟨q0,q1,q2,q3⟩,-⟩:=HL1.out.box.k4
 go_wp2_with fail
 refine (CS.out _ _ (HKW.out.below HL1.out.bel) (Id.SchV.below HL1.out.bel HV.out)).mono ?_
 rintro e W2 ⟨rfl,hb⟩
 have HL2:=Lib.hid (HL1.out.below hb)
 clear hb q0 q1 q2 q3 HL1 CS
 obtain ⟨⟨q0,q1,q2,q3⟩,-⟩:=HL2.out.box.k4
 go_wp2_with fail
 refine (CSR.out _ _ (Id.SchV.below HL2.out.bel HV.out)).mono ?_
 rintro e W3 ⟨rfl,hb⟩
 have HL3:=Lib.hid (HL2.out.below hb)
 clear hb q0 q1 q2 q3 HL2 CSR
 obtain ⟨⟨q0,q1,q2,q3⟩,-⟩:=HL3.out.box.k4
 go_wp2_with fail
 refine (CC.out _ _ (HKW.out.below HL3.out.bel) (Id.SchV.below HL3.out.bel HV.out)).mono ?_
 rintro e W4 ⟨rfl,hb⟩
 have HL4:=Lib.hid (HL3.out.below hb)
 clear hb q0 q1 q2 q3 HL3 CC
 go_upto_region 8 with (fail)
 refine wp_named (fun V4 hV=>?_)
 obtain ⟨hbV,hq,-⟩:=fresh_box hV
 have HL5:=Lib.hid (HL4.out.below hbV)
 have HA5:=Lib.hid hq
 obtain ⟨gA,HgA⟩:∃ n,Hid (W4.heap.size=n):=⟨_,Lib.hid rfl⟩
 have HlA:=Lib.hid HL4.out.bel.size
 have HL4lt:Hid (w.heap.size<W4.heap.size):=Lib.hid HL4.out.box.lt
 rw [HgA.out] at HA5 HlA HL4lt ⊢
 clear hbV hq hV HL4
 obtain ⟨⟨q0,q1,q2,q3⟩,-⟩:=HL5.out.box.k4
 go_wp2_with fail
 refine (CCR.out _ _ (Id.SchV.below HL5.out.bel HV.out)).mono ?_
 rintro e W5 ⟨rfl,hb⟩
 have HL6:=Lib.hid (HL5.out.below hb)
 have HA6:=Lib.hid (HA5.out.below hb HA5.out.lt)
 clear hb q0 q1 q2 q3 HL5 HA5 CCR
 go_upto_region 9 with (fail)
 refine wp_named (fun V5 hV=>?_)
 obtain ⟨hbV,hq,-⟩:=fresh_box hV
 have HL7:=Lib.hid (HL6.out.below hbV)
 have hA:=HA6.out.below hbV HA6.out.lt
 have hAB:=HA6.out.lt
 have hB:=hq
 obtain ⟨gB,HgB⟩:∃ n,Hid (W5.heap.size=n):=⟨_,Lib.hid rfl⟩
 rw [HgB.out] at hB hAB ⊢
 clear hbV hq hV HL6 HA6
 obtain ⟨c0,c1,c2,c3,c4,c5,c6,c7,c8,c9⟩:=Sd.ten hA
 obtain ⟨d0,d1,d2,d3,d4,d5,d6,d7,d8,d9⟩:=Sd.ten hB
 obtain ⟨⟨q0,q1,q2,q3⟩,-⟩:=HL7.out.box.k4
 go_wp2_with fail
 refine (CN.out _ _ (HKW.out.below HL7.out.bel) (Id.SchV.below HL7.out.bel HV.out)).mono ?_
 rintro e W6 ⟨rfl,hb⟩
 have HL8:=Lib.hid (HL7.out.below hb)
 have hQ:=hA.below hb hA.lt
 have HB8:=Lib.hid (hB.below hb hB.lt)
 clear hb q0 q1 q2 q3 HL7 hA hB c0 c1 c2 c3 c4 c5 c6 c7 c8 c9 d0 d1 d2 d3 d4 d5 d6 d7 d8 d9 CN
 go_upto_region 12 with ((refine wpList_store_row rfl _ _ _ rfl _ _ rfl rfl _ _ hQ (by kernel_rfl) rfl (by simp [Value.oneCell']) ?_))
 refine wp_named (fun V6 hV=>?_)
 have HA9:Hid (Bk V6 gA 40 #[.int .u8 r0,.int .i64 r1,.int .i64 r2,.int .u64 r3,.string r4,.int .u64 r5,.string r6,.string r7,.int .i64 r8,.string r9]):=Lib.hid (by rw [hV];exact hQ.row _)
 have HB9:Hid (Bk V6 gB 40 #[.int .u8 k0,.int .i64 k1,.int .i64 k2,.int .u64 k3,.string k4,.int .u64 k5,.string k6,.string k7,.int .i64 k8,.string k9]):=Lib.hid (by rw [hV];exact HB8.out.row_far (by omega) _)
 have HL9:Hid (Chk.Lx w V6 #[.string x.name,.slice A1 n1 c1,.slice A2 n2 c2,.slice A3 n3 c3]):=Lib.hid (by rw [hV];exact ⟨below_row HL8.out.bel HlA.out _,HL8.out.box.row_far (by have:=HlA.out;have:=HL4lt.out;omega) _⟩)
 clear hV hQ HB8 HL8
 obtain ⟨⟨q0,q1,q2,q3⟩,-⟩:=HL9.out.box.k4
 go_wp2_with fail
 refine (CNR.out _ _ (Id.SchV.below HL9.out.bel HV.out)).mono ?_
 rintro e W7 ⟨rfl,hb⟩
 have HL10:=Lib.hid (HL9.out.below hb)
 have HA10:=Lib.hid (HA9.out.below hb HA9.out.lt)
 have hQ:=HB9.out.below hb HB9.out.lt
 clear hb q0 q1 q2 q3 HL9 HA9 HB9 CNR
 go_upto_region 13 with ((refine wpList_store_row rfl _ _ _ rfl _ _ rfl rfl _ _ hQ (by kernel_rfl) rfl (by simp [Value.oneCell']) ?_))
 refine wp_named (fun V7 hV=>?_)
 have HA11:Hid (Bk V7 gA 40 #[.int .u8 r0,.int .i64 r1,.int .i64 r2,.int .u64 r3,.string r4,.int .u64 r5,.string r6,.string r7,.int .i64 r8,.string r9]):=Lib.hid (by rw [hV];exact HA10.out.row_far (by omega) _)
 have HB11:Hid (Bk V7 gB 40 #[.int .u8 r0,.int .i64 r1,.int .i64 r2,.int .u64 r3,.string r4,.int .u64 r5,.string r6,.string r7,.int .i64 r8,.string r9]):=Lib.hid (by rw [hV];exact hQ.row _)
 have HL11:Hid (Below w.heap.size w V7):=Lib.hid (by rw [hV];exact below_row HL10.out.bel (by have:=HlA.out;omega) _)
 clear hV hQ HA10 HL10
 obtain ⟨c0,c1,c2,c3,c4,c5,c6,c7,c8,c9⟩:=Sd.ten HA11.out
 obtain ⟨d0,d1,d2,d3,d4,d5,d6,d7,d8,d9⟩:=Sd.ten HB11.out
 go_wp2_with fail
 refine (HDN.out _ HL11.out).mono ?_
 rintro e W8 ⟨rfl,hb2⟩
 clear c0 c1 c2 c3 c4 c5 c6 c7 c8 c9 d0 d1 d2 d3 d4 d5 d6 d7 d8 d9
 go_wp2_with fail
 go_ret
 exact ⟨rfl,hb2⟩
end Go.Proofs.YtlbihaikppkecaaGreatDoor
