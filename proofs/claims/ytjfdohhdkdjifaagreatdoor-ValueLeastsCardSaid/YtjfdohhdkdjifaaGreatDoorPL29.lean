/- redresslaw15: wakes and Great (printed by gen_valw.py). No condition but the keywords' table. -/
import Derived.Test.YtjfdohhdkdjifaaGreatDoorPL28
import Derived.Test.YtjfdohhdkdjifaaGreatDoorPL15
import Derived.Test.YtjfdohhdkdjifaaGreatDoorPL18
import Derived.Test.YtjfdohhdkdjifaaGreatDoorPL16
import Derived.Test.YtjfdohhdkdjifaaGreatDoorPL00
import Derived.Test.YtjfdohhdkdjifaaGreatDoorPL02
import Derived.Test.YtjfdohhdkdjifaaGreatDoorPL21
set_option linter.unusedVariables false
set_option linter.unusedSimpArgs false
namespace Go.Proofs.YtjfdohhdkdjifaaGreatDoor
open Go.RowKit Go.BigFrame
namespace Vl
open Go.Proofs.YtjfdohhdkdjifaaGreatDoor.Id Go.Proofs.YtjfdohhdkdjifaaGreatDoor.Chk
/-- A literal row. -/
theorem row_lit {α:Type} (W:World) (T:TypeId) (size:Nat) (E:World→List Value→α→Prop) (css:List (List Value)) (l:List α) (n:Nat) (cs:Array Value) (hn:l.length=n) (hc:css.flatten.toArray=cs) (h1:css.length=l.length) (h2:∀ cs∈css,cs.length=size) (hb:n≤1000000)
  (hE:∀ i (h:i<css.length) (h':i<l.length),E (W.alloc (.cells cs T)) css[i] l[i]):ERow (W.alloc (.cells cs T)) none T size E (.slice (some ⟨W.heap.size,0,none⟩) n n) l:=by
 subst hn hc
 refine ⟨css,h1,h2,⟨by rw [flatten_len h2,h1],_,_,rfl,Nat.le_refl _,by omega,(fun e=>by cases e),fun _=>⟨_,_,rfl,fun j u hu=>?_⟩⟩,hE⟩
 rw [Nat.zero_add,World.cell?_alloc_mark]
 simpa using hu
def wkO:ByteArray:=⟨#[79]⟩
def wkX:ByteArray:=⟨#[120]⟩
def wkV:List Node:=[⟨7,0,⟨#[]⟩,3⟩,⟨4,0,wkX,0⟩,⟨3,5,⟨#[]⟩,0⟩,⟨6,0,⟨#[]⟩,0⟩]
def wkR:Rec:=⟨⟨#[79]⟩,false,[⟨⟨#[97,99,99,111,117,110,116]⟩,[⟨4,⟨#[]⟩⟩]⟩,⟨⟨#[97,109,111,117,110,116]⟩,[⟨3,⟨#[]⟩⟩]⟩,⟨⟨#[109,101,109,111]⟩,[⟨6,⟨#[]⟩⟩,⟨4,⟨#[]⟩⟩]⟩]⟩
theorem wk_find:find shop wkO=some wkR:=by kernel_rfl
theorem wk_right:right shop (nmd wkO)=true:=by decide +kernel
theorem wk_of:ofF shop none (wkV.length+1) (nmd wkO) wkV=some (2,[]):=by kernel_rfl
theorem wk_of3:ofF shop none ((wkV.take 3).length+1) (nmd wkO) (wkV.take 3)=none:=by kernel_rfl
theorem wk_fits:fits shop (nmd wkO) wkV=0:=by
 unfold fits
 rw [if_neg (by rw [shop_check];simp),if_neg (by rw [wk_right];simp),wk_of]
 decide +kernel
theorem wk_fits3:fits shop (nmd wkO) (wkV.take 3)=150:=by
 unfold fits
 rw [if_neg (by rw [shop_check];simp),if_neg (by rw [wk_right];simp),wk_of3]
theorem wk_end:endV wkV (endAt wkV 0)=4:=by kernel_rfl
theorem wk_field {fn:ByteArray} {o:Option (List Node)} (h:fieldL 4 fn wkR.fields (wkV.drop 1)=o):field shop wkO wkV fn=o:=by
 unfold field
 rw [wk_find]
 simp only
 rw [if_neg (show ¬wkR.choice=true by decide),if_neg (by rw [wk_fits];simp)]
 exact h
theorem wk_ord:ordP shop wkO wkV=some (wkX,5):=by
 unfold ordP
 rw [wk_field (fn:=wAcc) (o:=some [⟨4,0,wkX,0⟩]) (by kernel_rfl),wk_field (fn:=wAmt) (o:=some [⟨3,5,⟨#[]⟩,0⟩]) (by kernel_rfl)]
 rfl
structure FineV (x:Sch) (t:List Srt) (v:List Node):Prop where
 sch:FineG x
 tl:t.length≤300
 vl:v.length≤6000
 nm:∀ i (h:i<t.length),t[i].name.size≤200
 tx:∀ i (h:i<v.length),v[i].text.size≤6000
end Vl
set_option maxRecDepth 100000 in
theorem vnmd_any (rn:ByteArray) (w:World):Calls Tryz.prog 60 #[.string rn] w fun e w'=>∃ u,e=.returned u∧Below w.heap.size w w'∧Id.SortsR w' none u (Vl.nmd rn):=by
 go_enter Tryz.func60,Tryz.ntmps60
 go_wp2_with fail
 go_ret
 exact ⟨_,rfl,(Below.refl _ _).alloc (Nat.le_refl _) _,Vl.nmd_row w rn⟩
set_option maxRecDepth 100000 in
set_option maxHeartbeats 16000000 in
theorem vgreat_any (sv:Value) (x:Id.Sch) (tv:Value) (t:List Id.Srt) (vs:Value) (v:List Vl.Node) (w:World) (hv:Id.SchV w none sv x) (ht:Id.SortsR w none tv t) (hvv:Vl.ValR w none vs v) :
  Calls Tryz.prog 11 #[sv,tv,vs] w (Chk.GreatP w (Vl.FineV x t v)):=by
 have HV:=Lib.hid hv
 have HS:=Lib.hid ht
 have HVV:=Lib.hid hvv
 obtain ⟨A,n,c,rfl⟩:=ERow.is ht
 obtain ⟨A9,n9,c9,rfl⟩:=ERow.is hvv
 have HN:Hid (n=t.length):=Lib.hid (by obtain ⟨_,_,e,_⟩:=ERow.slice ht;injection e)
 have HN9:Hid (n9=v.length):=Lib.hid (by obtain ⟨_,_,e,_⟩:=ERow.slice hvv;injection e)
 obtain ⟨A1,n1,c1,A2,n2,c2,A3,n3,c3,rfl,-,-,-⟩:=hv
 clear ht hvv
 go_enter Tryz.func11,Tryz.ntmps11
 go_upto_region 1 with (fail)
 refine wp_named (fun V hV=>?_)
 have HL:=Lib.hid (Chk.Lx.start hV)
 clear hV
 obtain ⟨⟨q0,q1,q2,q3⟩,-⟩:=HL.out.box.k4
 go_wp2_with fail
 clear q0 q1 q2 q3
 refine (cgreat_any _ x _ (HV.out.below HL.out.bel)).mono ?_
 rintro e W1 ⟨b,rfl,hb,hf⟩
 have HL1:=Lib.hid (HL.out.below hb)
 have HF:=Lib.hid hf
 clear hb hf HL
 cases b
 case true =>
  go_wp2_with fail
  go_ret
  exact ⟨true,rfl,HL1.out.bel,fun h=>by cases h⟩
 by_cases h1:n≤300
 case neg =>
  have t1:(300:Int)<(n:Int):=by omega
  go_wp2_with fail
  go_ret
  exact ⟨true,rfl,HL1.out.bel,fun h=>by cases h⟩
 have t1:¬(300:Int)<(n:Int):=by omega
 by_cases h2:n9≤6000
 case neg =>
  have t2:(6000:Int)<(n9:Int):=by omega
  go_wp2_with fail
  go_ret
  exact ⟨true,rfl,HL1.out.bel,fun h=>by cases h⟩
 have t2:¬(6000:Int)<(n9:Int):=by omega
 go_wp2_with fail
 go_loopw [7] (fun i wr=>∃ (k:Nat),k≤n∧i=.int .i64 k∧W1=wr∧Hid (∀ j,j<k→∀ h:j<t.length,t[j].name.size≤200)) (fun i _=>n - (intOf i).toNat)
 case atStart=>exact ⟨0,by omega,rfl,rfl,Lib.hid (fun j h=>absurd h (Nat.not_lt_zero _))⟩
 case round =>
  obtain ⟨k,hk,rfl,rfl,HK⟩:=hrel
  have ik0:(0:Int)≤(k:Int):=by omega
  by_cases hlt:k<n
  case neg =>
   have HNM:Hid (∀ i (h:i<t.length),t[i].name.size≤200):=Lib.hid (fun i h=>HK.out i (by have:=HN.out;omega) h)
   go_wp2_with fail
   go_loopw [8] (fun i wr=>∃ (k:Nat),k≤n9∧i=.int .i64 k∧W1=wr∧Hid (∀ j,j<k→∀ h:j<v.length,v[j].text.size≤6000)) (fun i _=>n9 - (intOf i).toNat)
   case atStart=>exact ⟨0,by omega,rfl,rfl,Lib.hid (fun j h=>absurd h (Nat.not_lt_zero _))⟩
   case round =>
    obtain ⟨m,hm,rfl,rfl,HM⟩:=hrel
    have im0:(0:Int)≤(m:Int):=by omega
    by_cases hmt:m<n9
    case neg =>
     go_wp2_with fail
     go_ret
     exact ⟨false,rfl,HL1.out.bel,fun _=>⟨HF.out (by trivial),by rw [←HN.out];exact h1,by rw [←HN9.out];exact h2,HNM.out,fun i h=>HM.out i (by have:=HN9.out;omega) h⟩⟩
    have hka:m<v.length:=by rw [←HN9.out];exact hmt
    have im1:(m:Int)<(n9:Int):=by omega
    obtain ⟨g,off,cs,hA,-,e1,hc⟩:=ERow.get HVV.out hka (by omega)
    obtain ⟨⟨y0,y1,y2,y3⟩,Hy⟩:∃ y,Hid (v[m]=y):=⟨_,Lib.hid rfl⟩
    rw [Hy.out] at e1
    unfold Vl.NodE Vl.Node.cells at e1
    subst e1
    have a2:=hc 2 _ rfl
    have a2:=(HL1.out.bel.cell (World.block_lt_of_cell? w _ a2)).trans a2
    subst hA
    clear hc
    by_cases h3:y2.size≤6000
    case neg =>
     have t3:(6000:Int)<(y2.size:Int):=by omega
     go_wp2_with fail
     go_ret
     exact ⟨true,rfl,HL1.out.bel,fun h=>by cases h⟩
    have t3:¬(6000:Int)<(y2.size:Int):=by omega
    have HM2:Hid (∀ j,j<m+1→∀ h:j<v.length,v[j].text.size≤6000):=Lib.hid (all_next (n:=0) (Q:=fun j=>∀ h:j<v.length,v[j].text.size≤6000) HM.out (fun h=>by rw [Hy.out];exact h3))
    go_wp2_with fail
    go_roundw
    case rel=>exact ⟨m+1,by omega,by go_num,by first | rfl | trivial,HM2⟩
    case measure=>simp [intOf];omega
  have hka:k<t.length:=by rw [←HN.out];exact hlt
  have ik1:(k:Int)<(n:Int):=by omega
  obtain ⟨g,off,cs,hA,-,e1,hc⟩:=ERow.get HS.out hka (by omega)
  obtain ⟨⟨y0,y1⟩,Hy⟩:∃ y,Hid (t[k]=y):=⟨_,Lib.hid rfl⟩
  rw [Hy.out] at e1
  unfold Id.SortE Id.Srt.cells at e1
  subst e1
  have a2:=hc 1 _ rfl
  have a2:=(HL1.out.bel.cell (World.block_lt_of_cell? w _ a2)).trans a2
  subst hA
  clear hc
  by_cases h3:y1.size≤200
  case neg =>
   have t3:(200:Int)<(y1.size:Int):=by omega
   go_wp2_with fail
   go_ret
   exact ⟨true,rfl,HL1.out.bel,fun h=>by cases h⟩
  have t3:¬(200:Int)<(y1.size:Int):=by omega
  have HK2:Hid (∀ j,j<k+1→∀ h:j<t.length,t[j].name.size≤200):=Lib.hid (all_next (n:=0) (Q:=fun j=>∀ h:j<t.length,t[j].name.size≤200) HK.out (fun h=>by rw [Hy.out];exact h3))
  go_wp2_with fail
  go_roundw
  case rel=>exact ⟨k+1,by omega,by go_num,by first | rfl | trivial,HK2⟩
  case measure=>simp [intOf];omega
set_option maxRecDepth 100000 in
set_option maxHeartbeats 16000000 in
theorem wakes15_any (w:World) (hk:Tk.KW w):Calls Tryz.prog 20 #[] w fun e w'=>e=.returned (.bool true)∧Below w.heap.size w w':=by
 have HK:=Lib.hid hk
 clear hk
 go_enter Tryz.func20,Tryz.ntmps20
 go_upto_region 2 with (fail)
 refine wp_named (fun V hV=>?_)
 obtain ⟨hb,-,-⟩:=fresh_box hV
 have HVV:Hid (Vl.ValR V none (.slice (some ⟨w.heap.size,0,none⟩) 4 4) Vl.wkV):=Lib.hid (by subst hV;exact Vl.row_lit w _ 4 Vl.NodE (Vl.wkV.map Vl.Node.cells) Vl.wkV 4 _ rfl rfl (by rw [List.length_map]) (fun cs hcs=>by obtain ⟨y,_,rfl⟩:=List.mem_map.1 hcs;rfl) (by omega) (fun i h h'=>by unfold Vl.NodE;rw [List.getElem_map]))
 have HB0:=Lib.hid hb
 clear hb hV
 go_wp2_with fail
 refine (shop_any V).mono ?_
 rintro e W1 ⟨sv,rfl,hb1,hs1⟩
 have HB1:=Lib.hid (HB0.out.trans (hb1.mono HB0.out.size))
 have HS1:=Lib.hid (Id.SchV.weak (Id.wk_none _) hs1:Id.SchV W1 none sv Chk.shop)
 have HV1:=Lib.hid (Vl.ValR.below HVV.out hb1)
 obtain ⟨A1,n1,c1,A2,n2,c2,A3,n3,c3,rfl,-⟩:=hs1
 clear hb1
 go_upto_region 3 with (fail)
 refine wp_named (fun W2 hW=>?_)
 obtain ⟨hb2,hq2,-⟩:=fresh_box hW
 clear hW
 have HB2:=Lib.hid (HB1.out.trans (hb2.mono HB1.out.size))
 have HS2:=Lib.hid (Id.SchV.below hb2 HS1.out)
 have HV2:=Lib.hid (Vl.ValR.below HV1.out hb2)
 have HQ2:=Lib.hid hq2
 obtain ⟨⟨q0,q1,q2,q3⟩,-⟩:=hq2.k4
 clear hb2 hq2
 go_wp2_with fail
 have h3:=vorder_any _ Chk.shop (Chk.shop_fine _ (by decide)) Vl.wkO _ Vl.wkV (by decide) (by decide) W2 (HK.out.below HB2.out) HS2.out HV2.out
 rw [Vl.wk_ord] at h3
 refine h3.mono ?_
 rintro e W3 ⟨rfl,hb3⟩
 have HB3:=Lib.hid (HB2.out.trans (hb3.mono HB2.out.size))
 have HS3:=Lib.hid (Id.SchV.below hb3 HS2.out)
 have HV3:=Lib.hid (Vl.ValR.below HV2.out hb3)
 have HQ3:=Lib.hid (HQ2.out.below hb3 HQ2.out.lt)
 clear hb3 h3 q0 q1 q2 q3
 simp only [Vl.ordO,Option.getD_some,Option.isSome_some,Vl.wkX]
 go_wp2_with fail
 have HBd:=Lib.hid (HB3.out.trans (((Below.refl W3.heap.size W3).drew).mono HB3.out.size))
 have HSd:=Lib.hid (Id.SchV.below ((Below.refl W3.heap.size W3).drew) HS3.out)
 have HVd:=Lib.hid (Vl.ValR.below HV3.out ((Below.refl W3.heap.size W3).drew))
 refine wp_region_L_calm (fun w'=>Bk w' W1.heap.size 28 #[.string Chk.shop.name,.slice A1 n1 c1,.slice A2 n2 c2,.slice A3 n3 c3]) [26] (by kernel_rfl) HQ3.out.drew (fun hHeld=>?_)
 (refine Lst.takeM 26 0 (v:=?_) rfl (by kernel_rfl) (by kernel_rfl) (by kernel_rfl) (by kernel_rfl) (by kernel_rfl) (by kernel_rfl) (fun _ _ _ h=>h) (by assumption) (by rfl) ?_ ?_;rotate_left;· (intro w hSw;obtain ⟨e0,e1,e2,e3⟩:=(Bk.k4 hSw).1;go_simp;try with_reducible rfl);try simp only [Act.put,List.setIfInBounds_toArray,List.set_cons_zero,List.set_cons_succ])
 (refine wpAnyL_take0 2 (v:=?_) rfl (by kernel_rfl) (by kernel_rfl) (by kernel_rfl) (by kernel_rfl) (fun _ _ _ h=>h) (fun _=>by assumption) (by rfl) ?_ ?_;rotate_left;· (intro w;go_simp;try with_reducible rfl);try simp only [Act.put,List.setIfInBounds_toArray,List.set_cons_zero,List.set_cons_succ])
 have HQd:=Lib.hid hHeld
 clear hHeld
 (try dsimp only at HQd)
 (refine wpAnyL_step 1 (by kernel_rfl) rfl (fun K hK=>?_))
 go_simp
 refine (vnmd_any Vl.wkO _).mono ?_
 rintro e W4 ⟨u1,rfl,hb,hs⟩
 have HB1:=Lib.hid (HBd.out.trans (hb.mono HBd.out.size))
 have HS1:=Lib.hid (Id.SchV.below hb HSd.out)
 have HV1:=Lib.hid (Vl.ValR.below HVd.out hb)
 have HQ1:=Lib.hid (Bk.below HQd.out hb (Bk.lt HQd.out))
 have HT1:=Lib.hid hs
 clear hb hs
 (refine hK.out _ _ (fun hnn=>HQ1.out) ?_;clear hK K;try simp only [Act.put,List.setIfInBounds_toArray,List.set_cons_zero,List.set_cons_succ])
 (refine wpAnyL_step 3 (by kernel_rfl) rfl (fun K hK=>?_))
 go_simp
 have h5:=vfits_any _ Chk.shop (Chk.shop_fine _ (by decide)) _ (Vl.nmd Vl.wkO) _ Vl.wkV (by decide) (by decide) _ (HK.out.below HB1.out) HS1.out HT1.out HV1.out
 rw [Vl.wk_fits] at h5
 refine h5.mono ?_
 rintro e W5 ⟨rfl,hb⟩
 have HB3:=Lib.hid (HB1.out.trans (hb.mono HB1.out.size))
 have HS3:=Lib.hid (Id.SchV.below hb HS1.out)
 have HV3:=Lib.hid (Vl.ValR.below HV1.out hb)
 have HQ3:=Lib.hid (Bk.below HQ1.out hb (Bk.lt HQ1.out))
 clear hb h5
 (refine hK.out _ _ (fun hnn=>HQ3.out) ?_;clear hK K;try simp only [Act.put,List.setIfInBounds_toArray,List.set_cons_zero,List.set_cons_succ])
 try simp only [Int.cast_ofNat_Int]
 (refine wpAnyL_take0 4 (v:=?_) rfl (by kernel_rfl) (by kernel_rfl) (by kernel_rfl) (by kernel_rfl) (fun _ _ _ h=>h) (fun _=>by assumption) (by kernel_rfl) ?_ ?_;rotate_left;· (intro w;go_simp;try with_reducible rfl);try simp only [Act.put,List.setIfInBounds_toArray,List.set_cons_zero,List.set_cons_succ])
 (refine wpAnyL_take0 5 (v:=?_) rfl (by kernel_rfl) (by kernel_rfl) (by kernel_rfl) (by kernel_rfl) (fun _ _ _ h=>h) (fun _=>by assumption) (by kernel_rfl) ?_ ?_;rotate_left;· (intro w;go_simp;try with_reducible rfl);try simp only [Act.put,List.setIfInBounds_toArray,List.set_cons_zero,List.set_cons_succ])
 (refine wpAnyL_take0 6 (v:=?_) rfl (by kernel_rfl) (by kernel_rfl) (by kernel_rfl) (by kernel_rfl) (fun _ _ _ h=>h) (fun _=>by assumption) (by kernel_rfl) ?_ ?_;rotate_left;· (intro w;go_simp;try with_reducible rfl);try simp only [Act.put,List.setIfInBounds_toArray,List.set_cons_zero,List.set_cons_succ])
 (refine wpAnyL_take0 7 (v:=?_) rfl (by kernel_rfl) (by kernel_rfl) (by kernel_rfl) (by kernel_rfl) (fun _ _ _ h=>h) (fun _=>by assumption) (by kernel_rfl) ?_ ?_;rotate_left;· (intro w;go_simp;try with_reducible rfl);try simp only [Act.put,List.setIfInBounds_toArray,List.set_cons_zero,List.set_cons_succ])
 (refine wpAnyL_take0 8 (v:=?_) rfl (by kernel_rfl) (by kernel_rfl) (by kernel_rfl) (by kernel_rfl) (fun _ _ _ h=>h) (fun _=>by assumption) (by kernel_rfl) ?_ ?_;rotate_left;· (intro w;go_simp;try with_reducible rfl);try simp only [Act.put,List.setIfInBounds_toArray,List.set_cons_zero,List.set_cons_succ])
 (refine wpAnyL_take0 9 (v:=?_) rfl (by kernel_rfl) (by kernel_rfl) (by kernel_rfl) (by kernel_rfl) (fun _ _ _ h=>h) (fun _=>by assumption) (by kernel_rfl) ?_ ?_;rotate_left;· (intro w;go_simp;try with_reducible rfl);try simp only [Act.put,List.setIfInBounds_toArray,List.set_cons_zero,List.set_cons_succ])
 (refine wpAnyL_take0 10 (v:=?_) rfl (by kernel_rfl) (by kernel_rfl) (by kernel_rfl) (by kernel_rfl) (fun _ _ _ h=>h) (fun _=>by assumption) (by kernel_rfl) ?_ ?_;rotate_left;· (intro w;go_simp;try with_reducible rfl);try simp only [Act.put,List.setIfInBounds_toArray,List.set_cons_zero,List.set_cons_succ])
 (refine wpAnyL_take0 11 (v:=?_) rfl (by kernel_rfl) (by kernel_rfl) (by kernel_rfl) (by kernel_rfl) (fun _ _ _ h=>h) (fun _=>by assumption) (by kernel_rfl) ?_ ?_;rotate_left;· (intro w;go_simp;try with_reducible rfl);try simp only [Act.put,List.setIfInBounds_toArray,List.set_cons_zero,List.set_cons_succ])
 (refine wpAnyL_take0 12 (v:=?_) rfl (by kernel_rfl) (by kernel_rfl) (by kernel_rfl) (by kernel_rfl) (fun _ _ _ h=>h) (fun _=>by assumption) (by kernel_rfl) ?_ ?_;rotate_left;· (intro w;go_simp;try with_reducible rfl);try simp only [Act.put,List.setIfInBounds_toArray,List.set_cons_zero,List.set_cons_succ])
 (refine wpAnyL_take0 13 (v:=?_) rfl (by kernel_rfl) (by kernel_rfl) (by kernel_rfl) (by kernel_rfl) (fun _ _ _ h=>h) (fun _=>by assumption) (by kernel_rfl) ?_ ?_;rotate_left;· (intro w;go_simp;try with_reducible rfl);try simp only [Act.put,List.setIfInBounds_toArray,List.set_cons_zero,List.set_cons_succ])
 (refine wpAnyL_take0 14 (v:=?_) rfl (by kernel_rfl) (by kernel_rfl) (by kernel_rfl) (by kernel_rfl) (fun _ _ _ h=>h) (fun _=>by assumption) (by kernel_rfl) ?_ ?_;rotate_left;· (intro w;go_simp;try with_reducible rfl);try simp only [Act.put,List.setIfInBounds_toArray,List.set_cons_zero,List.set_cons_succ])
 (refine wpAnyL_take0 15 (v:=?_) rfl (by kernel_rfl) (by kernel_rfl) (by kernel_rfl) (by kernel_rfl) (fun _ _ _ h=>h) (fun _=>by assumption) (by kernel_rfl) ?_ ?_;rotate_left;· (intro w;go_simp;try with_reducible rfl);try simp only [Act.put,List.setIfInBounds_toArray,List.set_cons_zero,List.set_cons_succ])
 (refine wpAnyL_take0 16 (v:=?_) rfl (by kernel_rfl) (by kernel_rfl) (by kernel_rfl) (by kernel_rfl) (fun _ _ _ h=>h) (fun _=>by assumption) (by kernel_rfl) ?_ ?_;rotate_left;· (intro w;go_simp;try with_reducible rfl);try simp only [Act.put,List.setIfInBounds_toArray,List.set_cons_zero,List.set_cons_succ])
 have hHeld:(fun w'=>Bk w' W1.heap.size 28 #[.string Chk.shop.name,.slice A1 n1 c1,.slice A2 n2 c2,.slice A3 n3 c3]) _:=HQ3.out
 (refine Lst.takeM 26 17 (v:=?_) rfl (by kernel_rfl) (by kernel_rfl) (by kernel_rfl) (by kernel_rfl) (by kernel_rfl) (by kernel_rfl) (fun _ _ _ h=>h) (by assumption) (by kernel_rfl) ?_ ?_;rotate_left;· (intro w hSw;obtain ⟨e0,e1,e2,e3⟩:=(Bk.k4 hSw).1;go_simp;try with_reducible rfl);try simp only [Act.put,List.setIfInBounds_toArray,List.set_cons_zero,List.set_cons_succ])
 clear hHeld
 (refine wpAnyL_take0 19 (v:=?_) rfl (by kernel_rfl) (by kernel_rfl) (by kernel_rfl) (by kernel_rfl) (fun _ _ _ h=>h) (fun _=>by assumption) (by kernel_rfl) ?_ ?_;rotate_left;· (intro w;go_simp;try with_reducible rfl);try simp only [Act.put,List.setIfInBounds_toArray,List.set_cons_zero,List.set_cons_succ])
 (refine wpAnyL_take0 20 (v:=?_) rfl (by kernel_rfl) (by kernel_rfl) (by kernel_rfl) (by kernel_rfl) (fun _ _ _ h=>h) (fun _=>by assumption) (by kernel_rfl) ?_ ?_;rotate_left;· (intro w;go_simp;try with_reducible rfl);try simp only [Act.put,List.setIfInBounds_toArray,List.set_cons_zero,List.set_cons_succ])
 (refine wpAnyL_step 18 (by kernel_rfl) rfl (fun K hK=>?_))
 go_simp
 refine (vnmd_any Vl.wkO _).mono ?_
 rintro e W6 ⟨u18,rfl,hb,hs⟩
 have HB18:=Lib.hid (HB3.out.trans (hb.mono HB3.out.size))
 have HS18:=Lib.hid (Id.SchV.below hb HS3.out)
 have HV18:=Lib.hid (Vl.ValR.below HV3.out hb)
 have HQ18:=Lib.hid (Bk.below HQ3.out hb (Bk.lt HQ3.out))
 have HT18:=Lib.hid hs
 clear hb hs
 (refine hK.out _ _ (fun hnn=>HQ18.out) ?_;clear hK K;try simp only [Act.put,List.setIfInBounds_toArray,List.set_cons_zero,List.set_cons_succ])
 (refine wpAnyL_step 21 (by kernel_rfl) rfl (fun K hK=>?_))
 go_simp
 have h5:=vfits_any _ Chk.shop (Chk.shop_fine _ (by decide)) _ (Vl.nmd Vl.wkO) _ (Vl.wkV.take 3) (by decide) (by decide) _ (HK.out.below HB18.out) HS18.out HT18.out (ERow.part (a:=0) (b:=3) HV18.out (by omega) (by omega))
 rw [Vl.wk_fits3] at h5
 refine h5.mono ?_
 rintro e W7 ⟨rfl,hb⟩
 have HB21:=Lib.hid (HB18.out.trans (hb.mono HB18.out.size))
 have HS21:=Lib.hid (Id.SchV.below hb HS18.out)
 have HV21:=Lib.hid (Vl.ValR.below HV18.out hb)
 have HQ21:=Lib.hid (Bk.below HQ18.out hb (Bk.lt HQ18.out))
 clear hb h5
 (refine hK.out _ _ (fun hnn=>HQ21.out) ?_;clear hK K;try simp only [Act.put,List.setIfInBounds_toArray,List.set_cons_zero,List.set_cons_succ])
 try simp only [Int.cast_ofNat_Int]
 (refine wpAnyL_take0 22 (v:=?_) rfl (by kernel_rfl) (by kernel_rfl) (by kernel_rfl) (by kernel_rfl) (fun _ _ _ h=>h) (fun _=>by assumption) (by kernel_rfl) ?_ ?_;rotate_left;· (intro w;go_simp;try with_reducible rfl);try simp only [Act.put,List.setIfInBounds_toArray,List.set_cons_zero,List.set_cons_succ])
 (refine wpAnyL_take0 23 (v:=?_) rfl (by kernel_rfl) (by kernel_rfl) (by kernel_rfl) (by kernel_rfl) (fun _ _ _ h=>h) (fun _=>by assumption) (by kernel_rfl) ?_ ?_;rotate_left;· (intro w;go_simp;try with_reducible rfl);try simp only [Act.put,List.setIfInBounds_toArray,List.set_cons_zero,List.set_cons_succ])
 (refine wpAnyL_take0 24 (v:=?_) rfl (by kernel_rfl) (by kernel_rfl) (by kernel_rfl) (by kernel_rfl) (fun _ _ _ h=>h) (fun _=>by assumption) (by kernel_rfl) ?_ ?_;rotate_left;· (intro w;go_simp;try with_reducible rfl);try simp only [Act.put,List.setIfInBounds_toArray,List.set_cons_zero,List.set_cons_succ])
 (refine wpAnyL_take0 25 (v:=?_) rfl (by kernel_rfl) (by kernel_rfl) (by kernel_rfl) (by kernel_rfl) (fun _ _ _ h=>h) (fun _=>by assumption) (by kernel_rfl) ?_ ?_;rotate_left;· (intro w;go_simp;try with_reducible rfl);try simp only [Act.put,List.setIfInBounds_toArray,List.set_cons_zero,List.set_cons_succ])
 (refine wpAnyL_step 26 (by kernel_rfl) rfl (fun K hK=>?_))
 go_simp
 have h6:=vend_any _ Vl.wkV 0 _ HV21.out (by decide)
 rw [Vl.wk_end] at h6
 refine h6.mono ?_
 rintro e W8 ⟨rfl,rfl⟩
 (refine hK.out _ _ (fun hnn=>absurd hnn (by decide)) ?_;clear hK K;try simp only [Act.put,List.setIfInBounds_toArray,List.set_cons_zero,List.set_cons_succ])
 (refine wpAnyL_step 27 (by kernel_rfl) rfl (fun K hK=>?_))
 go_simp
 (refine hK.out _ _ (fun hnn=>absurd hnn (by decide)) ?_;clear hK K;try simp only [Act.put,List.setIfInBounds_toArray,List.set_cons_zero,List.set_cons_succ])
 (refine wpAnyL_step 28 (by kernel_rfl) rfl (fun K hK=>?_))
 go_simp
 (refine hK.out _ _ (fun hnn=>absurd hnn (by decide)) ?_;clear hK K;try simp only [Act.put,List.setIfInBounds_toArray,List.set_cons_zero,List.set_cons_succ])
 (refine wpAnyL_step 29 (by kernel_rfl) rfl (fun K hK=>?_))
 go_simp
 (refine hK.out _ _ (fun hnn=>absurd hnn (by decide)) ?_;clear hK K;try simp only [Act.put,List.setIfInBounds_toArray,List.set_cons_zero,List.set_cons_succ])
 refine wpAnyL_done (by kernel_rfl) ?_ _
 refine NoPanic.normal ?_
 go_wp2_with fail
 go_ret
 exact ⟨rfl,HB21.out⟩
end Go.Proofs.YtjfdohhdkdjifaaGreatDoor
set_option linter.unusedVariables false
namespace Go.Proofs.YtjfdohhdkdjifaaGreatDoor
open Go.RowKit
namespace Sm
end Sm
namespace Sm
def next (X x:Nat):Nat:=X / 256 ^^^ step8 (X % 256 ^^^ x)
end Sm
end Go.Proofs.YtjfdohhdkdjifaaGreatDoor
set_option linter.unusedVariables false
namespace Go.Proofs.YtjfdohhdkdjifaaGreatDoor
open Go.BigFrame
open Go.RowKit
namespace Sm
end Sm
namespace Sm
end Sm
namespace Sm
end Sm
namespace Sm
end Sm
end Go.Proofs.YtjfdohhdkdjifaaGreatDoor
set_option linter.unusedVariables false
namespace Go.Proofs.YtjfdohhdkdjifaaGreatDoor
open Go.RowKit Go.BigFrame
namespace Sm
end Sm
namespace Sm
end Sm
end Go.Proofs.YtjfdohhdkdjifaaGreatDoor
set_option linter.unusedVariables false
namespace Go.Proofs.YtjfdohhdkdjifaaGreatDoor
namespace Ev
/-- A number's bytes, seven bits a byte. -/
def varF:Nat→Nat→List UInt8
 | 0,x=>[UInt8.ofNat x]
 | f+1,x=>if x<128 then [UInt8.ofNat x] else UInt8.ofNat (x % 128+128)::varF f (x / 128)
def var (x:Nat):List UInt8:=varF 9 x
/-- A number's lowest bytes, the highest one first. -/
def big (x:Nat):Nat→List UInt8
 | 0=>[]
 | n+1=>UInt8.ofNat (x / 256 ^ n)::big x n
def txt (s:ByteArray):List UInt8:=var s.size++s.data.toList
structure Letter where
 kind:Nat
 from_:Int
 to_:Int
 seq:Nat
 key:ByteArray
 print:Nat
 svc:ByteArray
 mth:ByteArray
 code:Int
 body:ByteArray
def Letter.zero:Letter:=⟨0,0,0,0,ByteArray.empty,0,ByteArray.empty,ByteArray.empty,0,ByteArray.empty⟩
def Letter.cells (l:Letter):List Value:=[.int .u8 l.kind,.int .i64 l.from_,.int .i64 l.to_,.int .u64 l.seq,.string l.key,.int .u64 l.print,.string l.svc,.string l.mth,.int .i64 l.code,.string l.body]
def Letter.val (l:Letter):Value:=.agg #[.int .u8 l.kind,.int .i64 l.from_,.int .i64 l.to_,.int .u64 l.seq,.string l.key,.int .u64 l.print,.string l.svc,.string l.mth,.int .i64 l.code,.string l.body]
/-- Its numbers are such as their kinds hold. -/
def Letter.ok (l:Letter):Prop:=l.kind<256∧l.seq<18446744073709551616∧l.print<18446744073709551616
def peer (n:Int):Bool:=decide (0≤n)&&decide (n<4)
/-- Is a letter right? -/
def right (l:Letter):Bool :=
 peer l.from_&&peer l.to_&&decide (1≤l.key.size)&&decide (l.key.size≤64)&&decide (l.body.size≤4096) &&
 (if l.kind=1∨l.kind=3 then Tk.isName l.svc&&Tk.isName l.mth&&decide (l.code=0)&&(decide (l.kind=1)||l.body.toList.isEmpty)
  else if l.kind=2∨l.kind=4 then l.svc.toList.isEmpty&&l.mth.toList.isEmpty&&decide (0≤l.code)&&decide (l.code≤999) else false)
/-- A letter's bytes without the sum. -/
def head (l:Letter):List UInt8 :=
 [UInt8.ofNat l.kind,UInt8.ofNat l.from_.toNat,UInt8.ofNat l.to_.toNat]++var l.seq++txt l.key++big l.print 8++txt l.svc++txt l.mth++var l.code.toNat++txt l.body
def bytes (l:Letter):List UInt8:=head l++Sm.le4 (Sm.crc (head l))
end Ev
end Go.Proofs.YtjfdohhdkdjifaaGreatDoor
set_option linter.unusedVariables false
namespace Go.Proofs.YtjfdohhdkdjifaaGreatDoor
namespace Ev
/-- What the first bytes of a number tell. -/
def acc (l:List UInt8):Nat→Nat
 | 0=>0
 | i+1=>acc l i ||| ((l.getD i 0).toNat % 128 * 2 ^ (7 * i) % 18446744073709551616)
/-- A number of the first bytes, the lowest one first. -/
def lit (l:List UInt8):Nat→Nat
 | 0=>0
 | i+1=>lit l i+(l.getD i 0).toNat * 2 ^ (8 * i)
end Ev
end Go.Proofs.YtjfdohhdkdjifaaGreatDoor
set_option linter.unusedVariables false
set_option linter.unusedSimpArgs false
namespace Go.Proofs.YtjfdohhdkdjifaaGreatDoor
namespace Cd
open Go.Proofs.YtjfdohhdkdjifaaGreatDoor.Ev
/-- A number at the beginning of bytes; false: they are too few, true: it is none. -/
def nmF (l:List UInt8):Nat→Nat→Except Bool (Nat × Nat)
 | 0,_=>.error true
 | g+1,i=>if i<l.length then (if i=9∧1<(l.getD i 0).toNat then .error true else if (l.getD i 0).toNat<128 then (if (l.getD i 0).toNat=0∧0<i then .error true else .ok (acc l (i+1),i+1)) else nmF l g (i+1)) else .error false
def num (b:List UInt8) (p:Nat):Except (Nat × Nat) (Nat × Nat):=match nmF (b.drop p) 10 0 with
 | .ok q=>.ok (q.1,p+q.2)
 | .error true=>.error (p,162)
 | .error false=>.error (b.length,160)
end Cd
end Go.Proofs.YtjfdohhdkdjifaaGreatDoor
set_option linter.unusedVariables false
set_option linter.unusedSimpArgs false
namespace Go.Proofs.YtjfdohhdkdjifaaGreatDoor
open Go.RowKit Go.BigFrame
namespace Cd
open Go.Proofs.YtjfdohhdkdjifaaGreatDoor.Id Go.Proofs.YtjfdohhdkdjifaaGreatDoor.Chk Go.Proofs.YtjfdohhdkdjifaaGreatDoor.Vl Go.Proofs.YtjfdohhdkdjifaaGreatDoor.Ev
/-- A signed number as one without a sign, and back. -/
def zz (n:Int):Nat:=if 0≤n then 2 * n.toNat else 2 * (-(n+1)).toNat+1
def un (u:Nat):Int:=if u % 2=0 then ((u / 2:Nat):Int) else -((u / 2:Nat):Int) - 1
/-- A part's numbers are Go's. -/
structure OkN (n:Vl.Node):Prop where
 lo:-9223372036854775808≤n.int
 hi:n.int≤9223372036854775807
 tx:n.text.size≤9223372036854775807
def encN (n:Vl.Node):List UInt8 :=
 if n.kind=2 then [UInt8.ofNat n.int.toNat] else if n.kind=3 then var (zz n.int) else if n.kind=4 then var n.text.size++n.text.data.toList
 else if n.kind=5 then var n.kids.toNat else if n.kind=6 then [UInt8.ofNat n.kids.toNat] else if n.kind=8 then var n.int.toNat else []
def encs (v:List Vl.Node):List UInt8:=v.flatMap encN
theorem encs_app (a b:List Vl.Node):encs (a++b)=encs a++encs b:=List.flatMap_append
structure S where
 at_:Nat
 v:List Vl.Node
 sz:Nat
def S.put (x:S) (p:Nat) (n:Vl.Node) (z:Nat):S:=⟨p,x.v++[n],x.sz+z⟩
def isLeaf (k:Nat):Prop:=k=1∨k=2∨k=3∨k=4
instance (k:Nat):Decidable (isLeaf k):=by unfold isLeaf;infer_instance
def full (x:S):Prop:=4096≤x.v.length∨4096≤x.sz
instance (x:S):Decidable (full x):=by unfold full;infer_instance
theorem size_app (a b:List Vl.Node):size (a++b)=size a+size b:=by
 unfold size
 rw [List.length_append,List.map_append,List.sum_append]
 omega
/-- What a reading has come to. -/
structure Got (b:List UInt8) (x y:S) (m:List Vl.Node):Prop where
 v:y.v=x.v++m
 bs:b.drop x.at_=encs m++b.drop y.at_
 le:x.at_≤y.at_
 lim:y.at_≤b.length
 sz:y.sz=x.sz+size m
 ok:∀ n∈m,OkN n
theorem Got.trans {b:List UInt8} {x y z:S} {m m':List Vl.Node} (h:Got b x y m) (k:Got b y z m'):Got b x z (m++m') :=
 ⟨by rw [k.v,h.v,List.append_assoc],by rw [h.bs,k.bs,encs_app,List.append_assoc],Nat.le_trans h.le k.le,k.lim,by rw [k.sz,h.sz,size_app];omega,fun n hn=>by rcases List.mem_append.1 hn with h1 | h1;exact h.ok n h1;exact k.ok n h1⟩
end Cd
end Go.Proofs.YtjfdohhdkdjifaaGreatDoor
set_option linter.unusedVariables false
set_option linter.unusedSimpArgs false
namespace Go.Proofs.YtjfdohhdkdjifaaGreatDoor
open Go.RowKit Go.BigFrame Go.ChangeShapes
section
variable {H : Type} {enc : TypeId × Value → H} {w : World} {base : Nat} {spare : Nat → Bool} {held : Bool}
end
end Go.Proofs.YtjfdohhdkdjifaaGreatDoor
set_option linter.unusedVariables false
set_option linter.unusedSimpArgs false
namespace Go.Proofs.YtjfdohhdkdjifaaGreatDoor
open Go.RowKit Go.BigFrame Go.ChangeShapes Go.Joins Go.WideShapes Go.Deep
theorem Id.SortsR.below {w w':World} {B:Option Nat} {v:Value} {l:List Id.Srt} (h:Id.SortsR w B v l) (hb:Below w.heap.size w w'):Id.SortsR w' B v l:=ERow.below h hb (fun _ _ h=>h)
theorem Vl.sameF_refl (a:List Vl.Node):Vl.sameF a a=true:=Vl.sameF_iff.2 rfl
end Go.Proofs.YtjfdohhdkdjifaaGreatDoor
