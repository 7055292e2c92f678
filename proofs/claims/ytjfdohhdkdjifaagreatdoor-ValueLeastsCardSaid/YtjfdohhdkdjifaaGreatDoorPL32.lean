/- value.Least: what builds the least value. No condition but the ones the theorems state. -/
import Derived.Test.YtjfdohhdkdjifaaGreatDoorPL30
import Derived.Test.YtjfdohhdkdjifaaGreatDoorPL19
import Derived.Test.YtjfdohhdkdjifaaGreatDoorPL28
import Derived.Test.YtjfdohhdkdjifaaGreatDoorPL06
set_option linter.unusedVariables false
set_option linter.unusedSimpArgs false
namespace Go.Proofs.YtjfdohhdkdjifaaGreatDoor
open Go.RowKit Go.BigFrame Go.Maps Go.WideMaps
namespace Vl
open Go.Proofs.YtjfdohhdkdjifaaGreatDoor.Id Go.Proofs.YtjfdohhdkdjifaaGreatDoor.Chk
theorem bld_pos {x:Sch} {kn:Kn} {k:Nat} {t:List Srt} (ht:okT x t=true) (hk:1≤k):1≤(bldF x kn k t).length:=by
 obtain ⟨k,rfl⟩:∃ j,k=j+1:=⟨k - 1,by omega⟩
 cases t with
 | nil=>cases ht
 | cons y t =>
  unfold bldF
  split
  ·rename_i h7
   have hsm:(find x y.name).isSome=true:=by rcases okT_kind ht with h | h | h | h <;> first | (exfalso;omega) | exact h.2.2
   obtain ⟨r,hr⟩:=Option.isSome_iff_exists.1 hsm
   rw [hr]
   simp only
   split <;> simp
  ·simp
theorem bk_ne {w:World} {a b:Nat} {s t:TypeId} {cs ds:Array Value} (h:Bk w a s cs) (k:Bk w b t ds) (hn:s≠t):a≠b:=fun e=>by
 subst e
 have:=h.symm.trans k
 injection this with e
 injection e with e1 e2 e3
 exact hn e2
theorem KnM.of_heap {w w':World} {b p:Nat} {kn:Kn} (h:KnM w b kn p) (e:∀ es clock,w.heap[b]?=some (.map es clock)→w'.heap[b]?=some (.map es clock)):KnM w' b kn p:=by
 obtain ⟨D,⟨es,clock,h1,h2,h3,h4⟩,h5⟩:=h
 exact ⟨D,⟨es,clock,e _ _ h1,h2,h3,h4⟩,h5⟩
theorem FM.of_heap {w0 w w':World} {b:Nat} {rs:List Rec} (h:FM w0 w b rs) (e:∀ es clock,w.heap[b]?=some (.map es clock)→w'.heap[b]?=some (.map es clock)):FM w0 w' b rs:=by
 obtain ⟨D,vl,⟨es,clock,h1,h2,h3,h4⟩,h5⟩:=h
 exact ⟨D,vl,⟨es,clock,e _ _ h1,h2,h3,h4⟩,h5⟩
def bldV (go gf gk gb:Nat):Value:=.func (.func 64) #[] #[.pointer (some ⟨go,0,none⟩),.pointer (some ⟨gf,0,none⟩),.pointer (some ⟨gk,0,none⟩),.pointer (some ⟨gb,0,none⟩)]
/-- What lies there while the least value is built. -/
structure Lb (x:Sch) (kn:Kn) (w0 wr:World) (go gf gk gb g m mb p B:Nat) (v:Value) (o:List Node):Prop where
 out:Bk wr go 23 #[v]
 row:ERow wr (some B) 71 4 NodE v o
 fnd:Bk wr gf 103 #[fndV g]
 known:Bk wr gk 117 #[.map (some mb)]
 bld:Bk wr gb 120 #[bldV go gf gk gb]
 fn:Fnd w0 wr g m x.records
 km:KnM wr mb kn p
 bel:Below w0.heap.size w0 wr
 lo:w0.heap.size≤go
 lob:go<B
 loB:B≤wr.heap.size
section
variable {x : Sch} {kn : Kn} {w0 wr w' : World} {go gf gk gb g m mb p B : Nat} {v v' : Value} {o o' : List Node}
theorem Lb.below (h:Lb x kn w0 wr go gf gk gb g m mb p B v o) (hb:Below wr.heap.size wr w'):Lb x kn w0 w' go gf gk gb g m mb p B v o :=
 ⟨h.out.below hb h.out.lt,ERow.below h.row hb (fun _ _ h=>h),h.fnd.below hb h.fnd.lt,h.known.below hb h.known.lt,h.bld.below hb h.bld.lt,h.fn.below hb,h.km.below hb,h.bel.trans (hb.mono h.bel.size),h.lo,h.lob,Nat.le_trans h.loB hb.size⟩
/-- A part more, and the box written. -/
theorem Lb.push (h:Lb x kn w0 wr go gf gk gb g m mb p B v o) (hr:ERow w' (some B) 71 4 NodE v' o') (hb:Below B wr w') (ho:Only 71 wr w') :
  Lb x kn w0 (w'.setCell ⟨go,0,none⟩ v') go gf gk gb g m mb p B v' o'∧Onl 71 23 wr (w'.setCell ⟨go,0,none⟩ v'):=by
 have q0:=ho.bk h.out (by decide)
 have q1:=ho.bk h.fnd (by decide)
 have q2:=ho.bk h.known (by decide)
 have q3:=ho.bk h.bld (by decide)
 have q4:=ho.bk h.fn.bx (by decide)
 have hs:Only 23 w' (w'.setCell ⟨go,0,none⟩ v'):=Only.set q0 0 _
 have hmap:∀ b es clock,wr.heap[b]?=some (Obj.map es clock)→(w'.setCell ⟨go,0,none⟩ v').heap[b]?=some (Obj.map es clock):=fun b es clock hh=>hs.block b _ (ho.block b _ hh (fun _ _ e=>by cases e)) (fun _ _ e=>by cases e)
 have hlo:=h.lo
 have hlob:=h.lob
 have hloB:=h.loB
 refine ⟨⟨q0.set_ 0 _,ERow.kp hr (hs.kp B (T:=[71]) (by decide)) (Nat.le_refl _) (by decide) (fun _ _ h=>h),q1.far (bk_ne q1 q0 (by decide)) _,q2.far (bk_ne q2 q0 (by decide)) _,q3.far (bk_ne q3 q0 (by decide)) _,⟨q4.far (bk_ne q4 q0 (by decide)) _,h.fn.lo,h.fn.lom,h.fn.fm.of_heap (hmap _)⟩,h.km.of_heap (hmap _),?_,h.lo,h.lob,Nat.le_trans (Nat.le_trans h.loB ho.size) hs.size⟩,(Onl.left ho).trans (Onl.right hs)⟩
 exact (h.bel.trans (hb.mono (by omega))).setCell (p:=⟨go,0,none⟩) hlo _
def BldP (x:Sch) (kn:Kn) (w0 wr:World) (go gf gk gb g m mb p B:Nat) (o R:List Node) (e:Ending) (w':World):Prop:=∃ b v' o',e=.returned (.bool b)∧Onl 71 23 wr w'∧Lb x kn w0 w' go gf gk gb g m mb p B v' o'∧(b=true→o'=o++R∧o'.length≤4096)∧(b=false→4096<o.length+R.length)
/-- The contract of what builds, with fuel. -/
def BldC (x:Sch) (kn:Kn) (w0:World) (go gf gk gb g m mb p B k:Nat):Prop:=∀ (tv:Value) (t:List Srt) (v:Value) (o:List Node) (wr:World),Lb x kn w0 wr go gf gk gb g m mb p B v o→SortsR w0 none tv t→okT x t=true→dpt kn t≠0→dpt kn t≤k→o.length≤4096 →
 Calls Tryz.prog 64 #[tv,.pointer (some ⟨go,0,none⟩),.pointer (some ⟨gf,0,none⟩),.pointer (some ⟨gk,0,none⟩),.pointer (some ⟨gb,0,none⟩)] wr (BldP x kn w0 wr go gf gk gb g m mb p B o (bldF x kn k t))
end
end Vl
set_option maxRecDepth 100000 in
set_option maxHeartbeats 8000000 in
theorem vlq_any (gk gd mb p d:Nat) (kn:Vl.Kn) (yn:ByteArray) (A:Option Addr) (n c:Nat) (yt:List Id.Srt) (h0:yt≠[]) (hz:∀ x∈yt,x.name.size≤1000) (w:World) (hd1:1≤d) (hd2:d≤100000) (hkd:Vl.dpt kn yt≤100000) (hk:Bk w gk 117 #[.map (some mb)]) (hd:Bk w gd 3 #[.int .i64 d]) (hm:Vl.KnM w mb kn p) (ht:Id.SortsR w none (.slice A n c) yt) :
  Calls Tryz.prog 67 #[.agg #[.string yn,.slice A n c],.pointer (some ⟨gk,0,none⟩),.pointer (some ⟨gd,0,none⟩)] w fun e w'=>e=.returned (.bool (Vl.dpt kn yt==d - 1))∧Below w.heap.size w w':=by
 have HT:=Lib.hid ht
 have HM:=Lib.hid hm
 have HK:=Lib.hid hk
 have HD:=Lib.hid hd
 clear ht hm hk hd
 obtain ⟨z,Hz⟩:∃ z,Hid (Vl.dpt kn yt=z):=⟨_,Lib.hid rfl⟩
 rw [Hz.out] at hkd ⊢
 go_enter Tryz.func67,Tryz.ntmps67
 go_upto_region 1 with (fail)
 refine wp_named (fun V hV=>?_)
 obtain ⟨hb,hq,-⟩:=fresh_box hV
 clear hV
 have HB:=Lib.hid hb
 have HK1:=Lib.hid (HK.out.below hb HK.out.lt)
 have HD1:=Lib.hid (HD.out.below hb HD.out.lt)
 have HM1:=Lib.hid (HM.out.below hb)
 have HT1:=Lib.hid (ERow.below HT.out hb (fun _ _ h=>h):Id.SortsR V none (.slice A n c) yt)
 obtain ⟨⟨y0,y1⟩,-⟩:=hq.k2
 obtain ⟨k0,-⟩:=HK1.out.k1
 obtain ⟨d0,-⟩:=HD1.out.k1
 clear hb hq
 have hcall:∀ q,Calls Tryz.prog 63 #[.slice A n c,.map (some mb)] (V.drewN q) fun e w'=>e=.returned (.int .i64 z)∧∃ q',w'=V.drewN q':=fun q=>by
  have h:=vdepth_any mb p kn _ yt h0 hz (V.drewN q) (HM1.out.drewN q) (ERow.below HT1.out (below_drewN (Below.refl _ _) q) (fun _ _ h=>h))
  rw [Hz.out] at h
  exact h.mono fun _ _ ⟨he,q',hw⟩=>⟨he,q+q',by rw [hw,World.drewN_drewN]⟩
 have HC:=Lib.hid hcall
 clear hcall
 have he:((z:Int)==(d:Int) - 1)=(z==d - 1):=by rw [Bool.eq_iff_iff,beq_iff_eq,beq_iff_eq];omega
 have hw1:IntKind.i64.wrap ((d:Int) - 1)=(d:Int) - 1:=by
  unfold IntKind.wrap
  simp [IntKind.bits,IntKind.signed]
  omega
 go_quiet (exact HC.out _)
 go_wp2_with fail
 go_ret
 exact ⟨by first | rfl | (simp;omega),below_drewN HB.out _⟩
set_option maxRecDepth 100000 in
set_option maxHeartbeats 16000000 in
theorem vindexf_any (gk gd mb p d:Nat) (kn:Vl.Kn) (A:Option Addr) (n c:Nat) (rn:ByteArray) (rc:Bool) (fs:List Id.Fld) (hz:∀ f∈fs,f.type≠[]∧∀ x∈f.type,x.name.size≤1000) (w:World) (hd1:1≤d) (hd2:d≤100000) (hkn:∀ n,kn n≤100000) (hk:Bk w gk 117 #[.map (some mb)]) (hd:Bk w gd 3 #[.int .i64 d]) (hm:Vl.KnM w mb kn p) (hf:Id.FldsR w none (.slice A n c) fs) (hway:Vl.way kn ⟨rn,rc,fs⟩ (d - 1)<fs.length) :
  Calls Tryz.prog 66 #[.slice A n c,.func (.func 67) #[] #[.pointer (some ⟨gk,0,none⟩),.pointer (some ⟨gd,0,none⟩)]] w fun e w'=>e=.returned (.int .i64 (Vl.way kn ⟨rn,rc,fs⟩ (d - 1):Nat))∧Below w.heap.size w w':=by
 have HF:=Lib.hid hf
 have HM:=Lib.hid hm
 have HK:=Lib.hid hk
 have HD:=Lib.hid hd
 have HZ:=Lib.hid hz
 have HKN:=Lib.hid hkn
 have HN:Hid (n=fs.length):=Lib.hid (by obtain ⟨_,_,e,_⟩:=ERow.slice hf;injection e)
 have hn:n≤9223372036854775807:=by obtain ⟨_,_,e,_,_⟩:=ERow.slice hf;injection e;omega
 obtain ⟨J,HJ⟩:∃ J,Hid (Vl.way kn ⟨rn,rc,fs⟩ (d - 1)=J):=⟨_,Lib.hid rfl⟩
 rw [HJ.out] at hway ⊢
 have hJn:J<n:=by rw [HN.out];exact hway
 have hat:Vl.dpt kn (fs[J]'hway).type=d - 1:=by
  have h:=Vl.way_at (kn:=kn) (r:=⟨rn,rc,fs⟩) (d:=d - 1) (by rw [HJ.out];exact hway)
  simp only [HJ.out] at h
  exact h
 have hbefore:∀ j (h:j<fs.length),j<J→(Vl.dpt kn (fs[j]'h).type==d - 1)=false:=fun j h hj=>by
  have h2:=List.not_of_lt_findIdx (xs:=fs) (p:=fun f:Id.Fld=>Vl.dpt kn f.type==d - 1) (i:=j) (by have:=HJ.out;unfold Vl.way at this;simp only at this;rw [this];exact hj)
  simpa using h2
 have HAT:=Lib.hid hat
 have HBE:=Lib.hid hbefore
 clear hf hm hk hd hz hkn hat hbefore
 go_enter Tryz.func66,Tryz.ntmps66
 go_wp2_with fail
 go_loopw [8] (fun i wr=>∃ (j:Nat),j≤J∧i=.int .i64 j∧Hid (Below w.heap.size w wr)) (fun i _=>n - (intOf i).toNat)
 case atStart=>exact ⟨0,by omega,rfl,Lib.hid (Below.refl _ _)⟩
 case round =>
  obtain ⟨j,hj,rfl,HB⟩:=hrel
  obtain ⟨U,rfl⟩:∃ w',w'=wr:=⟨_,rfl⟩
  have ij0:(0:Int)≤(j:Int):=by omega
  have ij1:(j:Int)<(n:Int):=by omega
  have hka:j<fs.length:=by omega
  obtain ⟨g,off,cs,rfl,-,⟨u,he,HU⟩,hc⟩:=ERow.get HF.out hka (by omega)
  obtain ⟨r,Hr⟩:∃ r,Hid (fs[j]=r):=⟨_,Lib.hid rfl⟩
  have hzk:=HZ.out fs[j] (List.getElem_mem hka)
  rw [Hr.out] at he HU hzk
  obtain ⟨yn,yt⟩:=r
  subst he
  simp only at HU hc hzk
  obtain ⟨A7,n7,c7,rfl⟩:=ERow.is HU
  have H7:=Lib.hid HU
  have a0:=hc 0 _ rfl
  have a1:=hc 1 _ rfl
  simp only [Nat.add_zero] at a0
  have hgl:g<w.heap.size:=World.block_lt_of_cell? w _ a0
  have a0:=(HB.out.cell hgl).trans a0
  have a1:=(HB.out.cell hgl).trans a1
  clear hc HU
  have hdp:Vl.dpt kn yt≤100000:=by
   unfold Vl.dpt
   split
   ·omega
   ·split
    ·exact HKN.out _
    ·omega
  obtain ⟨T,HT⟩:∃ T,Hid ((Vl.dpt kn yt==d - 1)=T):=⟨_,Lib.hid rfl⟩
  go_wp2_with fail
  refine (vlq_any gk gd mb p d kn yn A7 n7 c7 yt hzk.1 hzk.2 U hd1 hd2 hdp (HK.out.below HB.out HK.out.lt) (HD.out.below HB.out HD.out.lt) (HM.out.below HB.out) (ERow.below H7.out HB.out (fun _ _ h=>h))).mono ?_
  rw [HT.out]
  rintro e V ⟨rfl,hb⟩
  have HB2:=Lib.hid (HB.out.trans (hb.mono HB.out.size))
  clear hb a0 a1 hzk hdp
  cases T
  case true =>
   have hjJ:j=J:=by
    rcases Nat.lt_or_ge j J with h | h
    ·have h2:=HBE.out j hka h
     rw [Hr.out] at h2
     rw [HT.out] at h2
     cases h2
    ·omega
   subst hjJ
   go_wp2_with fail
   go_ret
   exact ⟨rfl,HB2.out⟩
  have hjJ:j<J:=by
   rcases Nat.lt_or_ge j J with h | h
   ·exact h
   ·exfalso
    obtain rfl:j=J:=by omega
    have h2:=HAT.out
    rw [Hr.out] at h2
    have h3:=HT.out
    rw [show Vl.dpt kn yt=d - 1 from h2] at h3
    simp at h3
  go_wp2_with fail
  go_roundw
  case rel=>exact ⟨j+1,by omega,by go_num,HB2⟩
  case measure=>simp [intOf];omega
set_option maxRecDepth 100000 in
set_option maxHeartbeats 16000000 in
theorem vbld_step (x:Id.Sch) (kn:Vl.Kn) (hR:Chk.Right x) (hF:Chk.Fine x) (hM:Vl.Min x kn) (hkn:∀ n,kn n≤100000) (w0:World) (go gf gk gb g m mb p B k:Nat) (IH:Vl.BldC x kn w0 go gf gk gb g m mb p B k):Vl.BldC x kn w0 go gf gk gb g m mb p B (k+1):=by
 intro tv t v o wq hL ht hot hd0 hdk ho
 have HIH:=Lib.hid IH
 have HR:=Lib.hid hR
 have HF:=Lib.hid hF
 have HM:=Lib.hid hM
 have HKN:=Lib.hid hkn
 have HPOS:=Lib.hid (Vl.bld_pos (kn:=kn) (k:=k+1) hot (by omega))
 cases t with
 | nil=>cases hot
 | cons s0 t =>
 have HKD:=Lib.hid (Vl.okT_kind hot)
 obtain ⟨R,HRR⟩:∃ R,Hid (Vl.bldF x kn (k+1) (s0::t)=R):=⟨_,Lib.hid rfl⟩
 rw [HRR.out]
 rw [HRR.out] at HPOS
 obtain ⟨A7,n7,c7,rfl⟩:=ERow.is ht
 obtain ⟨g7,off7,cs,rfl,-,e1,hc⟩:=ERow.get ht (i:=0) (by simp) (by omega)
 unfold Id.SortE Id.Srt.cells at e1
 subst e1
 have b0:=hc 0 _ rfl
 have b1:=hc 1 _ rfl
 simp only [Nat.zero_mul,Nat.add_zero,List.getElem_cons_zero] at b0 b1
 have hg7:g7<w0.heap.size:=World.block_lt_of_cell? w0 _ b0
 have a0:=(hL.bel.cell hg7).trans b0
 have a1:=(hL.bel.cell hg7).trans b1
 clear b0 b1
 have hn7:0<n7:=by obtain ⟨_,_,e,_⟩:=ERow.slice ht;injection e with _ e2 _;rw [e2];simp
 have hn7i:(0:Int)<(n7:Int):=by omega
 have HT:=Lib.hid ht
 have HL:=Lib.hid hL
 have HD0:=Lib.hid hd0
 have HDK:=Lib.hid hdk
 obtain ⟨A8,n8,c8,rfl⟩:=ERow.is hL.row
 have HN8:Hid (n8=o.length):=Lib.hid (by obtain ⟨_,_,e,_⟩:=ERow.slice hL.row;injection e)
 have hn8:n8≤4096:=by rw [HN8.out];exact ho
 obtain ⟨q0,z0⟩:=hL.out.k1
 have hlo:=hL.lo
 have hlob:=hL.lob
 have hloB:=hL.loB
 clear hc ht hL hR hF hM hkn IH hot hd0 hdk
 obtain ⟨xk,xn⟩:=s0
 simp only at a0 a1 HKD
 go_enter Tryz.func64,Tryz.ntmps64
 by_cases hfull:n8=4096
 case pos =>
  subst hfull
  try simp only [Int.cast_ofNat_Int] at *
  go_wp2_with fail
  go_ret
  exact ⟨false,_,o,rfl,Onl.refl _ _ _,HL.out,(fun h=>by cases h),fun _=>by have:=HPOS.out;have:=HN8.out;omega⟩
 have tf1:((n8:Int)==4096)=false:=beq_eq_false_iff_ne.2 (by omega)
 have tf2:¬(n8:Int)=4096:=by omega
 have hol:o.length<4096:=by have:=HN8.out;omega
 by_cases h7:xk=7
 case neg =>
  have t7:((xk:Int) != 7)=true:=by rw [bne_iff_ne];omega
  have t7b:¬(xk:Int)=7:=by omega
  have HBF:Hid (Vl.bldF x kn (k+1) (⟨xk,xn⟩::t)=[⟨xk,0,⟨#[]⟩,0⟩]):=Lib.hid (Vl.bld_plain h7)
  have HRX:Hid (R=[⟨xk,0,⟨#[]⟩,0⟩]):=Lib.hid (HRR.out.symm.trans HBF.out)
  go_upto_region 4 with (fail)
  have HLd:=Lib.hid (HL.out.below ((Below.refl wq.heap.size wq).drew))
  refine wp_region_L_calm (fun w'=>w'.cell? ⟨go,0,none⟩=some (.slice A8 n8 c8)∧w'.cell? ⟨g7,off7,none⟩=some (.int .u8 xk)) [8] (by kernel_rfl) ⟨q0,a0⟩ (fun hHeld=>?_)
  (refine Lst.takeM 8 0 (v:=?_) rfl (by kernel_rfl) (by kernel_rfl) (by kernel_rfl) (by kernel_rfl) (by kernel_rfl) (by kernel_rfl) (fun _ _ _ h=>h) (by assumption) (by rfl) ?_ ?_;rotate_left;· (intro w hSw;((try dsimp only at hSw);obtain ⟨z1,z2⟩:=hSw);go_simp;try with_reducible rfl);try simp only [Act.put,List.setIfInBounds_toArray,List.set_cons_zero,List.set_cons_succ])
  (refine wpAnyL_take0 1 (v:=?_) rfl (by kernel_rfl) (by kernel_rfl) (by kernel_rfl) (by kernel_rfl) (fun _ _ _ h=>h) (fun _=>by assumption) (by rfl) ?_ ?_;rotate_left;· (intro w;go_simp;try with_reducible rfl);try simp only [Act.put,List.setIfInBounds_toArray,List.set_cons_zero,List.set_cons_succ])
  (refine wpAnyL_take0 2 (v:=?_) rfl (by kernel_rfl) (by kernel_rfl) (by kernel_rfl) (by kernel_rfl) (fun _ _ _ h=>h) (fun _=>by assumption) (by rfl) ?_ ?_;rotate_left;· (intro w;go_simp;try with_reducible rfl);try simp only [Act.put,List.setIfInBounds_toArray,List.set_cons_zero,List.set_cons_succ])
  (refine wpAnyL_take0 3 (v:=?_) rfl (by kernel_rfl) (by kernel_rfl) (by kernel_rfl) (by kernel_rfl) (fun _ _ _ h=>h) (fun _=>by assumption) (by rfl) ?_ ?_;rotate_left;· (intro w;go_simp;try with_reducible rfl);try simp only [Act.put,List.setIfInBounds_toArray,List.set_cons_zero,List.set_cons_succ])
  (refine Lst.takeM 8 4 (v:=?_) rfl (by kernel_rfl) (by kernel_rfl) (by kernel_rfl) (by kernel_rfl) (by kernel_rfl) (by kernel_rfl) (fun _ _ _ h=>h) (by assumption) (by rfl) ?_ ?_;rotate_left;· (intro w hSw;((try dsimp only at hSw);obtain ⟨z1,z2⟩:=hSw);go_simp;try with_reducible rfl);try simp only [Act.put,List.setIfInBounds_toArray,List.set_cons_zero,List.set_cons_succ])
  (refine wpAnyL_take0 5 (v:=?_) rfl (by kernel_rfl) (by kernel_rfl) (by kernel_rfl) (by kernel_rfl) (fun _ _ _ h=>h) (fun _=>by assumption) (by rfl) ?_ ?_;rotate_left;· (intro w;go_simp;try with_reducible rfl);try simp only [Act.put,List.setIfInBounds_toArray,List.set_cons_zero,List.set_cons_succ])
  have hb6:Below wq.drew.heap.size wq.drew (wq.drew.alloc (.cells #[.int .u8 xk,.int .i64 0,.string ⟨#[]⟩,.int .i64 0] 71)):=(Below.refl _ _).alloc (Nat.le_refl _) _
  have HL6:=Lib.hid (HLd.out.below hb6)
  have hq6:=Bk.new wq.drew 71 #[.int .u8 xk,.int .i64 0,.string ⟨#[]⟩,.int .i64 0]
  have hs6:(wq.drew.alloc (.cells #[.int .u8 xk,.int .i64 0,.string ⟨#[]⟩,.int .i64 0] 71)).cell? ⟨go,0,none⟩=some (.slice A8 n8 c8)∧(wq.drew.alloc (.cells #[.int .u8 xk,.int .i64 0,.string ⟨#[]⟩,.int .i64 0] 71)).cell? ⟨g7,off7,none⟩=some (.int .u8 xk):=⟨(hb6.cell (by show go<wq.heap.size;omega)).trans q0,(hb6.cell (by show g7<wq.heap.size;omega)).trans a0⟩
  (refine wpAnyL_step 6 (by kernel_rfl) rfl (fun K hK=>?_))
  go_simp
  (refine hK.out _ _ (fun hnn=>hs6) ?_;clear hK K;try simp only [Act.put,List.setIfInBounds_toArray,List.set_cons_zero,List.set_cons_succ])
  have hz6:B≤(wq.drew.alloc (.cells #[.int .u8 xk,.int .i64 0,.string ⟨#[]⟩,.int .i64 0] 71)).heap.size:=HL6.out.loB
  (refine wpAnyL_step 7 (by kernel_rfl) rfl (fun K hK=>?_))
  refine step_append_el rfl _ _ _ rfl B 71 _ 4 40 Tryz.underlying23 Vl.info_node rfl (by decide) Vl.NodE (.slice A8 n8 c8) o rfl HL6.out.row [.int .u8 xk,.int .i64 0,.string ⟨#[]⟩,.int .i64 0] rfl _ rfl hq6 (by simp [Value.oneCell']) (by simp only [maxLen];omega) (by omega) hz6 ?_
  intro A9 n9 c9 X hr7 hb7 ho7
  have hr8:=hr7 ⟨xk,0,⟨#[]⟩,0⟩ (fun _ _ h=>h) rfl
  have hpu:=HL6.out.push hr8 hb7 ho7
  have HO8:=Lib.hid ((Onl.below (((Below.refl wq.heap.size wq).drew).trans hb6)).trans hpu.2)
  have HL8:=Lib.hid hpu.1
  have hq7:=ho7.bk HL6.out.out (by decide)
  have hs7:X.cell? ⟨go,0,none⟩=some (.slice A8 n8 c8)∧X.cell? ⟨g7,off7,none⟩=some (.int .u8 xk):=⟨(hq7.k1).1,(hb7.cell (by show g7<B;omega)).trans hs6.2⟩
  clear hpu hr7 hr8 hb7 ho7 hq6 hb6 HL6
  (refine hK.out _ _ (fun hnn=>hs7) ?_;clear hK K;try simp only [Act.put,List.setIfInBounds_toArray,List.set_cons_zero,List.set_cons_succ])
  obtain ⟨q8,q9⟩:=hq7.k1
  (refine wpAnyL_step 8 (by kernel_rfl) rfl (fun K hK=>?_))
  go_simp
  (refine hK.out _ _ (fun hnn=>absurd hnn (by decide)) ?_;clear hK K;try simp only [Act.put,List.setIfInBounds_toArray,List.set_cons_zero,List.set_cons_succ])
  clear q8 q9
  refine wpAnyL_done (by kernel_rfl) ?_ _
  refine NoPanic.normal ?_
  go_wp2_with fail
  go_ret
  exact ⟨true,_,_,rfl,HO8.out,HL8.out,fun _=>⟨by rw [HRX.out],by rw [List.length_append];simp;omega⟩,(fun h=>by cases h)⟩
 subst h7
 have hk7:t=[]∧(Chk.find x xn).isSome=true:=by rcases HKD.out with h | h | h | h <;> (try simp only at h) <;> first | (exfalso;omega) | exact h.2
 obtain ⟨rfl,hsm⟩:=hk7
 obtain ⟨⟨rn,rc,rf⟩,hfd⟩:=Option.isSome_iff_exists.1 hsm
 obtain ⟨hrm,hrn⟩:=Vl.find_name hfd
 simp only at hrn
 subst hrn
 have hlr:Vl.lastR x.records rn=⟨rn,rc,rf⟩:=by rw [Vl.lastR_find HR.out,hfd];rfl
 have HLR:=Lib.hid hlr
 have HRM:=Lib.hid hrm
 have HFD:=Lib.hid hfd
 have hrz:rn.size≤1000:=(HF.out.re _ hrm).1
 have hrfl:rf.length≤99:=(HF.out.re _ hrm).2.1
 have HFL:=Lib.hid (Vl.fine_flds HR.out HF.out hrm)
 have hd0:kn rn≠0:=HD0.out
 have hdk:kn rn≤k+1:=HDK.out
 clear hsm hlr hrm hfd HKD HD0 HDK
 simp only [Int.cast_ofNat_Int] at a0
 go_upto_region 6 with (fail)
 go_cut [7] (fun u wx=>∃ gr A5 n5 c5,u=.pointer (some ⟨gr,0,none⟩)∧Hid (Below wq.heap.size wq wx)∧wq.heap.size≤gr∧Hid (Bk wx gr 42 #[.string rn,.bool rc,.slice A5 n5 c5])∧Hid (Id.FldsR w0 none (.slice A5 n5 c5) rf))
 case first =>
  have HLd:=Lib.hid (HL.out.below ((Below.refl wq.heap.size wq).drew))
  obtain ⟨f0,-⟩:=HL.out.fnd.k1
  have hfl:=HL.out.fnd.lt
  have f0:wq.cell? ⟨gf,0,none⟩=some (.func (.func 111) #[] #[.pointer (some ⟨g,0,none⟩)]):=f0
  refine wp_region_L_calm (fun w'=>w'.cell? ⟨gf,0,none⟩=some (.func (.func 111) #[] #[.pointer (some ⟨g,0,none⟩)])∧w'.cell? ⟨g7,off7+1,none⟩=some (.string rn)) [7] (by kernel_rfl) ⟨f0,a1⟩ (fun hHeld=>?_)
  (refine Lst.takeM 7 0 (v:=?_) rfl (by kernel_rfl) (by kernel_rfl) (by kernel_rfl) (by kernel_rfl) (by kernel_rfl) (by kernel_rfl) (fun _ _ _ h=>h) (by assumption) (by rfl) ?_ ?_;rotate_left;· (intro w hSw;((try dsimp only at hSw);obtain ⟨z1,z2⟩:=hSw);go_simp;try with_reducible rfl);try simp only [Act.put,List.setIfInBounds_toArray,List.set_cons_zero,List.set_cons_succ])
  (refine wpAnyL_take0 1 (v:=?_) rfl (by kernel_rfl) (by kernel_rfl) (by kernel_rfl) (by kernel_rfl) (fun _ _ _ h=>h) (fun _=>by assumption) (by rfl) ?_ ?_;rotate_left;· (intro w;go_simp;try with_reducible rfl);try simp only [Act.put,List.setIfInBounds_toArray,List.set_cons_zero,List.set_cons_succ])
  (refine wpAnyL_take0 2 (v:=?_) rfl (by kernel_rfl) (by kernel_rfl) (by kernel_rfl) (by kernel_rfl) (fun _ _ _ h=>h) (fun _=>by assumption) (by rfl) ?_ ?_;rotate_left;· (intro w;go_simp;try with_reducible rfl);try simp only [Act.put,List.setIfInBounds_toArray,List.set_cons_zero,List.set_cons_succ])
  (refine wpAnyL_take0 3 (v:=?_) rfl (by kernel_rfl) (by kernel_rfl) (by kernel_rfl) (by kernel_rfl) (fun _ _ _ h=>h) (fun _=>by assumption) (by rfl) ?_ ?_;rotate_left;· (intro w;go_simp;try with_reducible rfl);try simp only [Act.put,List.setIfInBounds_toArray,List.set_cons_zero,List.set_cons_succ])
  (refine Lst.takeM 7 4 (v:=?_) rfl (by kernel_rfl) (by kernel_rfl) (by kernel_rfl) (by kernel_rfl) (by kernel_rfl) (by kernel_rfl) (fun _ _ _ h=>h) (by assumption) (by rfl) ?_ ?_;rotate_left;· (intro w hSw;((try dsimp only at hSw);obtain ⟨z1,z2⟩:=hSw);go_simp;try with_reducible rfl);try simp only [Act.put,List.setIfInBounds_toArray,List.set_cons_zero,List.set_cons_succ])
  have hdr:Below wq.heap.size wq wq.drew:=(Below.refl _ _).drew
  refine Lst.two 5 6 (by kernel_rfl) rfl rfl (fun K hK=>?_) (fun K hK=>?_)
  ·
   go_simp
   have h5:=vfound_any g m x.records rn hrz w0 wq.drew HLd.out.fn
   rw [HLR.out] at h5
   simp only at h5
   refine h5.mono ?_
   rintro e X ⟨A5,n5,c5,rfl,hfs,hb5⟩
   have hbX:Below wq.heap.size wq X:=hdr.trans hb5
   have hsX:X.cell? ⟨gf,0,none⟩=some (.func (.func 111) #[] #[.pointer (some ⟨g,0,none⟩)])∧X.cell? ⟨g7,off7+1,none⟩=some (.string rn):=⟨(hbX.cell hfl).trans f0,(hbX.cell (by show g7<wq.heap.size;omega)).trans a1⟩
   (refine hK.out _ _ (fun hnn=>hsX) ?_;clear hK K;try simp only [Act.put,List.setIfInBounds_toArray,List.set_cons_zero,List.set_cons_succ])
   (refine wpAnyL_step 6 (by kernel_rfl) rfl (fun K hK=>?_))
   go_simp
   have ha:Below X.heap.size X (X.alloc (.cells #[.string ⟨#[]⟩,.bool false,.slice none 0 0] 42)):=(Below.refl _ _).alloc (Nat.le_refl _) _
   have hq:=Bk.new X 42 #[.string ⟨#[]⟩,.bool false,.slice none 0 0]
   (refine hK.out _ _ (fun hnn=>(⟨(ha.cell (Nat.lt_of_lt_of_le hfl hbX.size)).trans hsX.1,(ha.cell (by show g7<X.heap.size;have:=hbX.size;omega)).trans hsX.2⟩)) ?_;clear hK K;try simp only [Act.put,List.setIfInBounds_toArray,List.set_cons_zero,List.set_cons_succ])
   obtain ⟨⟨z1,z2,z3⟩,zf1,zf2,zf3⟩:=hq.k3
   (refine wpAnyL_step 7 (by kernel_rfl) rfl (fun K hK=>?_))
   go_simp
   (refine hK.out _ _ (fun hnn=>absurd hnn (by decide)) ?_;clear hK K;try simp only [Act.put,List.setIfInBounds_toArray,List.set_cons_zero,List.set_cons_succ])
   clear z1 z2 z3 zf1 zf2 zf3
   refine wpAnyL_done (by kernel_rfl) ?_ _
   refine NoPanic.normal ?_
   have hbF:Below wq.heap.size wq (X.alloc (.cells #[.string rn,.bool rc,.slice A5 n5 c5] 42)):=hbX.trans (((Below.refl _ _).alloc (Nat.le_refl _) _).mono hbX.size)
   have hqF:=Bk.new X 42 #[.string rn,.bool rc,.slice A5 n5 c5]
   go_wp2_with fail
   go_meet
   case rel=>exact ⟨_,A5,n5,c5,rfl,Lib.hid hbF,hbX.size,Lib.hid hqF,Lib.hid hfs⟩
  ·
   go_simp
   have ha:Below wq.heap.size wq (wq.drew.alloc (.cells #[.string ⟨#[]⟩,.bool false,.slice none 0 0] 42)):=hdr.alloc (Nat.le_refl _) _
   have hq:Bk (wq.drew.alloc (.cells #[.string ⟨#[]⟩,.bool false,.slice none 0 0] 42)) wq.heap.size 42 #[.string ⟨#[]⟩,.bool false,.slice none 0 0]:=Bk.new wq.drew 42 #[.string ⟨#[]⟩,.bool false,.slice none 0 0]
   have hs1:(wq.drew.alloc (.cells #[.string ⟨#[]⟩,.bool false,.slice none 0 0] 42)).cell? ⟨gf,0,none⟩=some (.func (.func 111) #[] #[.pointer (some ⟨g,0,none⟩)])∧(wq.drew.alloc (.cells #[.string ⟨#[]⟩,.bool false,.slice none 0 0] 42)).cell? ⟨g7,off7+1,none⟩=some (.string rn):=⟨(ha.cell hfl).trans f0,(ha.cell (by show g7<wq.heap.size;omega)).trans a1⟩
   have HL1:=Lib.hid (HL.out.below ha)
   (refine hK.out _ _ (fun hnn=>hs1) ?_;clear hK K;try simp only [Act.put,List.setIfInBounds_toArray,List.set_cons_zero,List.set_cons_succ])
   (refine wpAnyL_step 5 (by kernel_rfl) rfl (fun K hK=>?_))
   go_simp
   have h5:=vfound_any g m x.records rn hrz w0 (wq.alloc (.cells #[.string ⟨#[]⟩,.bool false,.slice none 0 0] 42)).drew HL1.out.fn
   rw [HLR.out] at h5
   simp only at h5
   refine h5.mono ?_
   rintro e X ⟨A5,n5,c5,rfl,hfs,hb5⟩
   have hbX:Below wq.heap.size wq X:=ha.trans (hb5.mono ha.size)
   have hqX:=hq.below hb5 hq.lt
   have hsX:X.cell? ⟨gf,0,none⟩=some (.func (.func 111) #[] #[.pointer (some ⟨g,0,none⟩)])∧X.cell? ⟨g7,off7+1,none⟩=some (.string rn):=⟨(hbX.cell hfl).trans f0,(hbX.cell (by show g7<wq.heap.size;omega)).trans a1⟩
   (refine hK.out _ _ (fun hnn=>hsX) ?_;clear hK K;try simp only [Act.put,List.setIfInBounds_toArray,List.set_cons_zero,List.set_cons_succ])
   obtain ⟨⟨z1,z2,z3⟩,zf1,zf2,zf3⟩:=hqX.k3
   (refine wpAnyL_step 7 (by kernel_rfl) rfl (fun K hK=>?_))
   go_simp
   (refine hK.out _ _ (fun hnn=>absurd hnn (by decide)) ?_;clear hK K;try simp only [Act.put,List.setIfInBounds_toArray,List.set_cons_zero,List.set_cons_succ])
   clear z1 z2 z3 zf1 zf2 zf3
   refine wpAnyL_done (by kernel_rfl) ?_ _
   refine NoPanic.normal ?_
   have hqF:Bk (((X.setCell ⟨wq.heap.size,0,none⟩ (.string rn)).setCell ⟨wq.heap.size,1,none⟩ (.bool rc)).setCell ⟨wq.heap.size,2,none⟩ (.slice A5 n5 c5)) wq.heap.size 42 #[.string rn,.bool rc,.slice A5 n5 c5]:=(((hqX.set_ 0 (.string rn)).set_ 1 (.bool rc)).set_ 2 (.slice A5 n5 c5))
   have hbF:Below wq.heap.size wq (((X.setCell ⟨wq.heap.size,0,none⟩ (.string rn)).setCell ⟨wq.heap.size,1,none⟩ (.bool rc)).setCell ⟨wq.heap.size,2,none⟩ (.slice A5 n5 c5)):=((hbX.setCell (p:=⟨wq.heap.size,0,none⟩) (Nat.le_refl _) _).setCell (p:=⟨wq.heap.size,1,none⟩) (Nat.le_refl _) _).setCell (p:=⟨wq.heap.size,2,none⟩) (Nat.le_refl _) _
   go_wp2_with fail
   go_meet
   case rel=>exact ⟨_,A5,n5,c5,rfl,Lib.hid hbF,Nat.le_refl _,Lib.hid hqF,Lib.hid hfs⟩
 case rest =>
  obtain ⟨gr,A5,n5,c5,rfl,HBR,hgr,HQR,HFS⟩:=hcut
  obtain ⟨U,rfl⟩:∃ wo,wo=wc:=⟨_,rfl⟩
  have HLU:=Lib.hid (HL.out.below HBR.out)
  have HOU:Hid (Onl 71 23 wq U):=Lib.hid (Onl.below HBR.out)
  have HN5:Hid (n5=rf.length):=Lib.hid (by obtain ⟨_,_,e,_⟩:=ERow.slice HFS.out;injection e)
  clear a0 a1 q0 z0 HL HBR
  obtain ⟨⟨r0,r1,r2⟩,-⟩:=HQR.out.k3
  have HFU:Hid (Id.FldsR U none (.slice A5 n5 c5) rf):=Lib.hid (ERow.below HFS.out HLU.out.bel (Id.FldE.below HLU.out.bel))
  cases rc
  case true =>
   have HLS:=Lib.hid (HM.out.lst HFD.out hd0)
   have HWY:=Lib.hid (HM.out.way HFD.out hd0 rfl)
   obtain ⟨k0,-⟩:=HLU.out.known.k1
   go_wp2_with fail
   refine (vlst_any mb p kn HKN.out rn true A5 n5 c5 rf HFL.out _ HLU.out.km HFU.out).mono ?_
   rw [show Vl.lstD kn ⟨rn,true,rf⟩=(kn rn,true) from Prod.ext HLS.out.2 HLS.out.1]
   rintro e W1 ⟨rfl,hb1⟩
   simp only
   have HL1:=Lib.hid (HLU.out.below hb1)
   have HQ1:=Lib.hid (HQR.out.below hb1 HQR.out.lt)
   clear r0 r1 r2 k0
   go_upto_region 9 with (fail)
   refine wp_named (fun V hV=>?_)
   obtain ⟨hb2,hq2,-⟩:=fresh_box hV
   clear hV
   have HL2:=Lib.hid (HL1.out.below hb2)
   have HQ2:=Lib.hid (HQ1.out.below hb2 HQ1.out.lt)
   have HD2:=Lib.hid hq2
   have HO2:Hid (Onl 71 23 wq V):=Lib.hid (HOU.out.trans (Onl.below (hb1.trans (hb2.mono hb1.size))))
   clear hb1 hb2 hq2 HL1 HQ1
   obtain ⟨⟨r0,r1,r2⟩,-⟩:=HQ2.out.k3
   have hk1:=HKN.out rn
   go_wp2_with fail
   refine (vindexf_any gk W1.heap.size mb p (kn rn) kn A5 n5 c5 rn true rf HFL.out V (by omega) hk1 HKN.out HL2.out.known HD2.out HL2.out.km (ERow.below HFS.out HL2.out.bel (Id.FldE.below HL2.out.bel)) HWY.out.1).mono ?_
   have hJ0:=HWY.out.1
   have hAT:=Vl.way_at hJ0
   have hBC:=Vl.bld_choice (s:=x) (kn:=kn) (k:=k) (x:=⟨7,rn⟩) (t:=[]) rfl HFD.out rfl hJ0
   obtain ⟨J,HJ⟩:∃ J,Hid (Vl.way kn ⟨rn,true,rf⟩ (kn rn - 1)=J):=⟨_,Lib.hid rfl⟩
   simp only [HJ.out] at hJ0 hAT hBC
   rw [HJ.out]
   have HBC:=Lib.hid hBC
   have HAT:=Lib.hid hAT
   rintro e W3 ⟨rfl,hb3⟩
   have HL3:=Lib.hid (HL2.out.below hb3)
   have HQ3:=Lib.hid (HQ2.out.below hb3 HQ2.out.lt)
   have HO3:Hid (Onl 71 23 wq W3):=Lib.hid (HO2.out.trans (Onl.below hb3))
   clear r0 r1 r2 hb3 HL2 HQ2 HO2 hBC hAT
   obtain ⟨q0,z0⟩:=HL3.out.out.k1
   have hB3:=HL3.out.loB
   go_upto_region 11 with (at_builtin;go_must (refine wpList_append_el rfl _ _ _ rfl B 71 _ 4 40 Tryz.underlying23 Vl.info_node rfl (by decide) Vl.NodE (.slice A8 n8 c8) o rfl HL3.out.row [.int .u8 8,.int .i64 J,.string ⟨#[]⟩,.int .i64 1] rfl _ rfl (by first | rfl | simp) (by simp [Value.oneCell']) (by simp only [maxLen];omega) (by omega) hB3 ?_);intro v9 X hr9 hb9 ho9;have hrw:=hr9 ⟨8,J,⟨#[]⟩,1⟩ (fun _ _ h=>h) rfl;obtain ⟨A9,n9,c9,rfl⟩:=ERow.is hrw;have HP9:=Lib.hid (HL3.out.push hrw hb9 ho9);clear hrw;clear q0 z0;obtain ⟨q0,z0⟩:=(ho9.bk HL3.out.out (by decide)).k1;clear hr9 hb9 ho9)
   clear q0 z0
   have HL9:=Lib.hid HP9.out.1
   have HO9:=Lib.hid (HO3.out.trans HP9.out.2)
   have HQ9:=Lib.hid (HP9.out.2.bk HQ3.out (by decide) (by decide))
   clear HP9 HL3 HO3 HQ3
   generalize X.setCell ⟨go,0,none⟩ (.slice A9 n9 c9)=Y at *
   obtain ⟨g5,off5,cs5,rfl,-,⟨u5,he5,HU5⟩,hc5⟩:=ERow.get HFS.out hJ0 (by omega)
   have hfm:=List.getElem_mem hJ0
   obtain ⟨r5,Hr5⟩:∃ r,Hid (rf[J]=r):=⟨_,Lib.hid rfl⟩
   rw [Hr5.out] at he5 HU5 hfm
   have hAT5:=HAT.out
   have hBC5:=HBC.out
   rw [Hr5.out] at hAT5 hBC5
   obtain ⟨yn,yt⟩:=r5
   subst he5
   simp only at HU5 hAT5 hBC5
   obtain ⟨A6,n6,c6,rfl⟩:=ERow.is HU5
   have b1:=hc5 1 _ rfl
   have hg5:g5<w0.heap.size:=World.block_lt_of_cell? w0 _ b1
   have b1:=(HL9.out.bel.cell hg5).trans b1
   have HU6:=Lib.hid HU5
   have HBC5:=Lib.hid hBC5
   have hot5:=(Vl.right_okT (Vl.field_right HR.out HRM.out hfm)).1
   have hdd:Vl.dpt kn yt≠0:=by rw [hAT5];have:=HWY.out.2;omega
   have hdk5:Vl.dpt kn yt≤k:=by rw [hAT5];omega
   have HIC:=Lib.hid (HIH.out (.slice A6 n6 c6) yt (.slice A9 n9 c9) (o++[⟨8,J,⟨#[]⟩,1⟩]) Y.drew (HL9.out.below ((Below.refl _ _).drew)) HU6.out hot5 hdd hdk5 (by rw [List.length_append];simp;omega))
   clear hc5 HU5 hAT5 hBC5 hfm hot5 hdd hdk5 HAT HBC
   obtain ⟨c0,-⟩:=HL9.out.bld.k1
   have c0:Y.cell? ⟨gb,0,none⟩=some (.func (.func 64) #[] #[.pointer (some ⟨go,0,none⟩),.pointer (some ⟨gf,0,none⟩),.pointer (some ⟨gk,0,none⟩),.pointer (some ⟨gb,0,none⟩)]):=c0
   obtain ⟨⟨r0,r1,r2⟩,-⟩:=HQ9.out.k3
   have iJ0:(0:Int)≤(J:Int):=by omega
   have iJ1:(J:Int)<(n5:Int):=by rw [HN5.out];omega
   refine wp_region_L_calm (fun w'=>w'.cell? ⟨gb,0,none⟩=some (.func (.func 64) #[] #[.pointer (some ⟨go,0,none⟩),.pointer (some ⟨gf,0,none⟩),.pointer (some ⟨gk,0,none⟩),.pointer (some ⟨gb,0,none⟩)])∧w'.cell? ⟨gr,2,none⟩=some (.slice (some ⟨g5,off5,none⟩) n5 c5)∧w'.cell? ⟨g5,off5+J * 2+1,none⟩=some (.slice A6 n6 c6)) [7] (by kernel_rfl) ⟨c0,r2,b1⟩ (fun hHeld=>?_)
   (refine Lst.takeM 7 0 (v:=?_) rfl (by kernel_rfl) (by kernel_rfl) (by kernel_rfl) (by kernel_rfl) (by kernel_rfl) (by kernel_rfl) (fun _ _ _ h=>h) (by assumption) (by rfl) ?_ ?_;rotate_left;· (intro w hSw;((try dsimp only at hSw);obtain ⟨z1,z2,z3⟩:=hSw);go_simp;try with_reducible rfl);try simp only [Act.put,List.setIfInBounds_toArray,List.set_cons_zero,List.set_cons_succ])
   (refine wpAnyL_take0 1 (v:=?_) rfl (by kernel_rfl) (by kernel_rfl) (by kernel_rfl) (by kernel_rfl) (fun _ _ _ h=>h) (fun _=>by assumption) (by rfl) ?_ ?_;rotate_left;· (intro w;go_simp;try with_reducible rfl);try simp only [Act.put,List.setIfInBounds_toArray,List.set_cons_zero,List.set_cons_succ])
   (refine Lst.takeM 7 2 (v:=?_) rfl (by kernel_rfl) (by kernel_rfl) (by kernel_rfl) (by kernel_rfl) (by kernel_rfl) (by kernel_rfl) (fun _ _ _ h=>h) (by assumption) (by rfl) ?_ ?_;rotate_left;· (intro w hSw;((try dsimp only at hSw);obtain ⟨z1,z2,z3⟩:=hSw);go_simp;try with_reducible rfl);try simp only [Act.put,List.setIfInBounds_toArray,List.set_cons_zero,List.set_cons_succ])
   (refine wpAnyL_take0 3 (v:=?_) rfl (by kernel_rfl) (by kernel_rfl) (by kernel_rfl) (by kernel_rfl) (fun _ _ _ h=>h) (fun _=>by assumption) (by rfl) ?_ ?_;rotate_left;· (intro w;go_simp;try with_reducible rfl);try simp only [Act.put,List.setIfInBounds_toArray,List.set_cons_zero,List.set_cons_succ])
   (refine wpAnyL_take0 4 (v:=?_) rfl (by kernel_rfl) (by kernel_rfl) (by kernel_rfl) (by kernel_rfl) (fun _ _ _ h=>h) (fun _=>by assumption) (by rfl) ?_ ?_;rotate_left;· (intro w;go_simp;try with_reducible rfl);try simp only [Act.put,List.setIfInBounds_toArray,List.set_cons_zero,List.set_cons_succ])
   (refine wpAnyL_take0 5 (v:=?_) rfl (by kernel_rfl) (by kernel_rfl) (by kernel_rfl) (by kernel_rfl) (fun _ _ _ h=>h) (fun _=>by assumption) (by rfl) ?_ ?_;rotate_left;· (intro w;go_simp;try with_reducible rfl);try simp only [Act.put,List.setIfInBounds_toArray,List.set_cons_zero,List.set_cons_succ])
   (refine Lst.takeM 7 6 (v:=?_) rfl (by kernel_rfl) (by kernel_rfl) (by kernel_rfl) (by kernel_rfl) (by kernel_rfl) (by kernel_rfl) (fun _ _ _ h=>h) (by assumption) (by rfl) ?_ ?_;rotate_left;· (intro w hSw;((try dsimp only at hSw);obtain ⟨z1,z2,z3⟩:=hSw);go_simp;try with_reducible rfl);try simp only [Act.put,List.setIfInBounds_toArray,List.set_cons_zero,List.set_cons_succ])
   (refine wpAnyL_step 7 (by kernel_rfl) rfl (fun K hK=>?_))
   go_simp
   refine HIC.out.mono ?_
   rintro e W5 ⟨b,v',o',rfl,hon,hlb,ht1,ht2⟩
   have HLF:=Lib.hid hlb
   have HOF:=Lib.hid (HO9.out.trans ((Onl.below ((Below.refl _ _).drew)).trans hon))
   have HT1:=Lib.hid ht1
   have HT2:=Lib.hid ht2
   clear hon hlb ht1 ht2
   (refine hK.out _ _ (fun hnn=>absurd hnn (by decide)) ?_;clear hK K;try simp only [Act.put,List.setIfInBounds_toArray,List.set_cons_zero,List.set_cons_succ])
   (refine wpAnyL_step 8 (by kernel_rfl) rfl (fun K hK=>?_))
   go_simp
   (refine hK.out _ _ (fun hnn=>absurd hnn (by decide)) ?_;clear hK K;try simp only [Act.put,List.setIfInBounds_toArray,List.set_cons_zero,List.set_cons_succ])
   refine wpAnyL_done (by kernel_rfl) ?_ _
   refine NoPanic.normal ?_
   go_wp2_with fail
   go_ret
   refine ⟨b,v',o',rfl,HOF.out,HLF.out,fun hb=>?_,fun hb=>?_⟩
   ·obtain ⟨h1,h2⟩:=HT1.out hb
    exact ⟨by rw [h1,←HRR.out,HBC5.out,List.append_assoc];rfl,h2⟩
   ·have h1:=HT2.out hb
    rw [List.length_append] at h1
    rw [←HRR.out,HBC5.out]
    simp only [List.length_cons,List.length_nil] at h1 ⊢
    omega
  case false =>
   obtain rfl:n5=rf.length:=HN5.out
   have HRL:=Lib.hid (HM.out.rec_le HFD.out hd0 rfl)
   have HBR:Hid (Vl.bldF x kn (k+1) [⟨7,rn⟩]=⟨7,0,⟨#[]⟩,rf.length⟩::Vl.bldL x kn k rf):=Lib.hid (Vl.bld_record (x:=⟨7,rn⟩) rfl HFD.out rfl)
   have HRX:Hid (R=⟨7,0,⟨#[]⟩,rf.length⟩::Vl.bldL x kn k rf):=Lib.hid (HRR.out.symm.trans HBR.out)
   obtain ⟨q0,z0⟩:=HLU.out.out.k1
   have hBU:=HLU.out.loB
   go_upto_region 13 with (at_builtin;go_must (refine wpList_append_el rfl _ _ _ rfl B 71 _ 4 40 Tryz.underlying23 Vl.info_node rfl (by decide) Vl.NodE (.slice A8 n8 c8) o rfl HLU.out.row [.int .u8 7,.int .i64 0,.string ⟨#[]⟩,.int .i64 rf.length] rfl _ rfl (by first | rfl | simp) (by simp [Value.oneCell']) (by simp only [maxLen];omega) (by omega) hBU ?_);intro v9 X hr9 hb9 ho9;have hrw:=hr9 ⟨7,0,⟨#[]⟩,rf.length⟩ (fun _ _ h=>h) rfl;obtain ⟨A9,n9,c9,rfl⟩:=ERow.is hrw;have HP9:=Lib.hid (HLU.out.push hrw hb9 ho9);clear hrw;clear q0 z0;obtain ⟨q0,z0⟩:=(ho9.bk HLU.out.out (by decide)).k1;clear hr9 hb9 ho9)
   clear q0 z0 r0 r1 r2
   have HL9:=Lib.hid HP9.out.1
   have HO9:=Lib.hid (HOU.out.trans HP9.out.2)
   have HQ9:=Lib.hid (HP9.out.2.bk HQR.out (by decide) (by decide))
   clear HP9 HLU HOU HQR
   generalize X.setCell ⟨go,0,none⟩ (.slice A9 n9 c9)=Y at *
   obtain ⟨⟨r0,r1,r2⟩,-⟩:=HQ9.out.k3
   go_wp2_with fail
   clear r0 r1 r2
   go_loopw [70] (fun i wx=>∃ (j:Nat) (v':Value) (o':List Vl.Node),j≤rf.length∧i=.int .i64 j∧o'.length≤4096∧Hid (o'=o++(⟨7,0,⟨#[]⟩,rf.length⟩::Vl.bldL x kn k (rf.take j)))∧Hid (Vl.Lb x kn w0 wx go gf gk gb g m mb p B v' o')∧Hid (Onl 71 23 wq wx)) (fun i _=>rf.length - (intOf i).toNat)
   case atStart=>exact ⟨0,.slice A9 n9 c9,_,by omega,rfl,by rw [List.length_append];simp;omega,Lib.hid (by simp [Vl.bldL]),HL9,HO9⟩
   case round =>
    obtain ⟨j,v',o',hj,rfl,ho',HOO,HLJ,HOJ⟩:=hrel
    obtain ⟨W,rfl⟩:∃ w',w'=wr:=⟨_,rfl⟩
    have ij0:(0:Int)≤(j:Int):=by omega
    by_cases hlt:j<rf.length
    case neg =>
     have HXX:Hid (o'=o++(⟨7,0,⟨#[]⟩,rf.length⟩::Vl.bldL x kn k rf)):=Lib.hid (by rw [HOO.out,List.take_of_length_le (by omega)])
     go_wp2_with fail
     go_ret
     exact ⟨true,v',o',rfl,HOJ.out,HLJ.out,fun _=>⟨by rw [HRX.out];exact HXX.out,ho'⟩,fun h=>by cases h⟩
    have ij1:(j:Int)<(rf.length:Int):=by omega
    obtain ⟨g5,off5,cs5,hA5,-,⟨u5,he5,HU5⟩,hc5⟩:=ERow.get HFS.out hlt (by omega)
    have hfm:=List.getElem_mem hlt
    have hrl:=HRL.out _ hfm
    obtain ⟨r5,Hr5⟩:∃ r,Hid (rf[j]=r):=⟨_,Lib.hid rfl⟩
    have hNX:Vl.bldL x kn k (rf.take (j+1))=Vl.bldL x kn k (rf.take j)++Vl.bldF x kn k (rf[j]).type:=by
     rw [List.take_succ_eq_append_getElem hlt]
     unfold Vl.bldL
     rw [List.flatMap_append]
     simp
    have hLE:(Vl.bldL x kn k (rf.take (j+1))).length≤(Vl.bldL x kn k rf).length:=by
     conv=>rhs;rw [←List.take_append_drop (j+1) rf]
     unfold Vl.bldL
     rw [List.flatMap_append,List.length_append]
     omega
    rw [Hr5.out] at he5 HU5 hfm hrl hNX
    obtain ⟨yn,yt⟩:=r5
    subst he5
    simp only at HU5 hrl hNX
    obtain ⟨A6,n6,c6,rfl⟩:=ERow.is HU5
    have b0:=hc5 0 _ rfl
    have b1:=hc5 1 _ rfl
    simp only [Nat.add_zero] at b0
    have hg5:g5<w0.heap.size:=World.block_lt_of_cell? w0 _ b1
    have b0:=(HLJ.out.bel.cell hg5).trans b0
    have b1:=(HLJ.out.bel.cell hg5).trans b1
    have HU6:=Lib.hid HU5
    have HNX:=Lib.hid hNX
    have hot5:=(Vl.right_okT (Vl.field_right HR.out HRM.out hfm)).1
    have HOT:=Lib.hid hot5
    have hdd:=hrl.1
    have hdk5:Vl.dpt kn yt≤k:=by omega
    subst hA5
    clear hc5 HU5 hfm hrl hNX hot5 Hr5
    go_upto_region 16 with (fail)
    refine wp_named (fun V hV=>?_)
    obtain ⟨hb,hq,-⟩:=fresh_box hV
    clear hV
    have HL2:=Lib.hid (HLJ.out.below hb)
    have HO2:=Lib.hid (HOJ.out.trans (Onl.below hb))
    obtain ⟨⟨y0,y1⟩,-⟩:=hq.k2
    have c0:V.cell? ⟨gb,0,none⟩=some (.func (.func 64) #[] #[.pointer (some ⟨go,0,none⟩),.pointer (some ⟨gf,0,none⟩),.pointer (some ⟨gk,0,none⟩),.pointer (some ⟨gb,0,none⟩)]):=(HL2.out.bld.k1).1
    have HIC:=Lib.hid (HIH.out (.slice A6 n6 c6) yt v' o' V HL2.out HU6.out HOT.out hdd hdk5 ho')
    clear hb hq b0 b1 hdd hdk5
    go_wp2_with fail
    refine HIC.out.mono ?_
    rintro e W5 ⟨b,v5,o5,rfl,hon,hlb,ht1,ht2⟩
    have HLF:=Lib.hid hlb
    have HOF:=Lib.hid (HO2.out.trans hon)
    have HT1:=Lib.hid ht1
    have HT2:=Lib.hid ht2
    clear hon hlb ht1 ht2 y0 y1 c0
    cases b
    case false =>
     go_wp2_with fail
     go_ret
     refine ⟨false,v5,o5,rfl,HOF.out,HLF.out,(fun h=>by cases h),fun _=>?_⟩
     have h1:=HT2.out (by first | rfl | trivial)
     have h2:=HOO.out
     have h3:=HNX.out
     rw [h3,List.length_append] at hLE
     rw [h2,List.length_append] at h1
     rw [HRX.out]
     simp only [List.length_cons] at h1 ⊢
     omega
    have h1:=HT1.out (by first | rfl | trivial)
    have HOO2:Hid (o5=o++(⟨7,0,⟨#[]⟩,rf.length⟩::Vl.bldL x kn k (rf.take (j+1)))):=Lib.hid (by rw [h1.1,HOO.out,HNX.out];simp)
    have ho5:=h1.2
    clear h1
    go_wp2_with fail
    go_roundw
    case rel=>exact ⟨j+1,v5,o5,by omega,by go_num,ho5,HOO2,HLF,HOF⟩
    case measure=>simp [intOf];omega
theorem vbld_any (x:Id.Sch) (kn:Vl.Kn) (hR:Chk.Right x) (hF:Chk.Fine x) (hM:Vl.Min x kn) (hkn:∀ n,kn n≤100000) (w0:World) (go gf gk gb g m mb p B:Nat):∀ k,Vl.BldC x kn w0 go gf gk gb g m mb p B k
 | 0=>fun tv t v o wr _ _ _ h0 hk _=>absurd (Nat.le_zero.1 hk) h0
 | k+1=>vbld_step x kn hR hF hM hkn w0 go gf gk gb g m mb p B k (vbld_any x kn hR hF hM hkn w0 go gf gk gb g m mb p B k)
end Go.Proofs.YtjfdohhdkdjifaaGreatDoor
