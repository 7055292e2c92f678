/- value's cursor: many, named, and the functions that hand out types (printed by gen_valg.py). No condition but the ones the theorems state. -/
import Derived.Test.YtjfdohhdkdjifaaGreatDoorPE18
import Derived.Test.YtjfdohhdkdjifaaGreatDoorPE00
set_option linter.unusedVariables false
set_option linter.unusedSimpArgs false
namespace Go.Proofs.YtjfdohhdkdjifaaGreatDoor
open Go.RowKit Go.BigFrame
namespace Vl
open Go.Proofs.YtjfdohhdkdjifaaGreatDoor.Id Go.Proofs.YtjfdohhdkdjifaaGreatDoor.Chk
def OfC (s:Sch) (v:List Node) (vs:Value) (w0:World) (b g m k:Nat):Prop:=∀ (tv:Value) (t:List Srt) (a:Nat) (w:World),okT s t=true→t.length≤12→a≤v.length→v.length - a<k→Env s w0 w b g m→Cur w b vs a (fndV g)→SortsR w0 none tv t →
 Calls Tryz.prog 55 #[.pointer (some ⟨b,0,none⟩),tv] w (OfP w b vs (fndV g) v (ofF s none k t (v.drop a)))
/-- A function that hands out types. -/
def TypC (w0 w:World) (b fid:Nat) (bs:Array Value) (ks:List (List Srt)):Prop:=∀ (i:Nat) (h:i<ks.length) (w':World),w.grownBy w' (some b) →
 Calls Tryz.prog fid (#[.int .i64 i]++bs) w' fun e w''=>∃ tv,e=.returned tv∧Below w'.heap.size w' w''∧SortsR w0 none tv ks[i]
theorem deep_up (d:Nat) (r:List Node):deep (up (some (d,r)))=d+1:=rfl
/-- A row without its first element. -/
theorem _root_.Go.Proofs.YtjfdohhdkdjifaaGreatDoor.ERow.tail {α:Type} {w:World} {t:TypeId} {size n c g off:Nat} {E:World→List Value→α→Prop} {x:α} {l:List α} (h:ERow w none t size E (.slice (some ⟨g,off,none⟩) n c) (x::l)):ERow w none t size E (.slice (some ⟨g,off+size,none⟩) (n - 1) (c - 1)) l:=by
 obtain ⟨css,h1,h2,h3,h4⟩:=h
 cases css with
 | nil=>simp at h1
 | cons c0 css =>
  obtain ⟨hl,A,c',e,h5,h6,h7,h8⟩:=h3
  injection e with e1 e2 e3
  subst e1 e2 e3
  simp only [List.length_cons] at h1 h5 h6 hl
  have hc0:c0.length=size:=h2 c0 (by simp)
  refine ⟨css,by omega,fun cs hcs=>h2 cs (by simp [hcs]),⟨by rw [flatten_len (fun cs hcs=>h2 cs (by simp [hcs]))];congr 1;omega,_,_,by rw [List.length_cons,Nat.add_sub_cancel],by omega,by omega,(fun e=>by cases e),?_⟩,fun i a b=>?_⟩
  ·intro h0
   obtain ⟨g',off',e,hc⟩:=h8 (by simp only [List.flatten_cons,List.length_append];omega)
   injection e with e
   injection e with e1 e2
   subst e1 e2
   refine ⟨_,_,rfl,fun j u hu=>?_⟩
   have:=hc (size+j) u (by rw [List.flatten_cons,List.getElem?_append_right (by omega),hc0,Nat.add_sub_cancel_left];exact hu)
   rw [←Nat.add_assoc] at this
   exact this
  ·exact h4 (i+1) (by simpa using a) (by simpa using b)
end Vl
set_option maxRecDepth 100000 in
set_option maxHeartbeats 16000000 in
theorem vmany_any (s:Id.Sch) (v:List Vl.Node) (vs:Value) (w0:World) (b g m k:Nat) (hl:v.length≤100000) (ih:Vl.OfC s v vs w0 b g m k) (ks:List (List Id.Srt)) (hks:∀ t∈ks,Chk.okT s t=true∧t.length≤12) (n:Nat) (hn:n=ks.length) (hkl:n≤100000)
  (a:Nat) (ha:a≤v.length) (hlen:v.length - a<k) (fid:Nat) (hent:∀ (args:Array Value) (w:World),(callFunc fid args).run Tryz.prog w=.ok (.enter fid args) w) (bs:Array Value) (w:World) (hE:Vl.Env s w0 w b g m) (hC:Vl.Cur w b vs a (Vl.fndV g)) (hT:Vl.TypC w0 w b fid bs ks) :
  Calls Tryz.prog 115 #[.pointer (some ⟨b,0,none⟩),.int .i64 n,.func (.func fid) #[] bs] w (Vl.OfP w b vs (Vl.fndV g) v (Vl.up (Vl.manyF (Vl.ofF s none k) ks 0 (v.drop a)))):=by
 obtain ⟨R,HR⟩:∃ R,Hid (Vl.manyF (Vl.ofF s none k) ks 0 (v.drop a)=R):=⟨_,Lib.hid rfl⟩
 rw [HR.out]
 have HN:=Lib.hid hn
 have HIH:=Lib.hid ih
 have HK:=Lib.hid hks
 have HE:=Lib.hid hE
 have HC:=Lib.hid hC
 have HT:=Lib.hid hT
 clear hn ih hks hE hC hT
 go_enter Tryz.func115,Tryz.ntmps115
 go_wp2_with fail
 go_loopw [7,8,9,11] (fun d _ _ i wr=>∃ (j D a1:Nat),j≤n∧i=.int .i64 j∧d=.int .i64 D∧D≤100000∧a≤a1∧a1≤v.length∧Hid (w.grownBy wr (some b))∧Hid (Vl.Cur wr b vs a1 (Vl.fndV g))∧Hid (Vl.manyF (Vl.ofF s none k) (ks.drop j) D (v.drop a1)=R)) (fun _ _ _ i _=>n - (intOf i).toNat)
 case atStart=>exact ⟨0,0,a,by omega,rfl,rfl,by omega,Nat.le_refl _,ha,Lib.hid (gb_refl w _),HC,HR⟩
 case round =>
  obtain ⟨j,D,a1,hj,rfl,rfl,hD,ha1,ha2,HG,HC1,HQ⟩:=hrel
  obtain ⟨W,rfl⟩:∃ w',w'=wr:=⟨_,rfl⟩
  by_cases hlt:j<n
  case neg =>
   have HX:Hid (R=some (D,v.drop a1)):=Lib.hid (by rw [←HQ.out,List.drop_of_length_le (by rw [←HN.out];omega)];rfl)
   go_wp2_with fail
   go_ret
   refine ⟨a1,?_,HG.out,HC1.out,ha2,fun p hp=>?_⟩
   ·rw [HX.out,Vl.deep_up]
    try rfl
   ·rw [HX.out] at hp;injection hp with hp;rw [←hp]
  have hjk:j<ks.length:=by rw [←HN.out];exact hlt
  have hd:=HQ.out
  rw [List.drop_eq_getElem_cons hjk] at hd
  have HKJ:=Lib.hid (HK.out _ (List.getElem_mem hjk))
  have HTJ:=Lib.hid (HT.out j hjk W HG.out)
  have hEW:=HE.out.grown HG.out
  have HEW:=Lib.hid hEW
  have hbl:=hEW.lt
  clear hEW
  go_wp2_with fail
  refine HTJ.out.mono ?_
  rintro e W1 ⟨tv,rfl,hb1,hs1⟩
  have HB1:=Lib.hid hb1
  have HS1:=Lib.hid hs1
  clear hb1 hs1
  go_wp2_with fail
  refine (HIH.out tv ks[j] a1 W1 HKJ.out.1 HKJ.out.2 ha2 (by omega) (HEW.out.below HB1.out) (HC1.out.below HB1.out) HS1.out).mono ?_
  rintro e W2 ⟨a2,rfl,hg2,hc2,ha3,hp2⟩
  have HG2:Hid (w.grownBy W2 (some b)):=Lib.hid (Vl.gb_trans HG.out (Vl.gb_trans (gb_below HB1.out _) hg2))
  have HC2:=Lib.hid hc2
  clear hg2 hc2
  cases hq:Vl.ofF s none k ks[j] (v.drop a1) with
  | none =>
   have HX:Hid (R=none):=Lib.hid (by rw [←hd];unfold Vl.manyF;rw [hq])
   clear hd hp2
   have e0:Vl.deep (none:Option (Nat × List Vl.Node))=0:=rfl
   rw [e0]
   try simp only [Int.cast_ofNat_Int]
   go_wp2_with fail
   go_ret
   exact ⟨a2,by rw [HX.out];rfl,HG2.out,HC2.out,ha3,fun p hp=>by rw [HX.out] at hp;cases hp⟩
  | some p =>
   obtain ⟨e,r⟩:=p
   have hr:r=v.drop a2:=hp2 _ hq
   have hdp:=Vl.of_deep k _ _ _ _ hq
   have hln:=Vl.of_len (N:=v.length) k _ _ _ _ (by rw [List.length_drop];omega) hq
   rw [List.length_drop] at hdp hln
   have he1:1≤e:=hln.1
   have he2:e≤100000:=by omega
   have ha4:a≤a2:=by have:=hln.2.1;rw [hr,List.length_drop] at this;omega
   have HQ2:Hid (Vl.manyF (Vl.ofF s none k) (ks.drop (j+1)) (max D e) (v.drop a2)=R):=Lib.hid (by rw [←hd];conv=>rhs;unfold Vl.manyF;rw [hq];simp only;rw [hr])
   have e0:Vl.deep (some (e,r))=e:=rfl
   rw [e0]
   clear hd hp2 hq hr hdp hln e0
   have t0:((e:Int)==0)=false:=by rw [beq_eq_false_iff_ne];omega
   have t1:¬(e:Int)=0:=by omega
   have t2:¬e=0:=by omega
   rcases Nat.le_total D e with hde | hde
   ·have hmx:max D e=e:=by omega
    rw [hmx] at HQ2
    have hmi:max (D:Int) (e:Int)=(e:Int):=by omega
    have hm1:(D:Int)≤(e:Int):=by omega
    go_wp2_with fail
    go_roundw
    case rel=>exact ⟨j+1,e,a2,by omega,by go_num,by first | rfl | go_num | (simp only [hmi];done) | skip,by omega,ha4,ha3,HG2,HC2,HQ2⟩
    case measure=>simp [intOf] <;> omega
   ·have hmx:max D e=D:=by omega
    rw [hmx] at HQ2
    have hmi:max (D:Int) (e:Int)=(D:Int):=by omega
    have hm1:(e:Int)≤(D:Int):=by omega
    go_wp2_with fail
    go_roundw
    case rel=>exact ⟨j+1,D,a2,by omega,by go_num,by first | rfl | go_num | (simp only [hmi];done) | skip,by omega,ha4,ha3,HG2,HC2,HQ2⟩
    case measure=>simp [intOf] <;> omega
set_option maxRecDepth 100000 in
set_option maxHeartbeats 16000000 in
theorem vof1_any (x:Id.Srt) (t:List Id.Srt) (ht:t≠[]) (tb:Nat) (tv:Value) (w0 w:World) (i:Int) (hs:Id.SortsR w0 none tv (x::t)) (hq:Bk w tb 45 #[tv]) :
  Calls Tryz.prog 116 #[.int .i64 i,.pointer (some ⟨tb,0,none⟩)] w fun e w'=>∃ tv',e=.returned tv'∧Below w.heap.size w w'∧Id.SortsR w0 none tv' t:=by
 obtain ⟨A,n,c,rfl⟩:=ERow.is hs
 have hn:n=t.length+1:=by obtain ⟨_,_,e,_⟩:=ERow.slice hs;injection e
 obtain ⟨g,off,cs,rfl,-⟩:=ERow.get hs (i:=0) (by simp) (by omega)
 have hcn:n≤c:=by obtain ⟨_,_,e,h,_⟩:=ERow.slice hs;injection e with _ e2 e3;rw [e3,e2];exact h
 have hcm:c≤9223372036854775807:=by obtain ⟨_,_,e,_,h,_⟩:=ERow.slice hs;injection e with _ _ e3;omega
 have hpos:=List.length_pos_iff.2 ht
 have h2:2≤n:=by omega
 have HS:=Lib.hid (ERow.tail hs)
 obtain ⟨q0,-⟩:=hq.k1
 have i1:(1:Int)≤(n:Int):=by omega
 have i2:(1:Int)≤(c:Int):=by omega
 have i3:(n:Int)≤(c:Int):=by omega
 have i4:((n:Int) - 1).toNat=n - 1:=by omega
 have i5:((c:Int) - 1).toNat=c - 1:=by omega
 have i6:¬c=1:=by omega
 have i7:¬n=1:=by omega
 clear hs hq hn hpos
 go_enter Tryz.func116,Tryz.ntmps116
 go_wp2_with fail
 go_ret
 exact ⟨_,rfl,Below.refl _ _,HS.out⟩
set_option maxRecDepth 100000 in
set_option maxHeartbeats 16000000 in
theorem vof2_any (x:Id.Srt) (t:List Id.Srt) (ht:t≠[]) (tb:Nat) (tv:Value) (w0 w:World) (i:Int) (hs:Id.SortsR w0 none tv (x::t)) (hq:Bk w tb 45 #[tv]) :
  Calls Tryz.prog 117 #[.int .i64 i,.pointer (some ⟨tb,0,none⟩)] w fun e w'=>∃ tv',e=.returned tv'∧Below w.heap.size w w'∧Id.SortsR w0 none tv' t:=by
 obtain ⟨A,n,c,rfl⟩:=ERow.is hs
 have hn:n=t.length+1:=by obtain ⟨_,_,e,_⟩:=ERow.slice hs;injection e
 obtain ⟨g,off,cs,rfl,-⟩:=ERow.get hs (i:=0) (by simp) (by omega)
 have hcn:n≤c:=by obtain ⟨_,_,e,h,_⟩:=ERow.slice hs;injection e with _ e2 e3;rw [e3,e2];exact h
 have hcm:c≤9223372036854775807:=by obtain ⟨_,_,e,_,h,_⟩:=ERow.slice hs;injection e with _ _ e3;omega
 have hpos:=List.length_pos_iff.2 ht
 have h2:2≤n:=by omega
 have HS:=Lib.hid (ERow.tail hs)
 obtain ⟨q0,-⟩:=hq.k1
 have i1:(1:Int)≤(n:Int):=by omega
 have i2:(1:Int)≤(c:Int):=by omega
 have i3:(n:Int)≤(c:Int):=by omega
 have i4:((n:Int) - 1).toNat=n - 1:=by omega
 have i5:((c:Int) - 1).toNat=c - 1:=by omega
 have i6:¬c=1:=by omega
 have i7:¬n=1:=by omega
 clear hs hq hn hpos
 go_enter Tryz.func117,Tryz.ntmps117
 go_wp2_with fail
 go_ret
 exact ⟨_,rfl,Below.refl _ _,HS.out⟩
set_option maxRecDepth 100000 in
set_option maxHeartbeats 16000000 in
theorem vnamed1_any (rn:ByteArray) (rc:Bool) (rf:List Id.Fld) (fv:Value) (n0:Int) (n1:Nat) (n2:ByteArray) (n3:Int) (hi:n1<rf.length) (rb nb:Nat) (w0 w:World) (i:Int) (hs:Id.FldsR w0 none fv rf) (hb:Below w0.heap.size w0 w) (hq:Bk w rb 42 #[.string rn,.bool rc,fv]) (hqn:Bk w nb 71 #[.int .u8 n0,.int .i64 n1,.string n2,.int .i64 n3]) :
  Calls Tryz.prog 158 #[.int .i64 i,.pointer (some ⟨rb,0,none⟩),.pointer (some ⟨nb,0,none⟩)] w fun e w'=>∃ tv',e=.returned tv'∧Below w.heap.size w w'∧Id.SortsR w0 none tv' rf[n1].type:=by
 obtain ⟨A,n,c,rfl⟩:=ERow.is hs
 have hn:n=rf.length:=by obtain ⟨_,_,e,_⟩:=ERow.slice hs;injection e
 obtain ⟨g,off,cs,rfl,-,⟨u,he,hu⟩,hc⟩:=ERow.get hs hi (by omega)
 obtain ⟨A7,n7,c7,rfl⟩:=ERow.is hu
 have HU:=Lib.hid hu
 generalize rf[n1]=y at *
 obtain ⟨yn,yt⟩:=y
 simp only at he HU ⊢
 subst he
 have a0:=hc 0 _ rfl
 have a1:=hc 1 _ rfl
 simp only [Nat.add_zero] at a0
 have hgl:g<w0.heap.size:=World.block_lt_of_cell? w0 _ a0
 have a0:=(hb.cell hgl).trans a0
 have a1:=(hb.cell hgl).trans a1
 have i0:(0:Int)≤(n1:Int):=by omega
 have i1:(n1:Int)<(n:Int):=by omega
 obtain ⟨⟨q0,q1,q2⟩,-⟩:=hq.k3
 obtain ⟨⟨p0,p1,p2,p3⟩,-⟩:=hqn.k4
 clear hc hs hu hb hq hqn hn
 go_enter Tryz.func158,Tryz.ntmps158
 go_wp2_with fail
 go_ret
 exact ⟨_,rfl,Below.refl _ _,HU.out⟩
set_option maxRecDepth 100000 in
set_option maxHeartbeats 16000000 in
theorem vnamed2_any (rn:ByteArray) (rc:Bool) (rf:List Id.Fld) (fv:Value) (rb:Nat) (w0 w:World) (i:Nat) (hi:i<rf.length) (hs:Id.FldsR w0 none fv rf) (hb:Below w0.heap.size w0 w) (hq:Bk w rb 42 #[.string rn,.bool rc,fv]) :
  Calls Tryz.prog 159 #[.int .i64 i,.pointer (some ⟨rb,0,none⟩)] w fun e w'=>∃ tv',e=.returned tv'∧Below w.heap.size w w'∧Id.SortsR w0 none tv' rf[i].type:=by
 obtain ⟨A,n,c,rfl⟩:=ERow.is hs
 have hn:n=rf.length:=by obtain ⟨_,_,e,_⟩:=ERow.slice hs;injection e
 obtain ⟨g,off,cs,rfl,-,⟨u,he,hu⟩,hc⟩:=ERow.get hs hi (by omega)
 obtain ⟨A7,n7,c7,rfl⟩:=ERow.is hu
 have HU:=Lib.hid hu
 generalize rf[i]=y at *
 obtain ⟨yn,yt⟩:=y
 simp only at he HU ⊢
 subst he
 have a0:=hc 0 _ rfl
 have a1:=hc 1 _ rfl
 simp only [Nat.add_zero] at a0
 have hgl:g<w0.heap.size:=World.block_lt_of_cell? w0 _ a0
 have a0:=(hb.cell hgl).trans a0
 have a1:=(hb.cell hgl).trans a1
 have i0:(0:Int)≤(i:Int):=by omega
 have i1:(i:Int)<(n:Int):=by omega
 obtain ⟨⟨q0,q1,q2⟩,-⟩:=hq.k3
 clear hc hs hu hb hq hn
 go_enter Tryz.func159,Tryz.ntmps159
 go_wp2_with fail
 go_ret
 exact ⟨_,rfl,Below.refl _ _,HU.out⟩
set_option maxRecDepth 100000 in
set_option maxHeartbeats 16000000 in
theorem vnamed_any (s:Id.Sch) (v:List Vl.Node) (vs:Value) (w0:World) (b g m k:Nat) (hv:Vl.ValR w0 none vs v) (hl:v.length≤100000) (hR:Chk.Right s) (ih:Vl.OfC s v vs w0 b g m k) (rn:ByteArray) (rc:Bool) (rf:List Id.Fld) (fv:Value) (hrm:(⟨rn,rc,rf⟩:Id.Rec)∈s.records) (a:Nat) (ha:a≤v.length) (hlen:v.length - a<k+1) (w:World) (hE:Vl.Env s w0 w b g m) (hC:Vl.Cur w b vs a (Vl.fndV g)) (hs:Id.FldsR w0 none fv rf) :
  Calls Tryz.prog 118 #[.pointer (some ⟨b,0,none⟩),.agg #[.string rn,.bool rc,fv]] w (Vl.OfP w b vs (Vl.fndV g) v (Vl.recF s k ⟨rn,rc,rf⟩ (v.drop a))):=by
 obtain ⟨R,HR⟩:∃ R,Hid (Vl.recF s k ⟨rn,rc,rf⟩ (v.drop a)=R):=⟨_,Lib.hid rfl⟩
 rw [HR.out]
 have HV:=Lib.hid hv
 have HIH:=Lib.hid ih
 have HE:=Lib.hid hE
 have HC:=Lib.hid hC
 have HS:=Lib.hid hs
 have hfew:rf.length≤16:=Vl.fields_few hR hrm
 have HFR:Hid (∀ f∈rf,Chk.okT s f.type=true∧f.type.length≤12):=Lib.hid (fun f hf=>Vl.right_okT (Vl.field_right hR hrm hf))
 obtain ⟨A5,n5,c5,rfl⟩:=ERow.is hs
 have HN5:Hid (n5=rf.length):=Lib.hid (by obtain ⟨_,_,e,_⟩:=ERow.slice hs;injection e)
 have hn5:n5≤16:=by rw [HN5.out];exact hfew
 clear hv ih hE hC hs hR hrm hfew
 go_enter Tryz.func118,Tryz.ntmps118
 go_upto_region 1 with (fail)
 refine wp_named (fun V hV=>?_)
 obtain ⟨hb1,hq1,-⟩:=fresh_box hV
 clear hV
 have HEV:=Lib.hid (HE.out.below hb1)
 have HCV:=Lib.hid (HC.out.below hb1)
 have HGV:=Lib.hid (gb_below hb1 (some b))
 have HQ:=Lib.hid hq1
 have hrw:w.heap.size<V.heap.size:=hq1.lt
 have hbw:b<w.heap.size:=HE.out.lt
 have hbr:b≠w.heap.size:=by omega
 obtain ⟨⟨q0,q1,q2⟩,-⟩:=hq1.k3
 clear hb1 hq1
 cases rc
 case false =>
  have HR2:Hid ((if Vl.okRec ⟨rn,false,rf⟩ (v.drop a)=true then Vl.up (Vl.manyF (Vl.ofF s none k) (rf.map (·.type)) 0 ((v.drop a).drop 1)) else none)=R):=Lib.hid (by rw [←HR.out];exact (Vl.rec_fields rfl).symm)
  clear HR
  have HR:=HR2
  clear HR2
  go_wp2_with fail
  refine (vnext_any b a vs (Vl.fndV g) v 7 w0 V HV.out HEV.out.bel HEV.out.lo HCV.out ha hl).mono ?_
  rintro e V1 ⟨rfl,hg1,hc1⟩
  have HEN:=Lib.hid (HEV.out.grown hg1)
  have HGN:=Lib.hid (Vl.gb_trans HGV.out hg1)
  unfold Vl.nxtTo at hc1
  obtain ⟨Z,hz⟩:∃ Z,Vl.nxt (v.drop a) 7=Z:=⟨_,rfl⟩
  rw [hz] at hc1
  rw [hz]
  have HZ:=Lib.hid hz
  clear hz
  cases Z with
  | none =>
   have HCN:=Lib.hid hc1
   clear hc1 hg1
   have HX:Hid (R=none):=Lib.hid (by rw [←HR.out,if_neg (by unfold Vl.okRec;rw [HZ.out];simp)];skip)
   simp only [Option.getD_none,Option.isSome_none,Vl.zeroN,Vl.Node.val]
   go_wp2_with fail
   go_ret
   refine ⟨a,by rw [HX.out];rfl,Vl.gb_trans HGN.out (gb_below ?_ _),Vl.Cur.below HCN.out ?_,ha,fun p hp=>by rw [HX.out] at hp;cases hp⟩
   all_goals exact (Below.refl _ _).alloc (Nat.le_refl _) _
  | some nd =>
   have HCN:=Lib.hid hc1
   obtain ⟨n0,n1,n2,n3⟩:=nd
   have HQ1:Hid (Bk V1 w.heap.size 42 #[.string rn,.bool false,.slice A5 n5 c5]):=Lib.hid (HQ.out.grown hg1 (by intro e;injection e with e;exact hbr e.symm))
   clear hc1 hg1 q0 q1 q2
   simp only [Option.getD_some,Option.isSome_some,Vl.Node.val,if_true] at HCN ⊢
   have hlt:a<v.length:=by
    by_cases h:a<v.length
    ·exact h
    ·exfalso
     have h1:=HZ.out
     rw [List.drop_of_length_le (by omega)] at h1
     cases h1
   obtain ⟨B,HBB⟩:∃ B,Hid (Vl.bare ⟨n0,n1,n2,n3⟩ false false true=B):=⟨_,Lib.hid rfl⟩
   go_upto_region 7 with (fail)
   refine wp_named (fun V2 hV=>?_)
   obtain ⟨hb2,hq2,-⟩:=fresh_box hV
   clear hV
   have HE2:=Lib.hid (HEN.out.below hb2)
   have HC2:=Lib.hid (HCN.out.below hb2)
   have HG2:=Lib.hid (Vl.gb_trans HGN.out (gb_below hb2 _))
   have HQr2:=Lib.hid (HQ1.out.below hb2 HQ1.out.lt)
   have HQn2:=Lib.hid hq2
   have hnb:V1.heap.size<V2.heap.size:=hq2.lt
   obtain ⟨⟨p0,p1,p2,p3⟩,-⟩:=hq2.k4
   obtain ⟨⟨q0,q1,q2⟩,-⟩:=HQr2.out.k3
   clear hb2 hq2 HEN HCN HGN HQ1
   go_wp2_with fail
   refine (vbare_any ⟨n0,n1,n2,n3⟩ false false true _).mono ?_
   rw [HBB.out]
   rintro e V3 ⟨rfl,hb3⟩
   have HE3:=Lib.hid (HE2.out.below hb3)
   have HC3:=Lib.hid (HC2.out.below hb3)
   have HG3:=Lib.hid (Vl.gb_trans HG2.out (gb_below hb3 _))
   have HQr3:=Lib.hid (HQr2.out.below hb3 HQr2.out.lt)
   have HQn3:=Lib.hid (HQn2.out.below hb3 HQn2.out.lt)
   clear p0 p1 p2 p3 q0 q1 q2
   obtain ⟨⟨p0,p1,p2,p3⟩,-⟩:=HQn3.out.k4
   obtain ⟨⟨q0,q1,q2⟩,-⟩:=HQr3.out.k3
   clear hb3 HE2 HC2 HG2 HQr2 HQn2
   cases B
   case false =>
    have HX:Hid (R=none):=Lib.hid (by rw [←HR.out,if_neg (by unfold Vl.okRec;rw [HZ.out];simp only;rw [HBB.out];simp)])
    go_wp2_with fail
    go_ret
    exact ⟨a+1,by rw [HX.out];rfl,HG3.out,HC3.out,by omega,fun p hp=>by rw [HX.out] at hp;cases hp⟩
   by_cases hk3:n3=(n5:Int)
   case neg =>
    have HX:Hid (R=none):=Lib.hid (by rw [←HR.out,if_neg (by unfold Vl.okRec;rw [HZ.out];simp only;rw [Bool.and_eq_true,beq_iff_eq,←HN5.out];exact fun h=>hk3 h.2)])
    have t1:(n3 != (n5:Int))=true:=by rw [bne_iff_ne];exact hk3
    have t2:(n3==(n5:Int))=false:=by rw [beq_eq_false_iff_ne];exact hk3
    go_wp2_with fail
    go_ret
    exact ⟨a+1,by rw [HX.out];rfl,HG3.out,HC3.out,by omega,fun p hp=>by rw [HX.out] at hp;cases hp⟩
   subst hk3
   have HX:Hid (Vl.up (Vl.manyF (Vl.ofF s none k) (rf.map (·.type)) 0 (v.drop (a+1)))=R):=Lib.hid (by rw [←HR.out,if_pos (by unfold Vl.okRec;rw [HZ.out];simp only;rw [HBB.out,Bool.true_and,beq_iff_eq,←HN5.out]),List.drop_drop])
   go_wp2_with fail
   refine (vmany_any s v vs w0 b g m k hl HIH.out (rf.map (·.type)) (fun t ht=>by obtain ⟨f,hf,rfl⟩:=List.mem_map.1 ht;exact HFR.out f hf) n5 (by rw [List.length_map];exact HN5.out) (by omega) (a+1) (by omega) (by omega) _ (fun _ _=>rfl) #[.pointer (some ⟨w.heap.size,0,none⟩)] V3 HE3.out HC3.out (fun i hi w' hg=>?_)).mono ?_
   ·rw [List.length_map] at hi
    simp only [List.getElem_map]
    exact vnamed2_any rn false rf _ w.heap.size w0 w' i hi HS.out (HE3.out.grown hg).bel (HQr3.out.grown hg (by intro e;injection e with e;exact hbr e.symm))
   rw [HX.out]
   rintro e V4 ⟨a2,rfl,hg4,hc4,ha4,hp4⟩
   go_wp2_with fail
   go_ret
   exact ⟨a2,rfl,Vl.gb_trans HG3.out hg4,hc4,ha4,hp4⟩
 case true =>
  have HR2:Hid ((match Vl.okChoice ⟨rn,true,rf⟩ (v.drop a) with | none=>none | some i=>Vl.up (Vl.manyF (Vl.ofF s none k) [(rf.map (·.type)).getD i []] 0 ((v.drop a).drop 1)))=R):=Lib.hid (by rw [←HR.out];exact (Vl.rec_choice rfl).symm)
  clear HR
  have HR:=HR2
  clear HR2
  go_wp2_with fail
  refine (vnext_any b a vs (Vl.fndV g) v 8 w0 V HV.out HEV.out.bel HEV.out.lo HCV.out ha hl).mono ?_
  rintro e V1 ⟨rfl,hg1,hc1⟩
  have HEN:=Lib.hid (HEV.out.grown hg1)
  have HGN:=Lib.hid (Vl.gb_trans HGV.out hg1)
  unfold Vl.nxtTo at hc1
  obtain ⟨Z,hz⟩:∃ Z,Vl.nxt (v.drop a) 8=Z:=⟨_,rfl⟩
  rw [hz] at hc1
  rw [hz]
  have HZ:=Lib.hid hz
  clear hz
  cases Z with
  | none =>
   have HCN:=Lib.hid hc1
   clear hc1 hg1
   have HX:Hid (R=none):=Lib.hid (by rw [←HR.out];have h:Vl.okChoice ⟨rn,true,rf⟩ (v.drop a)=none:=(by unfold Vl.okChoice;rw [HZ.out]);rw [h])
   simp only [Option.getD_none,Option.isSome_none,Vl.zeroN,Vl.Node.val]
   go_wp2_with fail
   go_ret
   refine ⟨a,by rw [HX.out];rfl,Vl.gb_trans HGN.out (gb_below ?_ _),Vl.Cur.below HCN.out ?_,ha,fun p hp=>by rw [HX.out] at hp;cases hp⟩
   all_goals exact (Below.refl _ _).alloc (Nat.le_refl _) _
  | some nd =>
   have HCN:=Lib.hid hc1
   obtain ⟨n0,n1,n2,n3⟩:=nd
   have HQ1:Hid (Bk V1 w.heap.size 42 #[.string rn,.bool true,.slice A5 n5 c5]):=Lib.hid (HQ.out.grown hg1 (by intro e;injection e with e;exact hbr e.symm))
   clear hc1 hg1 q0 q1 q2
   simp only [Option.getD_some,Option.isSome_some,Vl.Node.val,if_true] at HCN ⊢
   have hlt:a<v.length:=by
    by_cases h:a<v.length
    ·exact h
    ·exfalso
     have h1:=HZ.out
     rw [List.drop_of_length_le (by omega)] at h1
     cases h1
   obtain ⟨B,HBB⟩:∃ B,Hid (Vl.bare ⟨n0,n1,n2,n3⟩ true false true=B):=⟨_,Lib.hid rfl⟩
   go_upto_region 3 with (fail)
   refine wp_named (fun V2 hV=>?_)
   obtain ⟨hb2,hq2,-⟩:=fresh_box hV
   clear hV
   have HE2:=Lib.hid (HEN.out.below hb2)
   have HC2:=Lib.hid (HCN.out.below hb2)
   have HG2:=Lib.hid (Vl.gb_trans HGN.out (gb_below hb2 _))
   have HQr2:=Lib.hid (HQ1.out.below hb2 HQ1.out.lt)
   have HQn2:=Lib.hid hq2
   have hnb:V1.heap.size<V2.heap.size:=hq2.lt
   have hbn:b≠V1.heap.size:=by have:=HEN.out.lt;omega
   obtain ⟨⟨p0,p1,p2,p3⟩,-⟩:=hq2.k4
   obtain ⟨⟨q0,q1,q2⟩,-⟩:=HQr2.out.k3
   clear hb2 hq2 HEN HCN HGN HQ1
   go_wp2_with fail
   refine (vbare_any ⟨n0,n1,n2,n3⟩ true false true _).mono ?_
   rw [HBB.out]
   rintro e V3 ⟨rfl,hb3⟩
   have HE3:=Lib.hid (HE2.out.below hb3)
   have HC3:=Lib.hid (HC2.out.below hb3)
   have HG3:=Lib.hid (Vl.gb_trans HG2.out (gb_below hb3 _))
   have HQr3:=Lib.hid (HQr2.out.below hb3 HQr2.out.lt)
   have HQn3:=Lib.hid (HQn2.out.below hb3 HQn2.out.lt)
   clear p0 p1 p2 p3 q0 q1 q2
   obtain ⟨⟨p0,p1,p2,p3⟩,-⟩:=HQn3.out.k4
   obtain ⟨⟨q0,q1,q2⟩,-⟩:=HQr3.out.k3
   clear hb3 HE2 HC2 HG2 HQr2 HQn2
   have HNO:Hid (¬(Vl.bare ⟨n0,n1,n2,n3⟩ true false true=true∧n3=1∧0≤n1∧n1<(n5:Int))→R=none):=Lib.hid (fun h=>by rw [←HR.out];have h2:Vl.okChoice ⟨rn,true,rf⟩ (v.drop a)=none:=(by unfold Vl.okChoice;rw [HZ.out];simp only;rw [if_neg];rw [←HN5.out];exact h);rw [h2])
   cases B
   case false =>
    have HX:Hid (R=none):=Lib.hid (HNO.out (by rw [HBB.out];exact fun h=>by cases h.1))
    clear HNO
    go_wp2_with fail
    go_ret
    exact ⟨a+1,by rw [HX.out];rfl,HG3.out,HC3.out,by omega,fun p hp=>by rw [HX.out] at hp;cases hp⟩
   by_cases hk3:n3=1
   case neg =>
    have HX:Hid (R=none):=Lib.hid (HNO.out (fun h=>hk3 h.2.1))
    have t1:(n3 != 1)=true:=by rw [bne_iff_ne];exact hk3
    have t2:(n3==1)=false:=by rw [beq_eq_false_iff_ne];exact hk3
    clear HNO
    go_wp2_with fail
    go_ret
    exact ⟨a+1,by rw [HX.out];rfl,HG3.out,HC3.out,by omega,fun p hp=>by rw [HX.out] at hp;cases hp⟩
   subst hk3
   by_cases hk0:0≤n1
   case neg =>
    have HX:Hid (R=none):=Lib.hid (HNO.out (fun h=>hk0 h.2.2.1))
    have t1:n1<0:=by omega
    clear HNO
    go_wp2_with fail
    go_ret
    exact ⟨a+1,by rw [HX.out];rfl,HG3.out,HC3.out,by omega,fun p hp=>by rw [HX.out] at hp;cases hp⟩
   by_cases hk5:n1<(n5:Int)
   case neg =>
    have HX:Hid (R=none):=Lib.hid (HNO.out (fun h=>hk5 h.2.2.2))
    have t1:(n5:Int)≤n1:=by omega
    have t2:¬n1<0:=by omega
    clear HNO
    go_wp2_with fail
    go_ret
    exact ⟨a+1,by rw [HX.out];rfl,HG3.out,HC3.out,by omega,fun p hp=>by rw [HX.out] at hp;cases hp⟩
   obtain ⟨ix,rfl⟩:∃ i:Nat,n1=i:=⟨n1.toNat,by omega⟩
   have hix:ix<rf.length:=by rw [←HN5.out];omega
   have t3:¬(n5:Int)≤(ix:Int):=by omega
   have t4:¬n5≤ix:=by omega
   have HX:Hid (Vl.up (Vl.manyF (Vl.ofF s none k) [rf[ix].type] 0 (v.drop (a+1)))=R):=Lib.hid (by rw [←HR.out];have h2:Vl.okChoice ⟨rn,true,rf⟩ (v.drop a)=some ix:=(by unfold Vl.okChoice;rw [HZ.out];simp only;rw [if_pos ⟨HBB.out,by trivial,hk0,by rw [←HN5.out];exact hk5⟩,Int.toNat_natCast]);rw [h2];simp only;rw [List.drop_drop,List.getD_eq_getElem?_getD,List.getElem?_eq_getElem (by rw [List.length_map];exact hix),Option.getD_some,List.getElem_map])
   clear HNO
   go_wp2_with fail
   refine (vmany_any s v vs w0 b g m k hl HIH.out [rf[ix].type] (fun t ht=>by rw [List.mem_singleton] at ht;subst ht;exact HFR.out _ (List.getElem_mem hix)) 1 rfl (by omega) (a+1) (by omega) (by omega) _ (fun _ _=>rfl) #[.pointer (some ⟨w.heap.size,0,none⟩),.pointer (some ⟨V1.heap.size,0,none⟩)] V3 HE3.out HC3.out (fun i hi w' hg=>?_)).mono ?_
   ·obtain rfl:i=0:=by simpa using hi
    exact vnamed1_any rn true rf _ n0 ix n2 1 hix w.heap.size V1.heap.size w0 w' _ HS.out (HE3.out.grown hg).bel (HQr3.out.grown hg (by intro e;injection e with e;exact hbr e.symm)) (HQn3.out.grown hg (by intro e;injection e with e;exact hbn e.symm))
   rw [HX.out]
   rintro e V4 ⟨a2,rfl,hg4,hc4,ha4,hp4⟩
   go_wp2_with fail
   go_ret
   exact ⟨a2,rfl,Vl.gb_trans HG3.out hg4,hc4,ha4,hp4⟩
end Go.Proofs.YtjfdohhdkdjifaaGreatDoor
set_option linter.unusedVariables false
set_option linter.unusedSimpArgs false
namespace Go.Proofs.YtjfdohhdkdjifaaGreatDoor
open Go.RowKit Go.BigFrame
namespace Lst
section
variable {P : Program} {ops : Array Oper} {Q : Exit → Act → World → Prop} {md : Region.Mode} {S : World → Prop} {z : Nat}
/-- Each ahead of z has one behind it, up to z, that waits for it. -/
def lastM (md:Region.Mode) (ops:Array Oper) (z:Nat):Bool :=
 (List.range z).all fun i=>(List.range (z+1)).any fun j=>decide (i<j)&&match ops[j]? with
  | none=>false
  | some o=>o.after.any fun e=>Region.binds md e&&e.on==i
theorem Shut.allM {listed:Array Bool} (h:Shut md ops listed) (hL:lastM md ops z=true) (hz:z∈Region.ready md ops listed):∀ i,i<z→listed.getD i false=true:=by
 unfold lastM at hL
 have key:∀ n i,z - i=n→i<z→listed.getD i false=true:=by
  intro n
  induction n using Nat.strongRecOn with
  | _ n ih =>
   intro i hn hi
   obtain ⟨j,hj,hjj⟩:=List.any_eq_true.1 (List.all_eq_true.1 hL i (List.mem_range.2 hi))
   simp only [Bool.and_eq_true,decide_eq_true_eq] at hjj
   obtain ⟨hij,hjj⟩:=hjj
   have hjz2:j<z+1:=List.mem_range.1 hj
   have hjs:j<ops.size:=by
    obtain ⟨_,o',ho',_⟩:=mem_ready.1 hz
    have:=(Array.getElem?_eq_some_iff.1 ho').1
    omega
   rw [Array.getElem?_eq_getElem hjs] at hjj
   simp only at hjj
   obtain ⟨m,hm,hmm⟩:=Array.any_eq_true.1 hjj
   simp only [Bool.and_eq_true,beq_iff_eq] at hmm
   have hjo:ops[j]?=some ops[j]:=Array.getElem?_eq_getElem hjs
   rw [←hmm.2]
   by_cases hjz:j=z
   ·subst hjz
    obtain ⟨_,o',ho',hall⟩:=mem_ready.1 hz
    rw [hjo] at ho'
    injection ho' with ho'
    subst ho'
    exact hall _ (Array.getElem_mem hm) hmm.1
   ·exact h.2 j _ hjo (ih (z - j) (by omega) j rfl (by omega)) _ (Array.getElem_mem hm) hmm.1
 exact fun i hi=>key _ i rfl hi
theorem firstM {i:Nat} {oi:Oper} {v:Value} (hi:ops[i]?=some oi) (hsel:∀ (j:Nat) (o:Oper) cs b,ops[j]?=some o→o.op≠.select cs b)
  (hQ:∀ c a w,Q (.panic c) (a.put oi.dst v) w→Q (.panic c) a w) (hL:lastM md ops z=true) (hiz:i<z) :
  ∀ (fuel:Nat) (listed:Array Bool) (a:Act) (w:World),
   Shut md ops listed→noneOf [z] listed=true →
   (∀ j oj,ops[j]?=some oj→j≠i→listed.getD j true=false→(∀ e∈oj.after,Region.binds md e=true→e.on≠i)→oi.apart ops oj=true) →
   i∈Region.ready md ops listed→YieldsIf P ops S oi v a→S w →
   wpAnyL P md ops Q S [z] fuel (listed.setIfInBounds i true) (a.put oi.dst v) w→wpAnyL P md ops Q S [z] (fuel+1) listed a w:=by
 intro fuel
 induction fuel with
 | zero =>
  intro listed a w hs hD _ hr hy hS H
  refine ⟨fun h=>(by rw [h] at hr;cases hr),fun j hj=>?_⟩
  by_cases hji:j=i
  ·subst hji;exact hy.wpOp hi hS ⟨fun _=>hS,H⟩
  ·have:=ready_mono hj hji
   rw [H.1] at this
   cases this
 | succ fuel ih =>
  intro listed a w hs hD hfree hr hy hS H
  refine ⟨fun h=>(by rw [h] at hr;cases hr),fun j hj=>?_⟩
  by_cases hji:j=i
  ·subst hji;exact hy.wpOp hi hS ⟨fun _=>hS,H⟩
  ·have h1:=H.2 j (ready_mono hj hji)
   obtain ⟨hjun,oj,hoj,hall⟩:=mem_ready.1 hj
   have hnot:∀ e∈oj.after,Region.binds md e=true→e.on≠i:=fun e he hb heq=>by
    have h1:=hall e he hb
    have h0:=(mem_ready.1 hr).1
    rw [heq] at h1
    rcases Nat.lt_or_ge i listed.size with h' | h'
    ·simp [h'] at h0 h1;rw [h0] at h1;cases h1
    ·simp [Array.getElem?_eq_none h'] at h1
   have h2:=wpOp_putIf hoj (hfree j oj hoj hji hjun hnot) (fun cs b=>hsel i oi cs b hi) (fun cs b=>hsel j oj cs b hoj) hQ hy h1
   have hfree':∀ k ok,ops[k]?=some ok→k≠i→(listed.setIfInBounds j true).getD k true=false →
     (∀ e∈ok.after,Region.binds md e=true→e.on≠i)→oi.apart ops ok=true:=fun k ok hk hki hun hno=>by
    refine hfree k ok hk hki ?_ hno
    by_cases hjk:j=k
    ·subst hjk;exact hjun
    ·rw [getD_set_ne true hjk] at hun;exact hun
   have hiD:i ∉ [z]:=by simp;omega
   have hjD:j ∉ [z]:=by
    intro hjz
    simp at hjz
    subst hjz
    have h1:=Shut.allM hs hL hj i hiz
    have h0:=(mem_ready.1 hr).1
    have hls:i<listed.size:=by rw [hs.1];exact (Array.getElem?_eq_some_iff.1 hi).1
    simp [hls] at h0 h1
    rw [h0] at h1
    cases h1
   have hD':=noneOf_set hD hjD
   refine wpOp_mono (fun a' w' h3=>⟨fun _=>h3.2.1 (noneOf_set (noneOf_set hD hiD) hjD),ih (listed.setIfInBounds j true) a' w' (hs.next hj) hD' hfree' (ready_mono hr (Ne.symm hji)) h3.1 (h3.2.1 (noneOf_set (noneOf_set hD hiD) hjD)) ?_⟩) h2
   rw [Array.setIfInBounds_comm _ _ hji]
   exact h3.2.2
theorem takeM (z i:Nat) {oi:Oper} {v:Value} {fuel:Nat} {listed:Array Bool} {a:Act} {w:World} (hi:ops[i]?=some oi)
  (hs:Region.noSelect ops=true) (hf:Region.free md ops listed i=true) (hr:(Region.ready md ops listed).contains i=true) (hL:lastM md ops z=true) (hz:(decide (i<z)&&noneOf [z] listed)=true) (hsh:shutB md ops listed=true)
  (hQ:∀ c a w,Q (.panic c) (a.put oi.dst v) w→Q (.panic c) a w) (hS:S w) (hw:Region.wanted oi (yielded ops a.tmps)=true) (hy:∀ w,S w→(execOp a.eval oi).run P w=.ok (.value v) w)
  (h:wpAnyL P md ops Q S [z] fuel (listed.setIfInBounds i true) (a.put oi.dst v) w):wpAnyL P md ops Q S [z] (fuel+1) listed a w:=by
 simp only [Bool.and_eq_true,decide_eq_true_eq] at hz
 exact firstM hi (Region.noSelect_spec hs) hQ hL hz.1 fuel listed a w (shut_of hsh) hz.2 (Region.free_spec hi hf) (by simpa using hr) (.inl ⟨hw,hy⟩) hS h
end
end Lst
end Go.Proofs.YtjfdohhdkdjifaaGreatDoor
