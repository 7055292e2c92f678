/- redressref15: Depth, Depths. No condition but the ones the theorems state. -/
import Derived.Test.YtjfdohhdkdjifaaGreatDoorPL30
import Derived.Test.YtjfdohhdkdjifaaGreatDoorPL28
set_option linter.unusedVariables false
set_option linter.unusedSimpArgs false
namespace Go.Proofs.YtjfdohhdkdjifaaGreatDoor
open Go.RowKit Go.BigFrame
def iArr (l:List Nat):Array Value:=(l.map fun (n:Nat)=>Value.int .i64 (n:Int)).toArray
theorem iArr_get {l:List Nat} {i:Nat} (h:i<l.length):(iArr l)[i]?=some (.int .i64 l[i]):=by
 unfold iArr
 simp [h]
theorem iArr_set {l:List Nat} {i:Nat} (n:Nat):(iArr l).setIfInBounds i (.int .i64 n)=iArr (l.set i n):=by
 unfold iArr
 simp
theorem info_ints:(Tryz.prog.info? 3).map (fun i=>(i.zero,i.size,i.bytes))=some (some (.int .i64 0),1,8):=by kernel_rfl
theorem make_ints (w:World) (n:Nat) (hn:n≤1000):Sem.run Tryz.prog (Instr.makeSlice 127 (.int .i64 n) (.int .i64 n)) w=.ok (.slice (some ⟨w.heap.size,0,none⟩) n n) (w.alloc (.cells (iArr (List.replicate n 0)) 3)):=by
 obtain ⟨i,hi0,hz0,hz1,hz2⟩:=info_parts info_ints
 have h:=run_makeSlice (P:=Tryz.prog) w 127 3 i _ Tryz.underlying127 hi0 hz0 .i64 .i64 n n (by omega) (Int.le_refl _) (by rw [hz1];simp;omega) (by rw [hz2];omega) (by omega)
 simp only [Int.toNat_natCast] at h
 rw [hz1,Nat.mul_one] at h
 have e:madeCells (Value.int .i64 0).cells n=iArr (List.replicate n 0):=by
  apply Array.toList_inj.1
  rw [show (Value.int .i64 0).cells=#[.int .i64 0] from rfl,toList_madeCells_one]
  simp [iArr]
 rw [e] at h
 exact h
set_option maxRecDepth 100000 in
set_option maxHeartbeats 16000000 in
theorem rdepth_any (sv:Value) (x:Id.Sch) (hF:Chk.Fine x) (κ:Vl.Kn) (hκ:∀ n,Chk.find x n=none→κ n=0) (tv:Value) (t:List Id.Srt) (h0:t≠[]) (go n c:Nat) (w:World) (hv:Id.SchV w none sv x) (ht:Id.SortsR w none tv t) (hn:n=x.records.length) (hg:Bk w go 3 (iArr (x.records.map fun r=>κ r.name))) :
  Calls Tryz.prog 70 #[sv,tv,.slice (some ⟨go,0,none⟩) n c] w fun e w'=>e=.returned (.int .i64 (Vl.dpt κ t))∧Below w.heap.size w w':=by
 have HV:=Lib.hid hv
 obtain ⟨A1,n1,c1,A2,n2,c2,A3,n3,c3,rfl,r1,-,-⟩:=hv
 have HN:Hid (n1=x.records.length):=Lib.hid (by obtain ⟨_,_,e,_⟩:=ERow.slice r1;injection e)
 have H1:=Lib.hid r1
 have HG:=Lib.hid hg
 have HK:=Lib.hid hκ
 have hm1:n1≤1000:=by rw [HN.out];exact hF.recs
 obtain rfl:n=n1:=by rw [HN.out,hn]
 clear hn hF hκ hg r1
 cases t with
 | nil=>exact absurd rfl h0
 | cons y t =>
 obtain ⟨A7,n7,c7,rfl⟩:=ERow.is ht
 obtain ⟨g7,off7,cs,rfl,-,e1,hc⟩:=ERow.get ht (i:=0) (by simp) (by omega)
 unfold Id.SortE Id.Srt.cells at e1
 subst e1
 have b0:=hc 0 _ rfl
 have b1:=hc 1 _ rfl
 simp only [Nat.zero_mul,Nat.add_zero,List.getElem_cons_zero] at b0 b1
 have hg7:g7<w.heap.size:=World.block_lt_of_cell? w _ b0
 have hn7:0<n7:=by obtain ⟨_,_,e,_⟩:=ERow.slice ht;injection e with _ e2 _;rw [e2];simp
 have hn7i:(0:Int)<(n7:Int):=by omega
 obtain ⟨R,HR⟩:∃ R,Hid (Vl.dpt κ (y::t)=R):=⟨_,Lib.hid rfl⟩
 rw [HR.out]
 obtain ⟨yk,yn⟩:=y
 simp only at b0 b1
 have HR2:Hid ((if yk=7 then κ yn else 1)=R):=HR
 clear hc ht h0 HR
 go_enter Tryz.func70,Tryz.ntmps70
 go_upto_region 1 with (fail)
 refine wp_named (fun V hV=>?_)
 have HL:=Lib.hid (Chk.Lx.start hV)
 clear hV
 have a0:=(HL.out.bel.cell hg7).trans b0
 have HA1:=Lib.hid b1
 clear b0 b1
 by_cases h7:yk=7
 case neg =>
  have t7:((yk:Int) != 7)=true:=by rw [bne_iff_ne];omega
  have t8:¬(yk:Int)=7:=by omega
  have HX:Hid (R=1):=Lib.hid (by rw [←HR2.out,if_neg h7])
  go_wp2_with fail
  go_ret
  exact ⟨by rw [HX.out];rfl,HL.out.bel⟩
 subst h7
 have HX:Hid (R=κ yn):=Lib.hid (by rw [←HR2.out,if_pos rfl])
 obtain ⟨⟨q0,q1,q2,q3⟩,-⟩:=HL.out.box.k4
 try simp only [Int.cast_ofNat_Int] at a0
 go_wp2_with fail
 clear q0 q1 q2 q3
 go_loopw [7] (fun i wr=>∃ (k:Nat),k≤n∧i=.int .i64 k∧Hid (∀ j (h:j<x.records.length),j<k→((x.records[j]'h).name.toList==yn.toList)=false)∧Hid (Chk.Lx w wr #[.string x.name,.slice A1 n c1,.slice A2 n2 c2,.slice A3 n3 c3])) (fun i _=>n - (intOf i).toNat)
 case atStart=>exact ⟨0,by omega,rfl,Lib.hid (fun j h hj=>absurd hj (Nat.not_lt_zero _)),HL⟩
 case round =>
  obtain ⟨k,hk,rfl,HB,HLk⟩:=hrel
  obtain ⟨U,rfl⟩:∃ w',w'=wr:=⟨_,rfl⟩
  clear HL a0
  obtain ⟨⟨q0,q1,q2,q3⟩,-⟩:=HLk.out.box.k4
  have ik0:(0:Int)≤(k:Int):=by omega
  by_cases hlt:k<n
  case neg =>
   have HZ:Hid (κ yn=0):=Lib.hid (HK.out yn (by
    unfold Chk.find
    rw [List.find?_eq_none]
    intro r hr
    obtain ⟨j,hj,rfl⟩:=List.getElem_of_mem hr
    have:=HB.out j hj (by have:=HN.out;omega)
    rw [this]
    decide))
   go_wp2_with fail
   go_ret
   exact ⟨by rw [HX.out,HZ.out];rfl,HLk.out.bel⟩
  have hka:k<x.records.length:=by rw [←HN.out];exact hlt
  have ik1:(k:Int)<(n:Int):=by omega
  obtain ⟨g,off,cs,rfl,-,⟨u,he,HU⟩,hc⟩:=ERow.get H1.out hka (by omega)
  obtain ⟨r,Hr⟩:∃ r,Hid (x.records[k]=r):=⟨_,Lib.hid rfl⟩
  rw [Hr.out] at he HU
  obtain ⟨rn,rc,rf⟩:=r
  subst he
  have c0:=hc 0 _ rfl
  simp only [Nat.add_zero] at c0
  have hgl:g<w.heap.size:=World.block_lt_of_cell? w _ c0
  have c0:=(HLk.out.bel.cell hgl).trans c0
  have a1:=(HLk.out.bel.cell hg7).trans HA1.out
  clear hc HU
  cases hs:(rn.toList==yn.toList)
  case false =>
   have HB2:Hid (∀ j (h:j<x.records.length),j<k+1→((x.records[j]'h).name.toList==yn.toList)=false):=Lib.hid (fun j h hj=>by
    rcases Nat.lt_or_ge j k with h1 | h1
    ·exact HB.out j h h1
    ·obtain rfl:j=k:=by omega
     rw [Hr.out]
     exact hs)
   clear Hr
   go_wp2_with fail
   go_quiet (fail)
   go_wp2_with fail
   go_roundw
   case rel=>exact ⟨k+1,by omega,by go_num,HB2,Lib.hid (HLk.out.below (below_drewN (Below.refl _ _) _))⟩
   case measure=>simp [intOf];omega
  obtain rfl:rn=yn:=Chk.data_eq hs
  have hgk:w.cell? ⟨go,k,none⟩=some (.int .i64 (κ rn)):=by
   rw [HG.out.cell k,iArr_get (by rw [List.length_map];exact hka),List.getElem_map,Hr.out]
  have hgl2:go<w.heap.size:=HG.out.lt
  have hgk:=(HLk.out.bel.cell hgl2).trans hgk
  clear Hr
  go_wp2_with fail
  go_quiet (fail)
  go_wp2_with fail
  go_ret
  exact ⟨by rw [HX.out];rfl,below_drewN HLk.out.bel _⟩
def IntE (w:World) (cs:List Value) (n:Nat):Prop:=cs=[.int .i64 n]
theorem ERow.set_lo2 {α:Type} {W:World} {b g k:Nat} {t:TypeId} {size:Nat} {E:World→List Value→α→Prop} {v:Value} {l:List α} {u:Value} (h:ERow W (some b) t size E v l) (hg:g<b) (hE:∀ cs x,E W cs x→E (W.setCell ⟨g,k,none⟩ u) cs x):ERow (W.setCell ⟨g,k,none⟩ u) (some b) t size E v l :=
 ERow.mono h (fun n xs hr=>by
  obtain ⟨h1,h2⟩:=(show W.ownsRow b t size v n xs from hr)
  refine ⟨h1,?_⟩
  rcases h2 with hn | ⟨b',cap,cur,rfl,hb,hg',rest⟩
  ·exact .inl hn
  ·exact .inr ⟨b',cap,cur,rfl,hb,(Below.heap_setCell W ⟨g,k,none⟩ u b' (by simp;omega)).trans hg',rest⟩) hE
def Vl.RDepP (x:Id.Sch) (kn:Vl.Kn) (w:World) (e:Ending) (w':World):Prop:=∃ g,e=.returned (.slice (some ⟨g,0,none⟩) x.records.length x.records.length)∧Bk w' g 3 (iArr (x.records.map fun r=>Vl.kdF kn 12 r.name))∧Below w.heap.size w w'
set_option maxRecDepth 100000 in
set_option maxHeartbeats 16000000 in
theorem rdepths_any (v:Value) (x:Id.Sch) (hR:Chk.Right x) (hF:Chk.Fine x) (kn:Vl.Kn) (hM:Vl.Min x kn) (w:World) (hv:Id.SchV w none v x) :
  Calls Tryz.prog 69 #[v] w (Vl.RDepP x kn w):=by
 have HV:=Lib.hid hv
 obtain ⟨A1,n1,c1,A2,n2,c2,A3,n3,c3,rfl,r1,-,-⟩:=hv
 have HN:Hid (n1=x.records.length):=Lib.hid (by obtain ⟨_,_,e,_⟩:=ERow.slice r1;injection e)
 have H1:=Lib.hid r1
 have HR:=Lib.hid hR
 have HF:=Lib.hid hF
 have HM:=Lib.hid hM
 have hm1:n1≤1000:=by rw [HN.out];exact hF.recs
 clear r1 hR hF hM
 have HFIN:Hid (∀ g w',Bk w' g 3 (iArr (x.records.map fun r=>Vl.kdF kn 12 r.name))→Below w.heap.size w w'→Vl.RDepP x kn w (.returned (.slice (some ⟨g,0,none⟩) n1 n1)) w'):=Lib.hid (fun g w' h1 h2=>⟨g,by rw [HN.out],h1,h2⟩)
 go_enter Tryz.func69,Tryz.ntmps69
 go_upto_region 1 with (fail)
 refine wp_named (fun V hV=>?_)
 have HL:=Lib.hid (Chk.Lx.start hV)
 clear hV
 obtain ⟨⟨q0,q1,q2,q3⟩,-⟩:=HL.out.box.k4
 have hrun:=make_ints V n1 hm1
 go_upto_region 2 with (fail)
 refine wp_named (fun W0 hW0=>?_)
 obtain ⟨hb,hq,-⟩:=fresh_box hW0
 clear hW0 hrun q0 q1 q2 q3
 have HL0:=Lib.hid (HL.out.below hb)
 have HG0:Hid (Bk W0 V.heap.size 3 (iArr (x.records.map fun r=>Vl.kdF kn 0 r.name))):=Lib.hid (by rw [Vl.kd_zero0,←HN.out];exact hq)
 have hgo:w.heap.size<V.heap.size:=HL.out.box.lt
 clear hb hq HL
 obtain ⟨go,hgoe⟩:∃ g,V.heap.size=g:=⟨_,rfl⟩
 rw [hgoe] at HG0 hgo ⊢
 clear hgoe
 go_wp2_with fail
 go_loopw [4] (fun i wr=>∃ (d:Nat),1≤d∧d≤13∧i=.int .i64 d∧Hid (Bk wr go 3 (iArr (x.records.map fun r=>Vl.kdF kn (d - 1) r.name)))∧Hid (Chk.Lx w wr #[.string x.name,.slice A1 n1 c1,.slice A2 n2 c2,.slice A3 n3 c3])) (fun i _=>13 - (intOf i).toNat)
 case atStart=>exact ⟨1,by omega,by omega,rfl,HG0,HL0⟩
 case round =>
  obtain ⟨d,hd1,hd2,rfl,HG,HL⟩:=hrel
  obtain ⟨U,rfl⟩:∃ w',w'=wr:=⟨_,rfl⟩
  clear HG0 HL0
  have id0:(0:Int)≤(d:Int):=by omega
  by_cases hlt:d≤12
  case neg =>
   obtain rfl:d=13:=by omega
   try simp only [Int.cast_ofNat_Int]
   go_wp2_with fail
   go_ret
   exact HFIN.out _ _ HG.out HL.out.bel
  have id1:(d:Int)≤12:=by omega
  have hgoU:go<U.heap.size:=HG.out.lt
  obtain ⟨κ,Hκ⟩:∃ κ:Vl.Kn,Hid (Vl.kdF kn (d - 1)=κ):=⟨_,Lib.hid rfl⟩
  have HZK:Hid (∀ n,Chk.find x n=none→κ n=0):=Lib.hid (fun n hn=>by rw [←Hκ.out];exact Vl.kd_zero HM.out _ hn)
  have HGK:Hid (Bk U go 3 (iArr (x.records.map fun r=>κ r.name))):=Lib.hid (by have h:=HG.out;rw [Hκ.out] at h;exact h)
  go_wp2_with fail
  go_loopw [6,5] (fun i sl wr=>∃ (k:Nat) (v5:Value),k≤n1∧i=.int .i64 k∧v5=sl∧Hid (ERow wr (some U.heap.size) 3 1 IntE v5 (Vl.nowF κ d x.records k))∧Hid (Below U.heap.size U wr)) (fun i _ _=>n1 - (intOf i).toNat)
  case atStart=>exact ⟨0,_,by omega,rfl,rfl,Lib.hid (ERow.nil _ _ _ _ _),Lib.hid (Below.refl _ _)⟩
  case round =>
   obtain ⟨k,v5,hk,rfl,rfl,HNW,HBU⟩:=hrel
   obtain ⟨W,rfl⟩:∃ w',w'=wr:=⟨_,rfl⟩
   have ik0:(0:Int)≤(k:Int):=by omega
   have HLW:=Lib.hid (HL.out.below HBU.out)
   have HGW:=Lib.hid (HGK.out.below HBU.out hgoU)
   obtain ⟨A9,n9,c9,rfl⟩:=ERow.is HNW.out
   by_cases hkl:k<n1
   case neg =>
    obtain rfl:n1=k:=by omega
    obtain ⟨L,HLL⟩:∃ L,Hid (Vl.nowF κ d x.records n1=L):=⟨_,Lib.hid rfl⟩
    have HNL:Hid (ERow W (some U.heap.size) 3 1 IntE (.slice A9 n9 c9) L):=Lib.hid (by rw [←HLL.out];exact HNW.out)
    have HN9:Hid (n9=L.length):=Lib.hid (by obtain ⟨_,_,e,_⟩:=ERow.slice HNL.out;injection e)
    have hn9:n9≤1000:=by rw [HN9.out,←HLL.out];exact Nat.le_trans (Vl.nowF_len _ _ _ _) hm1
    have HLT:Hid (∀ j∈L,j<x.records.length):=Lib.hid (fun j hj=>by rw [←HLL.out] at hj;rw [←HN.out];exact Vl.nowF_lt hj)
    have HEND:Hid (Vl.lstA κ d x.records L=x.records.map (fun r=>Vl.kdF kn d r.name)):=Lib.hid (by
     have h:=Vl.lstA_end HR.out HM.out (d - 1)
     rw [show d - 1+1=d by omega,Hκ.out,←HN.out,HLL.out] at h
     exact h)
    clear HNW
    go_wp2_with fail
    go_loopw [13] (fun i wr=>∃ (m:Nat),m≤n9∧i=.int .i64 m∧Hid (Bk wr go 3 (iArr (Vl.lstA κ d x.records (L.take m))))∧Hid (ERow wr (some U.heap.size) 3 1 IntE (.slice A9 n9 c9) L)∧Hid (Chk.Lx w wr #[.string x.name,.slice A1 n1 c1,.slice A2 n2 c2,.slice A3 n3 c3])) (fun i _=>n9 - (intOf i).toNat)
    case atStart=>exact ⟨0,by omega,rfl,Lib.hid (by rw [List.take_zero,Vl.lstA_nil];exact HGW.out),HNL,HLW⟩
    case round =>
     obtain ⟨m,hm,rfl,HGM,HNM,HLM⟩:=hrel
     obtain ⟨Z,rfl⟩:∃ w',w'=wr:=⟨_,rfl⟩
     have im0:(0:Int)≤(m:Int):=by omega
     by_cases hml:m<n9
     case neg =>
      have HGE:Hid (Bk Z go 3 (iArr (x.records.map fun r=>Vl.kdF kn d r.name))):=Lib.hid (by
       have h:=HGM.out
       rw [List.take_of_length_le (by have:=HN9.out;omega),HEND.out] at h
       exact h)
      go_wp2_with fail
      go_roundw
      case rel=>exact ⟨d+1,by omega,by omega,by go_num,(by rw [Nat.add_sub_cancel];exact HGE),HLM⟩
      case measure=>simp [intOf];omega
     have hmL:m<L.length:=by rw [←HN9.out];exact hml
     have im1:(m:Int)<(n9:Int):=by omega
     obtain ⟨g9,off9,cs,rfl,-,e1,hc⟩:=ERow.get HNM.out hmL (by omega)
     obtain ⟨j,Hj⟩:∃ j,Hid (L[m]=j):=⟨_,Lib.hid rfl⟩
     rw [Hj.out] at e1
     unfold IntE at e1
     subst e1
     have a0:=hc 0 _ rfl
     simp only [Nat.mul_one,Nat.add_zero] at a0
     have hjl:j<x.records.length:=by rw [←Hj.out];exact HLT.out _ (List.getElem_mem hmL)
     have ij0:(0:Int)≤(j:Int):=by omega
     have ij1:(j:Int)<(n1:Int):=by rw [HN.out];omega
     have hgc:=HGM.out.cell j
     rw [iArr_get (by rw [Vl.lstA_len];exact hjl)] at hgc
     have hgf:=HGM.out.frozen j
     have HG3:Hid (Bk (Z.setCell ⟨go,j,none⟩ (.int .i64 d)) go 3 (iArr (Vl.lstA κ d x.records (L.take (m+1))))):=Lib.hid (by
      have h:=HGM.out.set_ j (.int .i64 d)
      rw [iArr_set,Vl.lstA_set hjl] at h
      rw [List.take_succ_eq_append_getElem hmL,Hj.out]
      exact h)
     have HN3:=Lib.hid (ERow.set_lo2 (k:=j) (u:=.int .i64 d) HNM.out hgoU (fun _ _ h=>h))
     have HL3:Hid (Chk.Lx w (Z.setCell ⟨go,j,none⟩ (.int .i64 d)) #[.string x.name,.slice A1 n1 c1,.slice A2 n2 c2,.slice A3 n3 c3]):=Lib.hid ⟨HLM.out.bel.setCell (p:=⟨go,j,none⟩) (by show w.heap.size≤go;omega) _,HLM.out.box.far (by simp;omega) _⟩
     clear hc Hj
     go_wp2_with fail
     go_roundw
     case rel=>exact ⟨m+1,by omega,by go_num,HG3,HN3,HL3⟩
     case measure=>simp [intOf];omega
   have hka:k<x.records.length:=by rw [←HN.out];exact hkl
   have ik1:(k:Int)<(n1:Int):=by omega
   have HNX:=Lib.hid (Vl.nowF_next κ d x.records hka)
   obtain ⟨g,off,cs,rfl,-,⟨u,he,HU⟩,hc⟩:=ERow.get H1.out hka (by omega)
   have HMm:=Lib.hid (List.getElem_mem hka)
   obtain ⟨r,Hr⟩:∃ r,Hid (x.records[k]=r):=⟨_,Lib.hid rfl⟩
   rw [Hr.out] at he HU HMm HNX
   obtain ⟨rn,rc,rf⟩:=r
   subst he
   simp only at HU hc
   have HFL:=Lib.hid (Vl.fine_flds HR.out HF.out HMm.out)
   have hgk:=HGW.out.cell k
   rw [iArr_get (by rw [List.length_map];exact hka),List.getElem_map,Hr.out] at hgk
   simp only at hgk
   obtain ⟨A5,n5,c5,rfl⟩:=ERow.is HU
   have HN5:Hid (n5=rf.length):=Lib.hid (by obtain ⟨_,_,e,_⟩:=ERow.slice HU;injection e)
   have hm5:n5≤1000:=by rw [HN5.out];have:=(HF.out.re _ HMm.out).2.1;simp only at this;omega
   have HU2:=Lib.hid HU
   have a0:=hc 0 _ rfl
   have a1:=hc 1 _ rfl
   have a2:=hc 2 _ rfl
   simp only [Nat.add_zero] at a0
   have hgl:g<w.heap.size:=World.block_lt_of_cell? w _ a0
   have a0:=(HLW.out.bel.cell hgl).trans a0
   have a1:=(HLW.out.bel.cell hgl).trans a1
   have a2:=(HLW.out.bel.cell hgl).trans a2
   obtain ⟨⟨q0,q1,q2,q3⟩,-⟩:=HLW.out.box.k4
   clear hc HU
   go_upto_region 10 with (fail)
   refine wp_named (fun V1 hV=>?_)
   obtain ⟨hb1,hq1,-⟩:=fresh_box hV
   clear hV
   have HL1:=Lib.hid (HLW.out.below hb1)
   have HQ1:=Lib.hid hq1
   have HG1:=Lib.hid (HGW.out.below hb1 HGW.out.lt)
   have HNW1:=Lib.hid (ERow.below HNW.out hb1 (fun _ _ h=>h))
   have HBU1:=Lib.hid (HBU.out.trans (hb1.mono HBU.out.size))
   have hgk:=(hb1.cell HGW.out.lt).trans hgk
   have HGKC:=Lib.hid hgk
   clear hb1 hq1 a0 a1 a2 q0 q1 q2 q3 HLW HGW HNW HBU hgk
   obtain ⟨SA,HSA⟩:∃ b,Hid (rf.any (Vl.okD κ d)=b):=⟨_,Lib.hid rfl⟩
   obtain ⟨SB,HSB⟩:∃ b,Hid (rf.all (Vl.okD κ d)=b):=⟨_,Lib.hid rfl⟩
   go_wp2_with fail
   go_loopw [10,8,9] (fun i s8 s9 wr=>∃ (m:Nat) (bA bB:Bool),m≤n5∧i=.int .i64 m∧s8=.bool bA∧s9=.bool bB∧Hid ((bA||(rf.drop m).any (Vl.okD κ d))=SA)∧Hid ((bB&&(rf.drop m).all (Vl.okD κ d))=SB)∧Hid (Below V1.heap.size V1 wr)) (fun i _ _ _=>n5 - (intOf i).toNat)
   case atStart=>exact ⟨0,false,true,by omega,rfl,rfl,rfl,Lib.hid (by rw [List.drop_zero,Bool.false_or];exact HSA.out),Lib.hid (by rw [List.drop_zero,Bool.true_and];exact HSB.out),Lib.hid (Below.refl _ _)⟩
   case round =>
    obtain ⟨m,bA,bB,hm,rfl,rfl,rfl,HIA,HIB,HB⟩:=hrel
    obtain ⟨Z,rfl⟩:∃ w',w'=wr:=⟨_,rfl⟩
    have im0:(0:Int)≤(m:Int):=by omega
    have HQZ:=Lib.hid (HQ1.out.below HB.out HQ1.out.lt)
    obtain ⟨⟨b0,b1,b2⟩,-⟩:=HQZ.out.k3
    by_cases hml:m<n5
    case neg =>
     have hA:bA=SA:=by have h:=HIA.out;rw [List.drop_of_length_le (by have:=HN5.out;omega)] at h;simpa using h
     have hBB:bB=SB:=by have h:=HIB.out;rw [List.drop_of_length_le (by have:=HN5.out;omega)] at h;simpa using h
     subst hA hBB
     have HLZ:=Lib.hid (HL1.out.below HB.out)
     have HGZ:=Lib.hid (HG1.out.below HB.out HG1.out.lt)
     have HNZ:=Lib.hid (ERow.below HNW1.out HB.out (fun _ _ h=>h))
     have HBZ:=Lib.hid (HBU1.out.trans (HB.out.mono HBU1.out.size))
     have hgk:=(HB.out.cell HG1.out.lt).trans HGKC.out
     obtain ⟨κr,Hκr⟩:∃ z,Hid (κ rn=z):=⟨_,Lib.hid rfl⟩
     rw [Hκr.out] at hgk
     have hRN:Vl.rndD κ d ⟨rn,rc,rf⟩=(κr==0&&(if rc then bA else bB)):=by unfold Vl.rndD;simp only;rw [Hκr.out,HSA.out,HSB.out]
     have HRN:=Lib.hid hRN
     have HUZ:Hid (U.heap.size≤Z.heap.size):=Lib.hid HBZ.out.size
     clear hRN HIA HIB
     have skip:Vl.rndD κ d ⟨rn,rc,rf⟩=false→Hid (ERow Z (some U.heap.size) 3 1 IntE (.slice A9 n9 c9) (Vl.nowF κ d x.records (k+1))):=fun h=>Lib.hid (by rw [HNX.out,h];exact HNZ.out)
     have HSK:=Lib.hid skip
     clear skip
     by_cases hz:κr=0
     case neg =>
      have tz:((κr:Int)==0)=false:=beq_eq_false_iff_ne.2 (by omega)
      have tz2:¬(κr:Int)=0:=by omega
      have HS:=HSK.out (by rw [HRN.out,beq_eq_false_iff_ne.2 hz];rfl)
      go_wp2_with fail
      go_roundw
      case rel=>exact ⟨k+1,_,by omega,by go_num,rfl,HS,HBZ⟩
      case measure=>simp [intOf];omega
     subst hz
     try simp only [Int.cast_ofNat_Int] at hgk
     have no:(if rc then bA else bB)=false→Hid (ERow Z (some U.heap.size) 3 1 IntE (.slice A9 n9 c9) (Vl.nowF κ d x.records (k+1))):=fun h=>HSK.out (by rw [HRN.out,h];rfl)
     have HNO:=Lib.hid no
     have yes:(if rc then bA else bB)=true→Hid (Vl.nowF κ d x.records (k+1)=Vl.nowF κ d x.records k++[k]):=fun h=>Lib.hid (by rw [HNX.out,if_pos (by rw [HRN.out,h];rfl)])
     have HYS:=Lib.hid yes
     clear no yes
     have HKL:Hid ((Vl.nowF κ d x.records k).length≤1000):=Lib.hid (Nat.le_trans (Vl.nowF_len _ _ _ _) (by omega))
     cases rc <;> cases bA <;> cases bB
     all_goals first
      | (
        have HS:=HNO.out rfl
        go_wp2_with fail
        go_roundw
        case rel=>exact ⟨k+1,_,by omega,by go_num,rfl,HS,HBZ⟩
        case measure=>simp [intOf];omega)
      | (
        have HS:=HYS.out rfl
        go_wp2_with (at_builtin;go_must (refine wpList_append_el rfl _ _ _ rfl U.heap.size 3 _ 1 8 Tryz.underlying127 info_ints rfl (by decide) IntE (.slice A9 n9 c9) (Vl.nowF κ d x.records k) rfl HNZ.out [.int .i64 k] rfl _ rfl (by first | rfl | simp) (by simp [Value.oneCell']) (by simp only [maxLen];have:=HKL.out;omega) (by have:=HKL.out;omega) HUZ.out ?_);intro v9 X hr9 hb9 ho9;have HR9:=Lib.hid (hr9 k (fun _ _ h=>h) rfl);have HB9:=Lib.hid (HBZ.out.trans hb9);clear hr9 hb9 ho9)
        go_roundw
        case rel=>exact ⟨k+1,v9,by omega,by go_num,rfl,Lib.hid (by rw [HS.out];exact HR9.out),HB9⟩
        case measure=>simp [intOf];omega)
    have hmf:m<rf.length:=by rw [←HN5.out];exact hml
    have im1:(m:Int)<(n5:Int):=by omega
    obtain ⟨g2,off2,cs,rfl,-,⟨u,he,HUU⟩,hc⟩:=ERow.get HU2.out hmf (by omega)
    have HZF:=Lib.hid (HFL.out _ (List.getElem_mem hmf))
    obtain ⟨f,Hf⟩:∃ f,Hid (rf[m]=f):=⟨_,Lib.hid rfl⟩
    have hIA:=HIA.out
    have hIB:=HIB.out
    rw [List.drop_eq_getElem_cons hmf,Hf.out,List.any_cons] at hIA
    rw [List.drop_eq_getElem_cons hmf,Hf.out,List.all_cons] at hIB
    rw [Hf.out] at he HUU HZF
    obtain ⟨yn,yt⟩:=f
    subst he
    simp only at HUU hc HZF
    obtain ⟨A7,n7,c7,rfl⟩:=ERow.is HUU
    have HT:=Lib.hid HUU
    have e1:=hc 1 _ rfl
    have hg2:g2<w.heap.size:=World.block_lt_of_cell? w _ e1
    have HLZ:=Lib.hid (HL1.out.below HB.out)
    have HGZ:=Lib.hid (HG1.out.below HB.out HG1.out.lt)
    have e1:=(HLZ.out.bel.cell hg2).trans e1
    have hg2Z:g2<Z.heap.size:=Nat.lt_of_lt_of_le hg2 HLZ.out.bel.size
    obtain ⟨z,Hz⟩:∃ z,Hid (Vl.dpt κ yt=z):=⟨_,Lib.hid rfl⟩
    obtain ⟨O,HO⟩:∃ o,Hid (Vl.okD κ d ⟨yn,yt⟩=o):=⟨_,Lib.hid rfl⟩
    have HOZ:Hid (O=(decide (0<z)&&decide (z<d))):=Lib.hid (by rw [←HO.out];unfold Vl.okD;simp only;rw [Hz.out])
    rw [HO.out] at hIA hIB
    have HIA2:Hid (((bA||O)||(rf.drop (m+1)).any (Vl.okD κ d))=SA):=Lib.hid (by rw [Bool.or_assoc];exact hIA)
    have HIB2:Hid (((bB&&O)&&(rf.drop (m+1)).all (Vl.okD κ d))=SB):=Lib.hid (by rw [Bool.and_assoc];exact hIB)
    clear hc HUU hIA hIB Hf
    have dS:∀ w',Bl Z w'→Bk w' w.heap.size 28 #[.string x.name,.slice (some ⟨g,off,none⟩) n1 c1,.slice A2 n2 c2,.slice A3 n3 c3]:=fun w' hb=>HLZ.out.box.below hb HLZ.out.box.lt
    have dF:∀ w',Bl Z w'→w'.cell? ⟨W.heap.size,2,none⟩=some (.slice (some ⟨g2,off2,none⟩) n5 c5):=fun w' hb=>(Bk.k3 (HQZ.out.below hb HQZ.out.lt)).1.2.2
    have dT:∀ w',Bl Z w'→w'.cell? ⟨g2,off2+m * 2+1,none⟩=some (.slice A7 n7 c7):=fun w' hb=>(hb.cell hg2Z).trans e1
    have hcall:∀ X,Bl Z X→Calls Tryz.prog 70 #[.agg #[.string x.name,.slice (some ⟨g,off,none⟩) n1 c1,.slice A2 n2 c2,.slice A3 n3 c3],.slice A7 n7 c7,.slice (some ⟨go,0,none⟩) n1 n1] X fun e w'=>e=.returned (.int .i64 z)∧Bl Z w':=fun X hX=>by
     refine calls_bl hX ?_
     have h:=rdepth_any _ x HF.out κ HZK.out _ yt HZF.out.1 go n1 n1 X (Id.SchV.below hX (Id.SchV.below HLZ.out.bel HV.out)) (ERow.below (ERow.below HT.out HLZ.out.bel (fun _ _ h=>h)) hX (fun _ _ h=>h)) HN.out (HGZ.out.below hX HGZ.out.lt)
     rw [Hz.out] at h
     exact h
    have HC:=Lib.hid hcall
    clear hcall e1
    go_wp2_with fail
    clear b0 b1 b2
    refine wp_region_bl Z (by kernel_rfl) (by kernel_rfl) (Bl.refl _) ?_
    repeat (first | go_big_quiet_step ((intro hb;exact HC.out _ hb)) | (refine wpQuiet_step (fun K hK=>?_);rw [if_pos (by rfl)];refine quiet_load_row _ _ rfl _ rfl _ _ _ (by assumption) Tryz.underlying28 rfl (by kernel_rfl) ?_;go_simp;refine hK _ ?_;clear hK K) | (refine wpQuiet_step (fun K hK=>?_);rw [if_pos (by rfl)];refine Lst.load_cell _ _ rfl _ rfl _ (by assumption) _ Tryz.underlying40 rfl ?_;go_simp;refine hK _ ?_;clear hK K) | (refine wpQuiet_step (fun K hK=>?_);rw [if_pos (by rfl)];refine Lst.load_cell _ _ rfl _ rfl _ (by assumption) _ Tryz.underlying45 rfl ?_;go_simp;refine hK _ ?_;clear hK K) | (refine wpQuiet_step (fun K hK=>?_);go_simp;refine ⟨_,fun _ _=>rfl,hK _ ?_⟩;clear hK K))
    refine wpQuiet_nil ?_
    intro Z2 hz2
    clear dS dF dT
    have HB2:=Lib.hid (HB.out.trans (hz2.mono HB.out.size))
    by_cases hz0:0<z
    case neg =>
     have tz:¬(0:Int)<(z:Int):=by omega
     have hO:O=false:=by rw [HOZ.out,decide_eq_false hz0];rfl
     subst hO
     cases bA <;> cases bB
     all_goals
      go_wp2_with fail
      go_roundw
      case rel=>exact ⟨m+1,_,_,by omega,by go_num,rfl,rfl,HIA2,HIB2,HB2⟩
      case measure=>simp [intOf];omega
    have tz:(0:Int)<(z:Int):=by omega
    by_cases hzd:z<d
    ·have tzd:(z:Int)<(d:Int):=by omega
     have hO:O=true:=by rw [HOZ.out,decide_eq_true hz0,decide_eq_true hzd];rfl
     subst hO
     cases bA <;> cases bB
     all_goals
      go_wp2_with fail
      go_roundw
      case rel=>exact ⟨m+1,_,_,by omega,by go_num,rfl,rfl,HIA2,HIB2,HB2⟩
      case measure=>simp [intOf];omega
    ·have tzd:¬(z:Int)<(d:Int):=by omega
     have hO:O=false:=by rw [HOZ.out,decide_eq_false hzd,Bool.and_false]
     subst hO
     cases bA <;> cases bB
     all_goals
      go_wp2_with fail
      go_roundw
      case rel=>exact ⟨m+1,_,_,by omega,by go_num,rfl,rfl,HIA2,HIB2,HB2⟩
      case measure=>simp [intOf];omega
end Go.Proofs.YtjfdohhdkdjifaaGreatDoor
