/- redressref15.Types, Fits; a part of a row; slices.Clone of parts; Field of both (printed by gen_vals.py). No condition but the keywords' table and the ones the theorems state. -/
import Derived.Test.YtjfdohhdkdjifaaGreatDoorPE21
import Derived.Test.YtjfdohhdkdjifaaGreatDoorPE22
import Derived.Test.YtjfdohhdkdjifaaGreatDoorPE23
import Derived.Test.YtjfdohhdkdjifaaGreatDoorPE17
import Derived.Test.YtjfdohhdkdjifaaGreatDoorPE28
import Derived.Test.YtjfdohhdkdjifaaGreatDoorPE16
import Derived.Test.YtjfdohhdkdjifaaGreatDoorPE15
import Derived.Test.YtjfdohhdkdjifaaGreatDoorPE19
set_option linter.unusedVariables false
set_option linter.unusedSimpArgs false
namespace Go.Proofs.YtjfdohhdkdjifaaGreatDoor
open Go.RowKit Go.BigFrame
namespace Vl
open Go.Proofs.YtjfdohhdkdjifaaGreatDoor.Id Go.Proofs.YtjfdohhdkdjifaaGreatDoor.Chk
theorem NodE.one (w:World) (cs:List Value) (x:Node) (h:NodE w cs x):∀ u∈cs,u.oneCell'=true:=by
 unfold NodE Node.cells at h
 subst h
 simp [Value.oneCell']
theorem ValR.below {w w':World} {B:Option Nat} {v:Value} {l:List Node} (h:ValR w B v l) (hb:Below w.heap.size w w'):ValR w' B v l:=ERow.below h hb (fun _ _ h=>h)
theorem ValR.none {w:World} {b:Nat} {v:Value} {l:List Node} (h:ValR w (some b) v l):ValR w none v l:=ERow.mono h (fun _ _ hr=>hr.weak (fun b' e'=>by cases e')) (fun _ _ h=>h)
/-- A part of a row. -/
theorem _root_.Go.Proofs.YtjfdohhdkdjifaaGreatDoor.ERow.part {α:Type} {w:World} {t:TypeId} {size n c g off:Nat} {E:World→List Value→α→Prop} {l:List α} (h:ERow w none t size E (.slice (some ⟨g,off,none⟩) n c) l) {a b:Nat} (hab:a≤b) (hb:b≤n):ERow w none t size E (.slice (some ⟨g,off+a * size,none⟩) (b - a) (c - a)) ((l.take b).drop a):=by
 obtain ⟨css,h1,h2,h3,h4⟩:=h
 obtain ⟨hl,A,c',e,h5,h6,h7,h8⟩:=h3
 injection e with e1 e2 e3
 subst e1 e2 e3
 have hk:∀ cs∈(css.take b).drop a,cs.length=size:=fun cs hc=>h2 cs (List.mem_of_mem_take (List.mem_of_mem_drop hc))
 have hlen:((css.take b).drop a).length=b - a:=by rw [List.length_drop,List.length_take,h1];omega
 have hll:((l.take b).drop a).length=b - a:=by rw [List.length_drop,List.length_take];omega
 refine ⟨(css.take b).drop a,by rw [hlen,hll],hk,⟨by rw [flatten_len hk,hlen,hll],_,_,by rw [hll],by rw [hll];omega,by omega,(fun e=>by cases e),?_⟩,fun i p q=>?_⟩
 ·intro h0
  rw [flatten_len hk,hlen] at h0
  have hpos:0<l.length * size:=by
   rcases Nat.eq_zero_or_pos size with hz | hz
   ·rw [hz] at h0;omega
   ·refine Nat.mul_pos ?_ hz
    rcases Nat.eq_zero_or_pos (b - a) with hy | hy
    ·rw [hy] at h0;omega
    ·omega
  obtain ⟨g',off',e,hc⟩:=h8 (by rw [hl];exact hpos)
  injection e with e
  injection e with e1 e2
  subst e1 e2
  refine ⟨_,_,rfl,fun j u hu=>?_⟩
  have hj:j<((css.take b).drop a).flatten.length:=(List.getElem?_eq_some_iff.1 hu).1
  rw [flatten_len hk,hlen] at hj
  have hs:0<size:=by rcases Nat.eq_zero_or_pos size with hz | hz;rw [hz] at hj;omega;exact hz
  have hd:j / size<b - a:=(Nat.div_lt_iff_lt_mul hs).2 hj
  have hm:j % size<size:=Nat.mod_lt _ hs
  have hjd:j=j / size * size+j % size:=by have:=Nat.div_add_mod j size;rw [Nat.mul_comm] at this;omega
  have e3:=flatten_get hk (j:=j / size) (by rw [hlen];exact hd) (j % size) hm
  rw [←hjd,hu] at e3
  have e4:=flatten_get h2 (j:=a+j / size) (by rw [h1];omega) (j % size) hm
  have e5:((css.take b).drop a)[j / size]'(by rw [hlen];exact hd)=css[a+j / size]'(by rw [h1];omega):=by simp
  rw [e5,←e4] at e3
  have:=hc ((a+j / size) * size+j % size) u e3.symm
  rw [Nat.add_mul,Nat.add_assoc,←hjd,←Nat.add_assoc] at this
  exact this
 ·have e1:((css.take b).drop a)[i]=css[a+i]'(by rw [hlen] at p;omega):=by simp
  have e2:((l.take b).drop a)[i]=l[a+i]'(by rw [hll] at q;omega):=by simp
  rw [e1,e2]
  exact h4 _ _ _
theorem nmd_row (W:World) (rn:ByteArray):SortsR (W.alloc (.cells #[.int .u8 7,.string rn] 44)) none (.slice (some ⟨W.heap.size,0,none⟩) 1 1) (nmd rn):=by
 refine ⟨[[.int .u8 7,.string rn]],rfl,by simp,⟨rfl,_,_,rfl,Nat.le_refl _,by decide,(fun e=>by cases e),fun _=>⟨_,_,rfl,fun j u hu=>?_⟩⟩,fun i h h'=>?_⟩
 ·rw [Nat.zero_add,World.cell?_alloc_mark]
  simpa using hu
 ·obtain rfl:i=0:=by simpa using h
  rfl
end Vl
set_option maxRecDepth 100000 in
set_option maxHeartbeats 16000000 in
theorem rtypes_any (sv:Value) (x:Id.Sch) (hF:Chk.Fine x) (tv:Value) (t:List Id.Srt) (w:World) (hv:Id.SchV w none sv x) (ht:Id.SortsR w none tv t) :
  Calls Tryz.prog 68 #[sv,tv] w fun e w'=>e=.returned (.int .i64 (Vl.typE x t))∧Below w.heap.size w w':=by
 obtain ⟨R,HR⟩:∃ R,Hid (Vl.typE x t=R):=⟨_,Lib.hid rfl⟩
 rw [HR.out]
 unfold Vl.typE at HR
 have HF:=Lib.hid hF
 have HV:=Lib.hid hv
 have HS:=Lib.hid ht
 obtain ⟨A1,n1,c1,A2,n2,c2,A3,n3,c3,rfl,-,-,-⟩:=hv
 clear hF ht
 go_enter Tryz.func68,Tryz.ntmps68
 go_upto_region 1 with (fail)
 refine wp_named (fun V hV=>?_)
 have HL:=Lib.hid (Chk.Lx.start hV)
 clear hV
 obtain ⟨⟨q0,q1,q2,q3⟩,-⟩:=HL.out.box.k4
 go_wp2_with fail
 clear q0 q1 q2 q3
 have h1:=rcheck_any _ x HF.out _ (HV.out.below HL.out.bel)
 rw [Chk.doc_check] at h1
 unfold Chk.docV at h1
 refine h1.mono ?_
 rintro e W1 ⟨rfl,hb⟩
 have HL1:=Lib.hid (HL.out.below hb)
 clear hb h1 HL
 obtain ⟨⟨cw,ce⟩,HC⟩:∃ c,Hid (Chk.check x=c):=⟨_,Lib.hid rfl⟩
 rw [HC.out] at HR
 rw [HC.out]
 simp only at HR ⊢
 by_cases h0:ce=0
 case neg =>
  have HE:Hid (ce=R):=Lib.hid (by rw [←HR.out,if_pos h0])
  have t0:((ce:Int) != 0)=true:=by rw [bne_iff_ne];omega
  have t1:¬(ce:Int)=0:=by omega
  have t2:((ce:Int)==0)=false:=by rw [beq_eq_false_iff_ne];omega
  go_wp2_with fail
  go_ret
  exact ⟨by rw [←HE.out];rfl,HL1.out.bel⟩
 subst h0
 have HR2:Hid ((if Chk.right x t=true then 0 else 131)=R):=Lib.hid (by rw [←HR.out];simp only [ne_eq,not_true,if_false])
 clear HR HC
 simp only [Int.cast_ofNat_Int]
 obtain ⟨⟨q0,q1,q2,q3⟩,-⟩:=HL1.out.box.k4
 go_wp2_with fail
 clear q0 q1 q2 q3
 refine (rright_any _ x _ t _ (HV.out.below HL1.out.bel) (ERow.below HS.out HL1.out.bel (fun _ _ h=>h))).mono ?_
 rintro e W2 ⟨rfl,hb⟩
 have HL2:=Lib.hid (HL1.out.below hb)
 clear hb HL1
 cases hrt:Chk.right x t
 case false =>
  have HE:Hid (131=R):=Lib.hid (by rw [←HR2.out,hrt];rfl)
  go_wp2_with fail
  go_ret
  exact ⟨by rw [←HE.out];rfl,HL2.out.bel⟩
 case true =>
  have HE:Hid (0=R):=Lib.hid (by rw [←HR2.out,hrt];rfl)
  go_wp2_with fail
  go_ret
  exact ⟨by rw [←HE.out];rfl,HL2.out.bel⟩
set_option maxRecDepth 100000 in
set_option maxHeartbeats 16000000 in
theorem rfits_any (sv:Value) (x:Id.Sch) (hF:Chk.Fine x) (tv:Value) (t:List Id.Srt) (vs:Value) (v:List Vl.Node) (hl:v.length≤100000) (hz:∀ n∈v,n.text.size≤100000) (w:World) (hv:Id.SchV w none sv x) (ht:Id.SortsR w none tv t) (hvv:Vl.ValR w none vs v) :
  Calls Tryz.prog 72 #[sv,tv,vs] w fun e w'=>e=.returned (.int .i64 (Vl.fits x t v))∧Below w.heap.size w w':=by
 obtain ⟨R,HR⟩:∃ R,Hid (Vl.fits x t v=R):=⟨_,Lib.hid rfl⟩
 rw [HR.out]
 have HF:=Lib.hid hF
 have HV:=Lib.hid hv
 have HS:=Lib.hid ht
 have HVV:=Lib.hid hvv
 have HZ:=Lib.hid hz
 obtain ⟨A,n,c,rfl⟩:=ERow.is hvv
 have HN:Hid (n=v.length):=Lib.hid (by obtain ⟨_,_,e,_⟩:=ERow.slice hvv;injection e)
 have hn:n≤100000:=by rw [HN.out];exact hl
 obtain ⟨A1,n1,c1,A2,n2,c2,A3,n3,c3,rfl,-,-,-⟩:=hv
 clear hF ht hvv hz
 go_enter Tryz.func72,Tryz.ntmps72
 go_upto_region 1 with (fail)
 refine wp_named (fun V hV=>?_)
 have HL:=Lib.hid (Chk.Lx.start hV)
 clear hV
 obtain ⟨⟨q0,q1,q2,q3⟩,-⟩:=HL.out.box.k4
 go_wp2_with fail
 clear q0 q1 q2 q3
 refine (rtypes_any _ x HF.out _ t _ (HV.out.below HL.out.bel) (ERow.below HS.out HL.out.bel (fun _ _ h=>h))).mono ?_
 rintro e W1 ⟨rfl,hb⟩
 have HL1:=Lib.hid (HL.out.below hb)
 clear hb HL
 obtain ⟨ce,HC⟩:∃ c,Hid (Vl.typE x t=c):=⟨_,Lib.hid rfl⟩
 rw [HC.out]
 by_cases h0:ce=0
 case neg =>
  have HE:Hid (ce=R):=Lib.hid (by rw [←HR.out,Vl.fits_typ (by rw [HC.out];exact h0),HC.out])
  have t0:((ce:Int) != 0)=true:=by rw [bne_iff_ne];omega
  have t1:¬(ce:Int)=0:=by omega
  have t2:((ce:Int)==0)=false:=by rw [beq_eq_false_iff_ne];omega
  go_wp2_with fail
  go_ret
  exact ⟨by rw [←HE.out];rfl,HL1.out.bel⟩
 subst h0
 have HRT:=Lib.hid (Vl.typ_ok HC.out)
 have HR2:Hid (Vl.fitsV v (Vl.ofF x none (v.length+1) t v)=R):=Lib.hid (by rw [←HR.out,Vl.fits_ofV HC.out])
 clear HR HC
 simp only [Int.cast_ofNat_Int]
 obtain ⟨⟨q0,q1,q2,q3⟩,-⟩:=HL1.out.box.k4
 go_wp2_with fail
 clear q0 q1 q2 q3
 have h2:=rof_any x v _ _ hl HRT.out.1 (v.length+1) _ t 0 W1 (HV.out.below HL1.out.bel) (Vl.ValR.below HVV.out HL1.out.bel) (ERow.below HS.out HL1.out.bel (fun _ _ h=>h)) (Vl.right_okT HRT.out.2).1 (Vl.right_okT HRT.out.2).2 (Nat.zero_le _) (by omega)
 rw [List.drop_zero,Vl.of_lim _ _ _ (Nat.le_refl _)] at h2
 refine h2.mono ?_
 rintro e W2 ⟨rfl,hb⟩
 have HL2:=Lib.hid (HL1.out.below hb)
 clear hb h2 HL1
 cases hq:Vl.ofF x none (v.length+1) t v with
 | none =>
  have HE:Hid (150=R):=Lib.hid (by rw [←HR2.out,hq];rfl)
  rw [Vl.docV_none]
  simp only [Int.cast_ofNat_Int]
  have t0:((-1:Int) != (n:Int))=true:=by rw [bne_iff_ne];omega
  have t1:¬(-1:Int)=(n:Int):=by omega
  go_wp2_with fail
  go_ret
  exact ⟨by rw [←HE.out];rfl,HL2.out.bel⟩
 | some p =>
  obtain ⟨e,r⟩:=p
  have hln:=Vl.of_len (N:=v.length) _ _ _ _ _ (Nat.le_refl _) hq
  have hdp:=Vl.of_deep _ _ _ _ _ hq
  obtain ⟨-,hr0⟩:=Vl.endL_len hln.2.2
  obtain ⟨p2,hp2⟩:∃ p2,p2=v.length - r.length:=⟨_,rfl⟩
  rw [←hp2] at hr0
  have hp3:p2≤v.length:=by omega
  rw [Vl.docV_some (a:=p2) hp3 hr0]
  have hrl:r.length=n - p2:=by rw [HN.out];omega
  have hp4:p2≤n:=by rw [HN.out];exact hp3
  have he2:e≤100000:=by omega
  have HX0:Hid ((if n - p2≠0 then 150 else if 12<e then 151 else if 4096<Vl.size v then 3 else 0)=R):=Lib.hid (by rw [←HR2.out,hq];unfold Vl.fitsV;simp only;rw [hrl])
  clear HR2 hq hln hdp hr0 hp2 hrl
  simp only
  by_cases h1:p2=n
  case neg =>
   have HE:Hid (150=R):=Lib.hid (by rw [←HX0.out,if_pos (by omega)])
   have t0:((p2:Int) != (n:Int))=true:=by rw [bne_iff_ne];omega
   have t1:¬(p2:Int)=(n:Int):=by omega
   go_wp2_with fail
   go_ret
   exact ⟨by rw [←HE.out];rfl,HL2.out.bel⟩
  subst h1
  have t0:((p2:Int) != (p2:Int))=false:=by simp
  have HX1:Hid ((if 12<e then 151 else if 4096<Vl.size v then 3 else 0)=R):=Lib.hid (by have h:=HX0.out;rw [if_neg (by omega)] at h;exact h)
  clear HX0
  by_cases h2:12<e
  case pos =>
   have HE:Hid (151=R):=Lib.hid (by rw [←HX1.out,if_pos h2])
   have t1:(12:Int)<(e:Int):=by omega
   go_wp2_with fail
   go_ret
   exact ⟨by rw [←HE.out];rfl,HL2.out.bel⟩
  have HX:Hid ((if 4096<Vl.size v then 3 else 0)=R):=Lib.hid (by have h:=HX1.out;rw [if_neg h2] at h;exact h)
  clear HX1
  have t1:¬(12:Int)<(e:Int):=by omega
  go_wp2_with fail
  go_loopw [10,11] (fun sz i wr=>∃ (k z:Nat),k≤p2∧i=.int .i64 k∧sz=.int .i64 z∧z≤8192∧Hid (z=k+Vl.tsum (v.take k))∧W2=wr) (fun _ i _=>p2 - (intOf i).toNat)
  case atStart=>exact ⟨0,0,by omega,rfl,rfl,by omega,Lib.hid rfl,rfl⟩
  case round =>
   obtain ⟨k,z,hk,rfl,rfl,hz,HZK,rfl⟩:=hrel
   have ik0:(0:Int)≤(k:Int):=by omega
   by_cases hlt:k<p2
   case neg =>
    have HSZ:Hid (Vl.size v=z):=Lib.hid (by have h:=HZK.out;rw [List.take_of_length_le (by rw [←HN.out];omega)] at h;rw [Vl.size_eq,←HN.out,h];omega)
    by_cases hbig:4096<z
    case pos =>
     have HE:Hid (3=R):=Lib.hid (by rw [←HX.out,HSZ.out,if_pos hbig])
     have t2:(4096:Int)<(z:Int):=by omega
     go_wp2_with fail
     go_ret
     exact ⟨by rw [←HE.out];rfl,HL2.out.bel⟩
    have HE:Hid (0=R):=Lib.hid (by rw [←HX.out,HSZ.out,if_neg hbig])
    have t2:¬(4096:Int)<(z:Int):=by omega
    go_wp2_with fail
    go_ret
    exact ⟨by rw [←HE.out];rfl,HL2.out.bel⟩
   have hka:k<v.length:=by rw [←HN.out];exact hlt
   obtain ⟨g5,off,cs,rfl,-,e1,hc⟩:=ERow.get HVV.out hka (by omega)
   have hzk:=HZ.out _ (List.getElem_mem hka)
   have hts:=Vl.tsum_take hka
   have htl:=Vl.tsum_le v (k+1)
   obtain ⟨⟨nk,ni,nt,nd⟩,Hx⟩:∃ y,Hid (v[k]=y):=⟨_,Lib.hid rfl⟩
   rw [Hx.out] at e1 hzk hts
   unfold Vl.NodE Vl.Node.cells at e1
   subst e1
   simp only at hzk hts
   have HTS:=Lib.hid hts
   have a2:=hc 2 _ rfl
   have hgl:g5<w.heap.size:=World.block_lt_of_cell? w _ a2
   have a2:=(HL2.out.bel.cell hgl).trans a2
   have ik1:(k:Int)<(p2:Int):=by omega
   have hsz:k+1+Vl.tsum (v.take k)+nt.size≤Vl.size v:=by rw [Vl.size_eq,←HN.out];rw [hts] at htl;omega
   have hzz:=HZK.out
   clear hc Hx hts htl
   by_cases hbg:4096<nt.size∨4096<z+1
   case pos =>
    have HE:Hid (3=R):=Lib.hid (by rw [←HX.out,if_pos (by omega)])
    clear hzz hsz
    by_cases hb1:4096<nt.size
    case pos =>
     have t3:(4096:Int)<(nt.size:Int):=by omega
     go_wp2_with fail
     go_ret
     exact ⟨by rw [←HE.out];rfl,HL2.out.bel⟩
    have t3:¬(4096:Int)<(nt.size:Int):=by omega
    have t4:(4096:Int)<(z:Int)+1:=by omega
    go_wp2_with fail
    go_ret
    exact ⟨by rw [←HE.out];rfl,HL2.out.bel⟩
   have t3:¬(4096:Int)<(nt.size:Int):=by omega
   have t4:¬(4096:Int)<(z:Int)+1:=by omega
   have HZ2:Hid (z+1+nt.size=k+1+Vl.tsum (v.take (k+1))):=Lib.hid (by rw [HTS.out];omega)
   clear hzz hsz
   go_wp2_with fail
   go_roundw
   case rel=>exact ⟨k+1,z+1+nt.size,by omega,by go_num,by go_num,by omega,HZ2,by first | rfl | trivial⟩
   case measure=>simp [intOf];omega
end Go.Proofs.YtjfdohhdkdjifaaGreatDoor
set_option linter.unusedVariables false
set_option linter.unusedSimpArgs false
namespace Go.Proofs.YtjfdohhdkdjifaaGreatDoor
open Go.RowKit Go.BigFrame
namespace Vl
open Go.Proofs.YtjfdohhdkdjifaaGreatDoor.Id Go.Proofs.YtjfdohhdkdjifaaGreatDoor.Chk
def nodeEq (a b:Node):Bool:=a.kind==b.kind&&a.int==b.int&&a.text.toList==b.text.toList&&a.kids==b.kids
def sameF:List Node→List Node→Bool
 | [],[]=>true
 | x::a,y::b=>nodeEq x y&&sameF a b
 | _,_=>false
theorem nodeEq_iff {a b:Node}:nodeEq a b=true↔a=b:=by
 obtain ⟨a0,a1,a2,a3⟩:=a
 obtain ⟨b0,b1,b2,b3⟩:=b
 unfold nodeEq
 simp only [Bool.and_eq_true,beq_iff_eq,Node.mk.injEq]
 constructor
 ·rintro ⟨⟨⟨h1,h2⟩,h3⟩,h4⟩;exact ⟨h1,h2,Tk.text_eq h3,h4⟩
 ·rintro ⟨h1,h2,h3,h4⟩;exact ⟨⟨⟨h1,h2⟩,by rw [h3]⟩,h4⟩
theorem sameF_iff:∀ {a b:List Node},sameF a b=true↔a=b
 | [],[]=>by simp [sameF]
 | [],y::b=>by simp [sameF]
 | x::a,[]=>by simp [sameF]
 | x::a,y::b=>by unfold sameF;rw [Bool.and_eq_true,nodeEq_iff,sameF_iff,List.cons.injEq]
theorem sameF_len {a b:List Node} (h:a.length≠b.length):sameF a b=false:=by
 rw [Bool.eq_false_iff]
 intro h2
 exact h (by rw [sameF_iff.1 h2])
end Vl
set_option maxRecDepth 100000 in
set_option maxHeartbeats 16000000 in
theorem rsame15_any (va vb:Value) (a b:List Vl.Node) (w:World) (ha:Vl.ValR w none va a) (hb:Vl.ValR w none vb b) (hl:a.length≤100000) :
  Calls Tryz.prog 23 #[va,vb] w fun e w'=>e=.returned (.bool (Vl.sameF a b))∧Below w.heap.size w w':=by
 obtain ⟨R,HR⟩:∃ R,Hid (Vl.sameF a b=R):=⟨_,Lib.hid rfl⟩
 rw [HR.out]
 have HA:=Lib.hid ha
 have HB:=Lib.hid hb
 obtain ⟨A1,n1,c1,rfl⟩:=ERow.is ha
 obtain ⟨A2,n2,c2,rfl⟩:=ERow.is hb
 have HN1:Hid (n1=a.length):=Lib.hid (by obtain ⟨_,_,e,_⟩:=ERow.slice ha;injection e)
 have HN2:Hid (n2=b.length):=Lib.hid (by obtain ⟨_,_,e,_⟩:=ERow.slice hb;injection e)
 have hn:n1≤100000:=by rw [HN1.out];exact hl
 clear ha hb
 go_enter Tryz.func23,Tryz.ntmps23
 by_cases hlen:n1=n2
 case neg =>
  have HX:Hid (R=false):=Lib.hid (by rw [←HR.out];exact Vl.sameF_len (by rw [←HN1.out,←HN2.out];exact hlen))
  have t0:((n1:Int) != (n2:Int))=true:=by rw [bne_iff_ne];omega
  have t1:¬(n1:Int)=(n2:Int):=by omega
  go_wp2_with fail
  go_ret
  exact ⟨by rw [HX.out];rfl,Below.refl _ _⟩
 subst hlen
 have t0:((n1:Int) != (n1:Int))=false:=by simp
 go_wp2_with fail
 go_loopw [5] (fun i wr=>∃ (k:Nat),k≤n1∧i=.int .i64 k∧Hid (Vl.sameF (a.drop k) (b.drop k)=R)∧Hid (Below w.heap.size w wr)) (fun i _=>n1 - (intOf i).toNat)
 case atStart=>exact ⟨0,by omega,rfl,HR,Lib.hid (Below.refl _ _)⟩
 case round =>
  obtain ⟨k,hk,rfl,HK,HBL⟩:=hrel
  obtain ⟨U,rfl⟩:∃ w',w'=wr:=⟨_,rfl⟩
  have ik0:(0:Int)≤(k:Int):=by omega
  by_cases hlt:k<n1
  case neg =>
   have HX:Hid (R=true):=Lib.hid (by rw [←HK.out,List.drop_of_length_le (by rw [←HN1.out];omega),List.drop_of_length_le (by rw [←HN2.out];omega)];rfl)
   go_wp2_with fail
   go_ret
   exact ⟨by rw [HX.out];rfl,HBL.out⟩
  have hka:k<a.length:=by rw [←HN1.out];exact hlt
  have hkb:k<b.length:=by rw [←HN2.out];exact hlt
  have ik1:(k:Int)<(n1:Int):=by omega
  have hd:=HK.out
  rw [List.drop_eq_getElem_cons hka,List.drop_eq_getElem_cons hkb] at hd
  obtain ⟨ga,offa,csa,hAa,-,ea,hca⟩:=ERow.get HA.out hka (by omega)
  obtain ⟨⟨x0,x1,x2,x3⟩,Hxa⟩:∃ y,Hid (a[k]=y):=⟨_,Lib.hid rfl⟩
  rw [Hxa.out] at ea hd
  unfold Vl.NodE Vl.Node.cells at ea
  subst ea
  have a0:=hca 0 _ rfl
  have a1:=hca 1 _ rfl
  have a2:=hca 2 _ rfl
  have a3:=hca 3 _ rfl
  simp only [Nat.add_zero] at a0
  have hgla:ga<w.heap.size:=World.block_lt_of_cell? w _ a0
  have a0:=(HBL.out.cell hgla).trans a0
  have a1:=(HBL.out.cell hgla).trans a1
  have a2:=(HBL.out.cell hgla).trans a2
  have a3:=(HBL.out.cell hgla).trans a3
  subst hAa
  clear hca Hxa
  obtain ⟨gb,offb,csb,hAb,-,eb,hcb⟩:=ERow.get HB.out hkb (by omega)
  obtain ⟨⟨y0,y1,y2,y3⟩,Hxb⟩:∃ y,Hid (b[k]=y):=⟨_,Lib.hid rfl⟩
  rw [Hxb.out] at eb hd
  unfold Vl.NodE Vl.Node.cells at eb
  subst eb
  have b0:=hcb 0 _ rfl
  have b1:=hcb 1 _ rfl
  have b2:=hcb 2 _ rfl
  have b3:=hcb 3 _ rfl
  simp only [Nat.add_zero] at b0
  have hglb:gb<w.heap.size:=World.block_lt_of_cell? w _ b0
  have b0:=(HBL.out.cell hglb).trans b0
  have b1:=(HBL.out.cell hglb).trans b1
  have b2:=(HBL.out.cell hglb).trans b2
  have b3:=(HBL.out.cell hglb).trans b3
  subst hAb
  clear hcb Hxb
  unfold Vl.sameF Vl.nodeEq at hd
  simp only at hd
  have HD:=Lib.hid hd
  clear hd HK
  by_cases e0:x0=y0
  case neg =>
   have HX:Hid (R=false):=Lib.hid (by rw [←HD.out,show (x0==y0)=false from beq_eq_false_iff_ne.2 e0];rfl)
   have t1:((x0:Int)==(y0:Int))=false:=by rw [beq_eq_false_iff_ne];omega
   have t2:¬(x0:Int)=(y0:Int):=by omega
   go_wp2_with fail
   go_quiet (fail)
   go_wp2_with fail
   go_ret
   exact ⟨by rw [HX.out];rfl,below_drewN HBL.out _⟩
  subst e0
  by_cases e1:x1=y1
  case neg =>
   have HX:Hid (R=false):=Lib.hid (by rw [←HD.out,show (x1==y1)=false from beq_eq_false_iff_ne.2 e1,Bool.and_false];rfl)
   have t1:(x1==y1)=false:=beq_eq_false_iff_ne.2 e1
   go_wp2_with fail
   go_quiet (fail)
   go_wp2_with fail
   go_ret
   exact ⟨by rw [HX.out];rfl,below_drewN HBL.out _⟩
  subst e1
  cases e2:(x2.toList==y2.toList)
  case false =>
   have HX:Hid (R=false):=Lib.hid (by rw [←HD.out,e2,Bool.and_false];rfl)
   go_wp2_with fail
   go_quiet (fail)
   go_wp2_with fail
   go_ret
   exact ⟨by rw [HX.out];rfl,below_drewN HBL.out _⟩
  by_cases e3:x3=y3
  case neg =>
   have HX:Hid (R=false):=Lib.hid (by rw [←HD.out,show (x3==y3)=false from beq_eq_false_iff_ne.2 e3,Bool.and_false];rfl)
   have t1:(x3==y3)=false:=beq_eq_false_iff_ne.2 e3
   go_wp2_with fail
   go_quiet (fail)
   go_wp2_with fail
   go_ret
   exact ⟨by rw [HX.out];rfl,below_drewN HBL.out _⟩
  subst e3
  have HK2:Hid (Vl.sameF (a.drop (k+1)) (b.drop (k+1))=R):=Lib.hid (by rw [←HD.out,e2];simp)
  clear HD
  go_wp2_with fail
  go_quiet (fail)
  go_wp2_with fail
  go_roundw
  case rel=>exact ⟨k+1,by omega,by go_num,HK2,Lib.hid (below_drewN HBL.out _)⟩
  case measure=>simp [intOf];omega
end Go.Proofs.YtjfdohhdkdjifaaGreatDoor
set_option linter.unusedVariables false
set_option linter.unusedSimpArgs false
namespace Go.Proofs.YtjfdohhdkdjifaaGreatDoor
open Go.RowKit Go.BigFrame
namespace Prn
open Go.Proofs.YtjfdohhdkdjifaaGreatDoor.Id Go.Proofs.YtjfdohhdkdjifaaGreatDoor.Chk
end Prn
end Go.Proofs.YtjfdohhdkdjifaaGreatDoor
set_option linter.unusedVariables false
set_option linter.unusedSimpArgs false
namespace Go.Proofs.YtjfdohhdkdjifaaGreatDoor
open Go.RowKit Go.BigFrame
namespace Vl
open Go.Proofs.YtjfdohhdkdjifaaGreatDoor.Id Go.Proofs.YtjfdohhdkdjifaaGreatDoor.Chk
/-- A literal row. -/
theorem row_lit {α:Type} (W:World) (T:TypeId) (size:Nat) (E:World→List Value→α→Prop) (css:List (List Value)) (l:List α) (n:Nat) (cs:Array Value) (hn:l.length=n) (hc:css.flatten.toArray=cs) (h1:css.length=l.length) (h2:∀ cs∈css,cs.length=size) (hb:n≤1000000)
  (hE:∀ i (h:i<css.length) (h':i<l.length),E (W.alloc (.cells cs T)) css[i] l[i]):ERow (W.alloc (.cells cs T)) none T size E (.slice (some ⟨W.heap.size,0,none⟩) n n) l:=by
 subst hn hc
 refine ⟨css,h1,h2,⟨by rw [flatten_len h2,h1],_,_,rfl,Nat.le_refl _,by omega,(fun e=>by cases e),fun _=>⟨_,_,rfl,fun j u hu=>?_⟩⟩,hE⟩
 rw [Nat.zero_add,World.cell?_alloc_mark]
 simpa using hu
def wkO:ByteArray:=⟨#[79]⟩
def wkX:ByteArray:=⟨#[120]⟩
def wkV:List Node:=[⟨7,0,⟨#[]⟩,3⟩,⟨4,0,wkX,0⟩,⟨3,5,⟨#[]⟩,0⟩,⟨6,0,⟨#[]⟩,0⟩]
theorem wk_right:right shop (nmd wkO)=true:=by decide +kernel
structure FineV (x:Sch) (t:List Srt) (v:List Node):Prop where
 sch:FineG x
 tl:t.length≤300
 vl:v.length≤6000
 nm:∀ i (h:i<t.length),t[i].name.size≤200
 tx:∀ i (h:i<v.length),v[i].text.size≤6000
end Vl
set_option maxRecDepth 100000 in
set_option maxHeartbeats 16000000 in
theorem vgreat_any (sv:Value) (x:Id.Sch) (tv:Value) (t:List Id.Srt) (vs:Value) (v:List Vl.Node) (w:World) (hv:Id.SchV w none sv x) (ht:Id.SortsR w none tv t) (hvv:Vl.ValR w none vs v) :
  Calls Tryz.prog 11 #[sv,tv,vs] w (Chk.GreatP w (Vl.FineV x t v)):=by
 have HV:=Lib.hid hv
 have HS:=Lib.hid ht
 have HVV:=Lib.hid hvv
 obtain ⟨A,n,c,rfl⟩:=ERow.is ht
 obtain ⟨A9,n9,c9,rfl⟩:=ERow.is hvv
 have HN:Hid (n=t.length):=Lib.hid (by obtain ⟨_,_,e,_⟩:=ERow.slice ht;injection e)
 have HN9:Hid (n9=v.length):=Lib.hid (by obtain ⟨_,_,e,_⟩:=ERow.slice hvv;injection e)
 obtain ⟨A1,n1,c1,A2,n2,c2,A3,n3,c3,rfl,-,-,-⟩:=hv
 clear ht hvv
 go_enter Tryz.func11,Tryz.ntmps11
 go_upto_region 1 with (fail)
 refine wp_named (fun V hV=>?_)
 have HL:=Lib.hid (Chk.Lx.start hV)
 clear hV
 obtain ⟨⟨q0,q1,q2,q3⟩,-⟩:=HL.out.box.k4
 go_wp2_with fail
 clear q0 q1 q2 q3
 refine (cgreat_any _ x _ (HV.out.below HL.out.bel)).mono ?_
 rintro e W1 ⟨b,rfl,hb,hf⟩
 have HL1:=Lib.hid (HL.out.below hb)
 have HF:=Lib.hid hf
 clear hb hf HL
 cases b
 case true =>
  go_wp2_with fail
  go_ret
  exact ⟨true,rfl,HL1.out.bel,fun h=>by cases h⟩
 by_cases h1:n≤300
 case neg =>
  have t1:(300:Int)<(n:Int):=by omega
  go_wp2_with fail
  go_ret
  exact ⟨true,rfl,HL1.out.bel,fun h=>by cases h⟩
 have t1:¬(300:Int)<(n:Int):=by omega
 by_cases h2:n9≤6000
 case neg =>
  have t2:(6000:Int)<(n9:Int):=by omega
  go_wp2_with fail
  go_ret
  exact ⟨true,rfl,HL1.out.bel,fun h=>by cases h⟩
 have t2:¬(6000:Int)<(n9:Int):=by omega
 go_wp2_with fail
 go_loopw [7] (fun i wr=>∃ (k:Nat),k≤n∧i=.int .i64 k∧W1=wr∧Hid (∀ j,j<k→∀ h:j<t.length,t[j].name.size≤200)) (fun i _=>n - (intOf i).toNat)
 case atStart=>exact ⟨0,by omega,rfl,rfl,Lib.hid (fun j h=>absurd h (Nat.not_lt_zero _))⟩
 case round =>
  obtain ⟨k,hk,rfl,rfl,HK⟩:=hrel
  have ik0:(0:Int)≤(k:Int):=by omega
  by_cases hlt:k<n
  case neg =>
   have HNM:Hid (∀ i (h:i<t.length),t[i].name.size≤200):=Lib.hid (fun i h=>HK.out i (by have:=HN.out;omega) h)
   go_wp2_with fail
   go_loopw [8] (fun i wr=>∃ (k:Nat),k≤n9∧i=.int .i64 k∧W1=wr∧Hid (∀ j,j<k→∀ h:j<v.length,v[j].text.size≤6000)) (fun i _=>n9 - (intOf i).toNat)
   case atStart=>exact ⟨0,by omega,rfl,rfl,Lib.hid (fun j h=>absurd h (Nat.not_lt_zero _))⟩
   case round =>
    obtain ⟨m,hm,rfl,rfl,HM⟩:=hrel
    have im0:(0:Int)≤(m:Int):=by omega
    by_cases hmt:m<n9
    case neg =>
     go_wp2_with fail
     go_ret
     exact ⟨false,rfl,HL1.out.bel,fun _=>⟨HF.out (by trivial),by rw [←HN.out];exact h1,by rw [←HN9.out];exact h2,HNM.out,fun i h=>HM.out i (by have:=HN9.out;omega) h⟩⟩
    have hka:m<v.length:=by rw [←HN9.out];exact hmt
    have im1:(m:Int)<(n9:Int):=by omega
    obtain ⟨g,off,cs,hA,-,e1,hc⟩:=ERow.get HVV.out hka (by omega)
    obtain ⟨⟨y0,y1,y2,y3⟩,Hy⟩:∃ y,Hid (v[m]=y):=⟨_,Lib.hid rfl⟩
    rw [Hy.out] at e1
    unfold Vl.NodE Vl.Node.cells at e1
    subst e1
    have a2:=hc 2 _ rfl
    have a2:=(HL1.out.bel.cell (World.block_lt_of_cell? w _ a2)).trans a2
    subst hA
    clear hc
    by_cases h3:y2.size≤6000
    case neg =>
     have t3:(6000:Int)<(y2.size:Int):=by omega
     go_wp2_with fail
     go_ret
     exact ⟨true,rfl,HL1.out.bel,fun h=>by cases h⟩
    have t3:¬(6000:Int)<(y2.size:Int):=by omega
    have HM2:Hid (∀ j,j<m+1→∀ h:j<v.length,v[j].text.size≤6000):=Lib.hid (all_next (n:=0) (Q:=fun j=>∀ h:j<v.length,v[j].text.size≤6000) HM.out (fun h=>by rw [Hy.out];exact h3))
    go_wp2_with fail
    go_roundw
    case rel=>exact ⟨m+1,by omega,by go_num,by first | rfl | trivial,HM2⟩
    case measure=>simp [intOf];omega
  have hka:k<t.length:=by rw [←HN.out];exact hlt
  have ik1:(k:Int)<(n:Int):=by omega
  obtain ⟨g,off,cs,hA,-,e1,hc⟩:=ERow.get HS.out hka (by omega)
  obtain ⟨⟨y0,y1⟩,Hy⟩:∃ y,Hid (t[k]=y):=⟨_,Lib.hid rfl⟩
  rw [Hy.out] at e1
  unfold Id.SortE Id.Srt.cells at e1
  subst e1
  have a2:=hc 1 _ rfl
  have a2:=(HL1.out.bel.cell (World.block_lt_of_cell? w _ a2)).trans a2
  subst hA
  clear hc
  by_cases h3:y1.size≤200
  case neg =>
   have t3:(200:Int)<(y1.size:Int):=by omega
   go_wp2_with fail
   go_ret
   exact ⟨true,rfl,HL1.out.bel,fun h=>by cases h⟩
  have t3:¬(200:Int)<(y1.size:Int):=by omega
  have HK2:Hid (∀ j,j<k+1→∀ h:j<t.length,t[j].name.size≤200):=Lib.hid (all_next (n:=0) (Q:=fun j=>∀ h:j<t.length,t[j].name.size≤200) HK.out (fun h=>by rw [Hy.out];exact h3))
  go_wp2_with fail
  go_roundw
  case rel=>exact ⟨k+1,by omega,by go_num,by first | rfl | trivial,HK2⟩
  case measure=>simp [intOf];omega
end Go.Proofs.YtjfdohhdkdjifaaGreatDoor
