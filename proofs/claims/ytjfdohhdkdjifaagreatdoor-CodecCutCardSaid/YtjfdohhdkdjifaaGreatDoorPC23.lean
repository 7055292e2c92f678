/- values, plain: an order's account and amount, as the program and as the document tell them. No condition. -/
import Derived.Test.YtjfdohhdkdjifaaGreatDoorPC16
import Derived.Test.YtjfdohhdkdjifaaGreatDoorPC04
import Derived.Test.YtjfdohhdkdjifaaGreatDoorPC22
import Derived.Test.YtjfdohhdkdjifaaGreatDoorPC15
import Derived.Test.YtjfdohhdkdjifaaGreatDoorPC20
import Derived.Deep.RegionHeld3
import Derived.Deep.DrawnRows
import Derived.Lib.AppendStr
import Derived.Lib.BufferRead
set_option linter.unusedVariables false
set_option linter.unusedSimpArgs false
namespace Go.Proofs.YtjfdohhdkdjifaaGreatDoor
open Go.RowKit Go.BigFrame
namespace Vl
open Go.Proofs.YtjfdohhdkdjifaaGreatDoor.Id Go.Proofs.YtjfdohhdkdjifaaGreatDoor.Chk Go.Proofs.YtjfdohhdkdjifaaGreatDoor.Prn
end Vl
end Go.Proofs.YtjfdohhdkdjifaaGreatDoor
set_option linter.unusedVariables false
set_option linter.unusedSimpArgs false
namespace Go.Proofs.YtjfdohhdkdjifaaGreatDoor
open Go.RowKit Go.BigFrame
namespace Chk
open Go.Proofs.YtjfdohhdkdjifaaGreatDoor.Id
end Chk
end Go.Proofs.YtjfdohhdkdjifaaGreatDoor
set_option linter.unusedVariables false
set_option linter.unusedSimpArgs false
namespace Go.Proofs.YtjfdohhdkdjifaaGreatDoor
open Go.RowKit Go.BigFrame
end Go.Proofs.YtjfdohhdkdjifaaGreatDoor
set_option linter.unusedVariables false
set_option linter.unusedSimpArgs false
namespace Go.Proofs.YtjfdohhdkdjifaaGreatDoor
open Go.RowKit Go.BigFrame
namespace Chk
open Go.Proofs.YtjfdohhdkdjifaaGreatDoor.Id
def decls (x:Sch):List ByteArray:=(declsP x).map (·.1)
end Chk
end Go.Proofs.YtjfdohhdkdjifaaGreatDoor
set_option linter.unusedVariables false
set_option linter.unusedSimpArgs false
namespace Go.Proofs.YtjfdohhdkdjifaaGreatDoor
open Go.RowKit Go.BigFrame
end Go.Proofs.YtjfdohhdkdjifaaGreatDoor
set_option linter.unusedVariables false
set_option linter.unusedSimpArgs false
namespace Go.Proofs.YtjfdohhdkdjifaaGreatDoor
open Go.RowKit Go.BigFrame
end Go.Proofs.YtjfdohhdkdjifaaGreatDoor
set_option linter.unusedVariables false
set_option linter.unusedSimpArgs false
namespace Go.Proofs.YtjfdohhdkdjifaaGreatDoor
open Go.RowKit Go.BigFrame
end Go.Proofs.YtjfdohhdkdjifaaGreatDoor
set_option linter.unusedVariables false
set_option linter.unusedSimpArgs false
namespace Go.Proofs.YtjfdohhdkdjifaaGreatDoor
open Go.RowKit Go.BigFrame
namespace Chk
open Go.Proofs.YtjfdohhdkdjifaaGreatDoor.Id
end Chk
end Go.Proofs.YtjfdohhdkdjifaaGreatDoor
set_option linter.unusedVariables false
set_option linter.unusedSimpArgs false
namespace Go.Proofs.YtjfdohhdkdjifaaGreatDoor
open Go.RowKit Go.BigFrame
end Go.Proofs.YtjfdohhdkdjifaaGreatDoor
set_option linter.unusedVariables false
set_option linter.unusedSimpArgs false
namespace Go.Proofs.YtjfdohhdkdjifaaGreatDoor
open Go.RowKit Go.BigFrame
namespace Vl
open Go.Proofs.YtjfdohhdkdjifaaGreatDoor.Id Go.Proofs.YtjfdohhdkdjifaaGreatDoor.Chk
theorem NodE.one (w:World) (cs:List Value) (x:Node) (h:NodE w cs x):∀ u∈cs,u.oneCell'=true:=by
 unfold NodE Node.cells at h
 subst h
 simp [Value.oneCell']
theorem ValR.below {w w':World} {B:Option Nat} {v:Value} {l:List Node} (h:ValR w B v l) (hb:Below w.heap.size w w'):ValR w' B v l:=ERow.below h hb (fun _ _ h=>h)
theorem ValR.none {w:World} {b:Nat} {v:Value} {l:List Node} (h:ValR w (some b) v l):ValR w none v l:=ERow.mono h (fun _ _ hr=>hr.weak (fun b' e'=>by cases e')) (fun _ _ h=>h)
/-- A part of a row. -/
theorem _root_.Go.Proofs.YtjfdohhdkdjifaaGreatDoor.ERow.part {α:Type} {w:World} {t:TypeId} {size n c g off:Nat} {E:World→List Value→α→Prop} {l:List α} (h:ERow w none t size E (.slice (some ⟨g,off,none⟩) n c) l) {a b:Nat} (hab:a≤b) (hb:b≤n):ERow w none t size E (.slice (some ⟨g,off+a * size,none⟩) (b - a) (c - a)) ((l.take b).drop a):=by
 obtain ⟨css,h1,h2,h3,h4⟩:=h
 obtain ⟨hl,A,c',e,h5,h6,h7,h8⟩:=h3
 injection e with e1 e2 e3
 subst e1 e2 e3
 have hk:∀ cs∈(css.take b).drop a,cs.length=size:=fun cs hc=>h2 cs (List.mem_of_mem_take (List.mem_of_mem_drop hc))
 have hlen:((css.take b).drop a).length=b - a:=by rw [List.length_drop,List.length_take,h1];omega
 have hll:((l.take b).drop a).length=b - a:=by rw [List.length_drop,List.length_take];omega
 refine ⟨(css.take b).drop a,by rw [hlen,hll],hk,⟨by rw [flatten_len hk,hlen,hll],_,_,by rw [hll],by rw [hll];omega,by omega,(fun e=>by cases e),?_⟩,fun i p q=>?_⟩
 ·intro h0
  rw [flatten_len hk,hlen] at h0
  have hpos:0<l.length * size:=by
   rcases Nat.eq_zero_or_pos size with hz | hz
   ·rw [hz] at h0;omega
   ·refine Nat.mul_pos ?_ hz
    rcases Nat.eq_zero_or_pos (b - a) with hy | hy
    ·rw [hy] at h0;omega
    ·omega
  obtain ⟨g',off',e,hc⟩:=h8 (by rw [hl];exact hpos)
  injection e with e
  injection e with e1 e2
  subst e1 e2
  refine ⟨_,_,rfl,fun j u hu=>?_⟩
  have hj:j<((css.take b).drop a).flatten.length:=(List.getElem?_eq_some_iff.1 hu).1
  rw [flatten_len hk,hlen] at hj
  have hs:0<size:=by rcases Nat.eq_zero_or_pos size with hz | hz;rw [hz] at hj;omega;exact hz
  have hd:j / size<b - a:=(Nat.div_lt_iff_lt_mul hs).2 hj
  have hm:j % size<size:=Nat.mod_lt _ hs
  have hjd:j=j / size * size+j % size:=by have:=Nat.div_add_mod j size;rw [Nat.mul_comm] at this;omega
  have e3:=flatten_get hk (j:=j / size) (by rw [hlen];exact hd) (j % size) hm
  rw [←hjd,hu] at e3
  have e4:=flatten_get h2 (j:=a+j / size) (by rw [h1];omega) (j % size) hm
  have e5:((css.take b).drop a)[j / size]'(by rw [hlen];exact hd)=css[a+j / size]'(by rw [h1];omega):=by simp
  rw [e5,←e4] at e3
  have:=hc ((a+j / size) * size+j % size) u e3.symm
  rw [Nat.add_mul,Nat.add_assoc,←hjd,←Nat.add_assoc] at this
  exact this
 ·have e1:((css.take b).drop a)[i]=css[a+i]'(by rw [hlen] at p;omega):=by simp
  have e2:((l.take b).drop a)[i]=l[a+i]'(by rw [hll] at q;omega):=by simp
  rw [e1,e2]
  exact h4 _ _ _
theorem nmd_row (W:World) (rn:ByteArray):SortsR (W.alloc (.cells #[.int .u8 7,.string rn] 44)) none (.slice (some ⟨W.heap.size,0,none⟩) 1 1) (nmd rn):=by
 refine ⟨[[.int .u8 7,.string rn]],rfl,by simp,⟨rfl,_,_,rfl,Nat.le_refl _,by decide,(fun e=>by cases e),fun _=>⟨_,_,rfl,fun j u hu=>?_⟩⟩,fun i h h'=>?_⟩
 ·rw [Nat.zero_add,World.cell?_alloc_mark]
  simpa using hu
 ·obtain rfl:i=0:=by simpa using h
  rfl
end Vl
end Go.Proofs.YtjfdohhdkdjifaaGreatDoor
set_option linter.unusedVariables false
set_option linter.unusedSimpArgs false
namespace Go.Proofs.YtjfdohhdkdjifaaGreatDoor
open Go.RowKit Go.BigFrame
namespace Vl
open Go.Proofs.YtjfdohhdkdjifaaGreatDoor.Id Go.Proofs.YtjfdohhdkdjifaaGreatDoor.Chk
def nodeEq (a b:Node):Bool:=a.kind==b.kind&&a.int==b.int&&a.text.toList==b.text.toList&&a.kids==b.kids
def sameF:List Node→List Node→Bool
 | [],[]=>true
 | x::a,y::b=>nodeEq x y&&sameF a b
 | _,_=>false
theorem nodeEq_iff {a b:Node}:nodeEq a b=true↔a=b:=by
 obtain ⟨a0,a1,a2,a3⟩:=a
 obtain ⟨b0,b1,b2,b3⟩:=b
 unfold nodeEq
 simp only [Bool.and_eq_true,beq_iff_eq,Node.mk.injEq]
 constructor
 ·rintro ⟨⟨⟨h1,h2⟩,h3⟩,h4⟩;exact ⟨h1,h2,Tk.text_eq h3,h4⟩
 ·rintro ⟨h1,h2,h3,h4⟩;exact ⟨⟨⟨h1,h2⟩,by rw [h3]⟩,h4⟩
theorem sameF_iff:∀ {a b:List Node},sameF a b=true↔a=b
 | [],[]=>by simp [sameF]
 | [],y::b=>by simp [sameF]
 | x::a,[]=>by simp [sameF]
 | x::a,y::b=>by unfold sameF;rw [Bool.and_eq_true,nodeEq_iff,sameF_iff,List.cons.injEq]
theorem sameF_len {a b:List Node} (h:a.length≠b.length):sameF a b=false:=by
 rw [Bool.eq_false_iff]
 intro h2
 exact h (by rw [sameF_iff.1 h2])
end Vl
set_option maxRecDepth 100000 in
set_option maxHeartbeats 16000000 in
theorem rsame15_any (va vb:Value) (a b:List Vl.Node) (w:World) (ha:Vl.ValR w none va a) (hb:Vl.ValR w none vb b) (hl:a.length≤100000) :
  Calls Tryz.prog 23 #[va,vb] w fun e w'=>e=.returned (.bool (Vl.sameF a b))∧Below w.heap.size w w':=by
 obtain ⟨R,HR⟩:∃ R,Hid (Vl.sameF a b=R):=⟨_,Lib.hid rfl⟩
 rw [HR.out]
 have HA:=Lib.hid ha
 have HB:=Lib.hid hb
 obtain ⟨A1,n1,c1,rfl⟩:=ERow.is ha
 obtain ⟨A2,n2,c2,rfl⟩:=ERow.is hb
 have HN1:Hid (n1=a.length):=Lib.hid (by obtain ⟨_,_,e,_⟩:=ERow.slice ha;injection e)
 have HN2:Hid (n2=b.length):=Lib.hid (by obtain ⟨_,_,e,_⟩:=ERow.slice hb;injection e)
 have hn:n1≤100000:=by rw [HN1.out];exact hl
 clear ha hb
 go_enter Tryz.func23,Tryz.ntmps23
 by_cases hlen:n1=n2
 case neg =>
  have HX:Hid (R=false):=Lib.hid (by rw [←HR.out];exact Vl.sameF_len (by rw [←HN1.out,←HN2.out];exact hlen))
  have t0:((n1:Int) != (n2:Int))=true:=by rw [bne_iff_ne];omega
  have t1:¬(n1:Int)=(n2:Int):=by omega
  go_wp2_with fail
  go_ret
  exact ⟨by rw [HX.out];rfl,Below.refl _ _⟩
 subst hlen
 have t0:((n1:Int) != (n1:Int))=false:=by simp
 go_wp2_with fail
 go_loopw [5] (fun i wr=>∃ (k:Nat),k≤n1∧i=.int .i64 k∧Hid (Vl.sameF (a.drop k) (b.drop k)=R)∧Hid (Below w.heap.size w wr)) (fun i _=>n1 - (intOf i).toNat)
 case atStart=>exact ⟨0,by omega,rfl,HR,Lib.hid (Below.refl _ _)⟩
 case round =>
  obtain ⟨k,hk,rfl,HK,HBL⟩:=hrel
  obtain ⟨U,rfl⟩:∃ w',w'=wr:=⟨_,rfl⟩
  have ik0:(0:Int)≤(k:Int):=by omega
  by_cases hlt:k<n1
  case neg =>
   have HX:Hid (R=true):=Lib.hid (by rw [←HK.out,List.drop_of_length_le (by rw [←HN1.out];omega),List.drop_of_length_le (by rw [←HN2.out];omega)];rfl)
   go_wp2_with fail
   go_ret
   exact ⟨by rw [HX.out];rfl,HBL.out⟩
  have hka:k<a.length:=by rw [←HN1.out];exact hlt
  have hkb:k<b.length:=by rw [←HN2.out];exact hlt
  have ik1:(k:Int)<(n1:Int):=by omega
  have hd:=HK.out
  rw [List.drop_eq_getElem_cons hka,List.drop_eq_getElem_cons hkb] at hd
  obtain ⟨ga,offa,csa,hAa,-,ea,hca⟩:=ERow.get HA.out hka (by omega)
  obtain ⟨⟨x0,x1,x2,x3⟩,Hxa⟩:∃ y,Hid (a[k]=y):=⟨_,Lib.hid rfl⟩
  rw [Hxa.out] at ea hd
  unfold Vl.NodE Vl.Node.cells at ea
  subst ea
  have a0:=hca 0 _ rfl
  have a1:=hca 1 _ rfl
  have a2:=hca 2 _ rfl
  have a3:=hca 3 _ rfl
  simp only [Nat.add_zero] at a0
  have hgla:ga<w.heap.size:=World.block_lt_of_cell? w _ a0
  have a0:=(HBL.out.cell hgla).trans a0
  have a1:=(HBL.out.cell hgla).trans a1
  have a2:=(HBL.out.cell hgla).trans a2
  have a3:=(HBL.out.cell hgla).trans a3
  subst hAa
  clear hca Hxa
  obtain ⟨gb,offb,csb,hAb,-,eb,hcb⟩:=ERow.get HB.out hkb (by omega)
  obtain ⟨⟨y0,y1,y2,y3⟩,Hxb⟩:∃ y,Hid (b[k]=y):=⟨_,Lib.hid rfl⟩
  rw [Hxb.out] at eb hd
  unfold Vl.NodE Vl.Node.cells at eb
  subst eb
  have b0:=hcb 0 _ rfl
  have b1:=hcb 1 _ rfl
  have b2:=hcb 2 _ rfl
  have b3:=hcb 3 _ rfl
  simp only [Nat.add_zero] at b0
  have hglb:gb<w.heap.size:=World.block_lt_of_cell? w _ b0
  have b0:=(HBL.out.cell hglb).trans b0
  have b1:=(HBL.out.cell hglb).trans b1
  have b2:=(HBL.out.cell hglb).trans b2
  have b3:=(HBL.out.cell hglb).trans b3
  subst hAb
  clear hcb Hxb
  unfold Vl.sameF Vl.nodeEq at hd
  simp only at hd
  have HD:=Lib.hid hd
  clear hd HK
  by_cases e0:x0=y0
  case neg =>
   have HX:Hid (R=false):=Lib.hid (by rw [←HD.out,show (x0==y0)=false from beq_eq_false_iff_ne.2 e0];rfl)
   have t1:((x0:Int)==(y0:Int))=false:=by rw [beq_eq_false_iff_ne];omega
   have t2:¬(x0:Int)=(y0:Int):=by omega
   go_wp2_with fail
   go_quiet (fail)
   go_wp2_with fail
   go_ret
   exact ⟨by rw [HX.out];rfl,below_drewN HBL.out _⟩
  subst e0
  by_cases e1:x1=y1
  case neg =>
   have HX:Hid (R=false):=Lib.hid (by rw [←HD.out,show (x1==y1)=false from beq_eq_false_iff_ne.2 e1,Bool.and_false];rfl)
   have t1:(x1==y1)=false:=beq_eq_false_iff_ne.2 e1
   go_wp2_with fail
   go_quiet (fail)
   go_wp2_with fail
   go_ret
   exact ⟨by rw [HX.out];rfl,below_drewN HBL.out _⟩
  subst e1
  cases e2:(x2.toList==y2.toList)
  case false =>
   have HX:Hid (R=false):=Lib.hid (by rw [←HD.out,e2,Bool.and_false];rfl)
   go_wp2_with fail
   go_quiet (fail)
   go_wp2_with fail
   go_ret
   exact ⟨by rw [HX.out];rfl,below_drewN HBL.out _⟩
  by_cases e3:x3=y3
  case neg =>
   have HX:Hid (R=false):=Lib.hid (by rw [←HD.out,show (x3==y3)=false from beq_eq_false_iff_ne.2 e3,Bool.and_false];rfl)
   have t1:(x3==y3)=false:=beq_eq_false_iff_ne.2 e3
   go_wp2_with fail
   go_quiet (fail)
   go_wp2_with fail
   go_ret
   exact ⟨by rw [HX.out];rfl,below_drewN HBL.out _⟩
  subst e3
  have HK2:Hid (Vl.sameF (a.drop (k+1)) (b.drop (k+1))=R):=Lib.hid (by rw [←HD.out,e2];simp)
  clear HD
  go_wp2_with fail
  go_quiet (fail)
  go_wp2_with fail
  go_roundw
  case rel=>exact ⟨k+1,by omega,by go_num,HK2,Lib.hid (below_drewN HBL.out _)⟩
  case measure=>simp [intOf];omega
end Go.Proofs.YtjfdohhdkdjifaaGreatDoor
set_option linter.unusedVariables false
set_option linter.unusedSimpArgs false
namespace Go.Proofs.YtjfdohhdkdjifaaGreatDoor
open Go.RowKit Go.BigFrame
namespace Prn
open Go.Proofs.YtjfdohhdkdjifaaGreatDoor.Id Go.Proofs.YtjfdohhdkdjifaaGreatDoor.Chk
end Prn
end Go.Proofs.YtjfdohhdkdjifaaGreatDoor
set_option linter.unusedVariables false
set_option linter.unusedSimpArgs false
namespace Go.Proofs.YtjfdohhdkdjifaaGreatDoor
open Go.RowKit Go.BigFrame
namespace Vl
open Go.Proofs.YtjfdohhdkdjifaaGreatDoor.Id Go.Proofs.YtjfdohhdkdjifaaGreatDoor.Chk
/-- A literal row. -/
theorem row_lit {α:Type} (W:World) (T:TypeId) (size:Nat) (E:World→List Value→α→Prop) (css:List (List Value)) (l:List α) (n:Nat) (cs:Array Value) (hn:l.length=n) (hc:css.flatten.toArray=cs) (h1:css.length=l.length) (h2:∀ cs∈css,cs.length=size) (hb:n≤1000000)
  (hE:∀ i (h:i<css.length) (h':i<l.length),E (W.alloc (.cells cs T)) css[i] l[i]):ERow (W.alloc (.cells cs T)) none T size E (.slice (some ⟨W.heap.size,0,none⟩) n n) l:=by
 subst hn hc
 refine ⟨css,h1,h2,⟨by rw [flatten_len h2,h1],_,_,rfl,Nat.le_refl _,by omega,(fun e=>by cases e),fun _=>⟨_,_,rfl,fun j u hu=>?_⟩⟩,hE⟩
 rw [Nat.zero_add,World.cell?_alloc_mark]
 simpa using hu
def wkO:ByteArray:=⟨#[79]⟩
def wkX:ByteArray:=⟨#[120]⟩
def wkV:List Node:=[⟨7,0,⟨#[]⟩,3⟩,⟨4,0,wkX,0⟩,⟨3,5,⟨#[]⟩,0⟩,⟨6,0,⟨#[]⟩,0⟩]
theorem wk_right:right shop (nmd wkO)=true:=by decide +kernel
structure FineV (x:Sch) (t:List Srt) (v:List Node):Prop where
 sch:FineG x
 tl:t.length≤300
 vl:v.length≤6000
 nm:∀ i (h:i<t.length),t[i].name.size≤200
 tx:∀ i (h:i<v.length),v[i].text.size≤6000
end Vl
set_option maxRecDepth 100000 in
set_option maxHeartbeats 16000000 in
theorem vgreat_any (sv:Value) (x:Id.Sch) (tv:Value) (t:List Id.Srt) (vs:Value) (v:List Vl.Node) (w:World) (hv:Id.SchV w none sv x) (ht:Id.SortsR w none tv t) (hvv:Vl.ValR w none vs v) :
  Calls Tryz.prog 11 #[sv,tv,vs] w (Chk.GreatP w (Vl.FineV x t v)):=by
 have HV:=Lib.hid hv
 have HS:=Lib.hid ht
 have HVV:=Lib.hid hvv
 obtain ⟨A,n,c,rfl⟩:=ERow.is ht
 obtain ⟨A9,n9,c9,rfl⟩:=ERow.is hvv
 have HN:Hid (n=t.length):=Lib.hid (by obtain ⟨_,_,e,_⟩:=ERow.slice ht;injection e)
 have HN9:Hid (n9=v.length):=Lib.hid (by obtain ⟨_,_,e,_⟩:=ERow.slice hvv;injection e)
 obtain ⟨A1,n1,c1,A2,n2,c2,A3,n3,c3,rfl,-,-,-⟩:=hv
 clear ht hvv
 go_enter Tryz.func11,Tryz.ntmps11
 go_upto_region 1 with (fail)
 refine wp_named (fun V hV=>?_)
 have HL:=Lib.hid (Chk.Lx.start hV)
 clear hV
 obtain ⟨⟨q0,q1,q2,q3⟩,-⟩:=HL.out.box.k4
 go_wp2_with fail
 clear q0 q1 q2 q3
 refine (cgreat_any _ x _ (HV.out.below HL.out.bel)).mono ?_
 rintro e W1 ⟨b,rfl,hb,hf⟩
 have HL1:=Lib.hid (HL.out.below hb)
 have HF:=Lib.hid hf
 clear hb hf HL
 cases b
 case true =>
  go_wp2_with fail
  go_ret
  exact ⟨true,rfl,HL1.out.bel,fun h=>by cases h⟩
 by_cases h1:n≤300
 case neg =>
  have t1:(300:Int)<(n:Int):=by omega
  go_wp2_with fail
  go_ret
  exact ⟨true,rfl,HL1.out.bel,fun h=>by cases h⟩
 have t1:¬(300:Int)<(n:Int):=by omega
 by_cases h2:n9≤6000
 case neg =>
  have t2:(6000:Int)<(n9:Int):=by omega
  go_wp2_with fail
  go_ret
  exact ⟨true,rfl,HL1.out.bel,fun h=>by cases h⟩
 have t2:¬(6000:Int)<(n9:Int):=by omega
 go_wp2_with fail
 go_loopw [7] (fun i wr=>∃ (k:Nat),k≤n∧i=.int .i64 k∧W1=wr∧Hid (∀ j,j<k→∀ h:j<t.length,t[j].name.size≤200)) (fun i _=>n - (intOf i).toNat)
 case atStart=>exact ⟨0,by omega,rfl,rfl,Lib.hid (fun j h=>absurd h (Nat.not_lt_zero _))⟩
 case round =>
  obtain ⟨k,hk,rfl,rfl,HK⟩:=hrel
  have ik0:(0:Int)≤(k:Int):=by omega
  by_cases hlt:k<n
  case neg =>
   have HNM:Hid (∀ i (h:i<t.length),t[i].name.size≤200):=Lib.hid (fun i h=>HK.out i (by have:=HN.out;omega) h)
   go_wp2_with fail
   go_loopw [8] (fun i wr=>∃ (k:Nat),k≤n9∧i=.int .i64 k∧W1=wr∧Hid (∀ j,j<k→∀ h:j<v.length,v[j].text.size≤6000)) (fun i _=>n9 - (intOf i).toNat)
   case atStart=>exact ⟨0,by omega,rfl,rfl,Lib.hid (fun j h=>absurd h (Nat.not_lt_zero _))⟩
   case round =>
    obtain ⟨m,hm,rfl,rfl,HM⟩:=hrel
    have im0:(0:Int)≤(m:Int):=by omega
    by_cases hmt:m<n9
    case neg =>
     go_wp2_with fail
     go_ret
     exact ⟨false,rfl,HL1.out.bel,fun _=>⟨HF.out (by trivial),by rw [←HN.out];exact h1,by rw [←HN9.out];exact h2,HNM.out,fun i h=>HM.out i (by have:=HN9.out;omega) h⟩⟩
    have hka:m<v.length:=by rw [←HN9.out];exact hmt
    have im1:(m:Int)<(n9:Int):=by omega
    obtain ⟨g,off,cs,hA,-,e1,hc⟩:=ERow.get HVV.out hka (by omega)
    obtain ⟨⟨y0,y1,y2,y3⟩,Hy⟩:∃ y,Hid (v[m]=y):=⟨_,Lib.hid rfl⟩
    rw [Hy.out] at e1
    unfold Vl.NodE Vl.Node.cells at e1
    subst e1
    have a2:=hc 2 _ rfl
    have a2:=(HL1.out.bel.cell (World.block_lt_of_cell? w _ a2)).trans a2
    subst hA
    clear hc
    by_cases h3:y2.size≤6000
    case neg =>
     have t3:(6000:Int)<(y2.size:Int):=by omega
     go_wp2_with fail
     go_ret
     exact ⟨true,rfl,HL1.out.bel,fun h=>by cases h⟩
    have t3:¬(6000:Int)<(y2.size:Int):=by omega
    have HM2:Hid (∀ j,j<m+1→∀ h:j<v.length,v[j].text.size≤6000):=Lib.hid (all_next (n:=0) (Q:=fun j=>∀ h:j<v.length,v[j].text.size≤6000) HM.out (fun h=>by rw [Hy.out];exact h3))
    go_wp2_with fail
    go_roundw
    case rel=>exact ⟨m+1,by omega,by go_num,by first | rfl | trivial,HM2⟩
    case measure=>simp [intOf];omega
  have hka:k<t.length:=by rw [←HN.out];exact hlt
  have ik1:(k:Int)<(n:Int):=by omega
  obtain ⟨g,off,cs,hA,-,e1,hc⟩:=ERow.get HS.out hka (by omega)
  obtain ⟨⟨y0,y1⟩,Hy⟩:∃ y,Hid (t[k]=y):=⟨_,Lib.hid rfl⟩
  rw [Hy.out] at e1
  unfold Id.SortE Id.Srt.cells at e1
  subst e1
  have a2:=hc 1 _ rfl
  have a2:=(HL1.out.bel.cell (World.block_lt_of_cell? w _ a2)).trans a2
  subst hA
  clear hc
  by_cases h3:y1.size≤200
  case neg =>
   have t3:(200:Int)<(y1.size:Int):=by omega
   go_wp2_with fail
   go_ret
   exact ⟨true,rfl,HL1.out.bel,fun h=>by cases h⟩
  have t3:¬(200:Int)<(y1.size:Int):=by omega
  have HK2:Hid (∀ j,j<k+1→∀ h:j<t.length,t[j].name.size≤200):=Lib.hid (all_next (n:=0) (Q:=fun j=>∀ h:j<t.length,t[j].name.size≤200) HK.out (fun h=>by rw [Hy.out];exact h3))
  go_wp2_with fail
  go_roundw
  case rel=>exact ⟨k+1,by omega,by go_num,by first | rfl | trivial,HK2⟩
  case measure=>simp [intOf];omega
end Go.Proofs.YtjfdohhdkdjifaaGreatDoor
set_option linter.unusedVariables false
set_option linter.unusedSimpArgs false
namespace Go.Proofs.YtjfdohhdkdjifaaGreatDoor
open Go.RowKit Go.BigFrame
/-- A string put behind a row of bytes of the call's own, within a region that draws its order. -/
theorem step_append_string {P:Program} {ops:Array Oper} {o:Oper} {a:Act} {w:World} {K:Act→World→Prop} {Q:Exit→Act→World→Prop} {H:Prop} (hgd:o.guard=none) (sl x:Operand) (t u:TypeId)
  (ho:o.op=.call { callee:=.builtin .append,args:=#[sl,x],argTypes:=#[t,u] })
  (base:Nat) (e:TypeId) (i:TypeInfo) (ht:P.underlying t=some (.slice e)) (hu:P.underlying u=some .string) (hi:P.info? e=some i) (hz:i.zero=some (.int .u8 0))
  (hsize:i.size=1) (hby:i.bytes=1)
  (v:Value) (n:Nat) (xs:List Value) (hs:a.eval sl=v) (hown:w.ownsRow base e 1 v n xs) (s:ByteArray) (hx:a.eval x=.string s)
  (h63:n+s.size≤maxLen) (hbytes:n+s.size≤140737488355328) (hbase:base≤w.heap.size)
  (h:∀ v' w',w'.ownsRow base e 1 v' (n+s.size) (xs++Lib.strCells s)→Below base w w'→K (a.put o.dst v') w'):if Region.wanted o (yielded ops a.tmps)=true then Oper.wp P o a w K Q else H:=by
 have hw:Region.wanted o (yielded ops a.tmps)=true:=by simp [Region.wanted,hgd]
 rw [if_pos hw]
 obtain ⟨v',w',hr,h2,h3,h4⟩:=Lib.run_append_own_string (P:=P) w base t u o.type e i ht hu hi hz hsize hby v n xs hown s h63 hbytes hbase
 unfold Oper.wp execOp
 simp only [ho,resolve,invoke,builtin,Sem.run_bind,Sem.run_pure,Result.andThen_ok,List.map_toArray,List.map_cons,List.map_nil,hs,hx,hr]
 exact h v' w' h2 ((Below.refl base w).grown h3 hbase (fun k hk=>(hown.lt k hk).1))
theorem Ev.Bt.below {w w':World} {B:Nat} {v:Value} {xs:List UInt8} (h:Ev.Bt w B v xs) (hb:Below w.heap.size w w'):Ev.Bt w' B v xs:=(show RowR w' (some B) 5 1 v xs.length (xs.map Sm.byteV) from RowR.below (B:=some B) h hb)
theorem Ev.Bt.str {w:World} {B:Nat} {v:Value} {xs:List UInt8} (h:Ev.Bt w B v xs):Sem.run Tryz.prog (convert 99 9 v) w=.ok (.string ⟨xs.toArray⟩) w:=by
 rcases h.2 with ⟨rfl,hn⟩ | ⟨g,cap,cur,rfl,-,hg,-⟩
 ·have e:=List.eq_nil_of_length_eq_zero hn
  subst e
  exact Lib.run_convert_nil_bytes w _ _ _ 0 Tryz.underlying99 Tryz.underlying5 Tryz.underlying9
 ·have hcs:=h.own.cells (g:=g) rfl
  refine run_convert_bytes_back (P:=Tryz.prog) w 99 9 5 ⟨g,0,none⟩ cap xs Tryz.underlying99 Tryz.underlying5 Tryz.underlying9 ?_
  intro j hj
  refine hcs j _ ?_
  rw [List.getElem?_map,List.getElem?_eq_getElem hj]
  rfl
set_option maxRecDepth 100000 in
set_option maxHeartbeats 16000000 in
theorem cencode_any (sv:Value) (x:Id.Sch) (hF:Chk.Fine x) (tv:Value) (t:List Id.Srt) (vs:Value) (v:List Vl.Node) (hl:v.length≤100000) (hz:∀ n∈v,n.text.size≤100000) (hok:∀ n∈v,Cd.OkN n) (w:World) (hk:Tk.KW w) (hv:Id.SchV w none sv x) (ht:Id.SortsR w none tv t) (hvv:Vl.ValR w none vs v) :
  Calls Tryz.prog 17 #[sv,tv,vs] w fun e w'=>e=.returned (.tuple #[.string (Cd.encB (Vl.fits x t v) v),.int .i64 (Vl.fits x t v)])∧Below w.heap.size w w':=by
 obtain ⟨R,HR⟩:∃ R,Hid (Vl.fits x t v=R):=⟨_,Lib.hid rfl⟩
 rw [HR.out]
 have HF:=Lib.hid hF
 have HKW:=Lib.hid hk
 have HV:=Lib.hid hv
 have HS:=Lib.hid ht
 have HVV:=Lib.hid hvv
 have HZ:=Lib.hid hz
 have HL9:=Lib.hid hl
 have HOK:=Lib.hid hok
 obtain ⟨A,n,c,rfl⟩:=ERow.is ht
 obtain ⟨A9,n9,c9,rfl⟩:=ERow.is hvv
 have HN9:Hid (n9=v.length):=Lib.hid (by obtain ⟨_,_,e,_⟩:=ERow.slice hvv;injection e)
 obtain ⟨A1,n1,c1,A2,n2,c2,A3,n3,c3,rfl,-,-,-⟩:=hv
 clear hF hk ht hvv hz hl hok
 go_enter Tryz.func17,Tryz.ntmps17
 go_upto_region 1 with (fail)
 refine wp_named (fun V hV=>?_)
 have HL:=Lib.hid (Chk.Lx.start hV)
 clear hV
 obtain ⟨⟨q0,q1,q2,q3⟩,-⟩:=HL.out.box.k4
 go_wp2_with fail
 refine (vfits_any _ x HF.out _ t _ v HL9.out HZ.out _ (HKW.out.below HL.out.bel) (Id.SchV.below HL.out.bel HV.out) (ERow.below HS.out HL.out.bel (fun _ _ h=>h)) (Vl.ValR.below HVV.out HL.out.bel)).mono ?_
 rw [HR.out]
 rintro e U ⟨rfl,hb⟩
 have HB:=Lib.hid (HL.out.bel.trans (hb.mono HL.out.bel.size))
 clear hb HL q0 q1 q2 q3
 by_cases hR:R=0
 case neg =>
  have t1:((R:Int) != 0)=true:=by rw [bne_iff_ne];omega
  have t2:¬(R:Int)=0:=by omega
  have HX:Hid (Cd.encB R v=⟨#[]⟩):=Lib.hid (by unfold Cd.encB;rw [if_neg hR])
  go_wp2_with fail
  go_ret2
  exact ⟨by rw [HX.out];rfl,HB.out⟩
 subst hR
 have HX:Hid (Cd.encB 0 v=⟨(Cd.encGs v).toArray⟩):=Lib.hid (by unfold Cd.encB;rw [if_pos rfl])
 have HEL:Hid ((Cd.encGs v).length≤50000):=Lib.hid (by
  obtain ⟨_,_,_,_,_,h5⟩:=Vl.fits_ok HR.out
  have h6:=Cd.encGs_len v
  unfold Vl.size at h5
  unfold Vl.tsum at h6
  omega)
 try simp only [Int.cast_ofNat_Int]
 have hn9:n9≤100000:=by rw [HN9.out];exact HL9.out
 go_wp2_with fail
 go_loopw [21,9] (fun i sl wr=>∃ (k:Nat) (bv:Value),k≤n9∧i=.int .i64 k∧bv=sl∧Hid (Ev.Bt wr U.heap.size bv (Cd.encGs (v.take k)))∧Hid (Below U.heap.size U wr)) (fun i _ _=>n9 - (intOf i).toNat)
 case atStart=>exact ⟨0,_,by omega,rfl,rfl,Lib.hid (by rw [List.take_zero];exact Ev.Bt.nil _ _),Lib.hid (Below.refl _ _)⟩
 case round =>
  obtain ⟨k,bv,hk,rfl,rfl,HBT,HBU⟩:=hrel
  obtain ⟨W,rfl⟩:∃ w',w'=wr:=⟨_,rfl⟩
  have ik0:(0:Int)≤(k:Int):=by omega
  by_cases hlt:k<n9
  case neg =>
   have HT:Hid (Ev.Bt W U.heap.size bv (Cd.encGs v)):=Lib.hid (by have h:=HBT.out;rw [List.take_of_length_le (by rw [←HN9.out];omega)] at h;exact h)
   have ik1:¬(k:Int)<(n9:Int):=by omega
   go_wp2_with fail
   rw [Ev.Bt.str HT.out]
   go_wp2_with fail
   go_ret2
   exact ⟨by rw [HX.out];rfl,HB.out.trans (HBU.out.mono HB.out.size)⟩
  have hka:k<v.length:=by rw [←HN9.out];exact hlt
  have ik1:(k:Int)<(n9:Int):=by omega
  obtain ⟨g,off,cs,rfl,-,e1,hc⟩:=ERow.get HVV.out hka (by omega)
  have HNX:=Lib.hid (Cd.encGs_next hka)
  have hokk:=HOK.out v[k] (List.getElem_mem hka)
  have htl:(Cd.encGs (v.take (k+1))).length≤50000:=Nat.le_trans (Cd.encGs_take_len v (k+1)) HEL.out
  obtain ⟨⟨k0,k1,k2,k3⟩,Hx⟩:∃ y,Hid (v[k]=y):=⟨_,Lib.hid rfl⟩
  have hk2:k2.size≤100000:=by have h:=HZ.out v[k] (List.getElem_mem hka);rw [Hx.out] at h;exact h
  rw [Hx.out] at e1 HNX hokk
  unfold Vl.NodE Vl.Node.cells at e1
  subst e1
  obtain ⟨o1,o2,-⟩:=hokk
  simp only at o1 o2
  have a0:=hc 0 _ rfl
  have a1:=hc 1 _ rfl
  have a2:=hc 2 _ rfl
  have a3:=hc 3 _ rfl
  simp only [Nat.add_zero] at a0
  have hgl:g<w.heap.size:=World.block_lt_of_cell? w _ a0
  have hBW:=HB.out.trans (HBU.out.mono HB.out.size)
  have a0:=(hBW.cell hgl).trans a0
  have a1:=(hBW.cell hgl).trans a1
  have a2:=(hBW.cell hgl).trans a2
  have a3:=(hBW.cell hgl).trans a3
  obtain ⟨xs,Hxs⟩:∃ xs,Hid (Cd.encGs (v.take k)=xs):=⟨_,Lib.hid rfl⟩
  have hxl:xs.length≤50000:=by rw [←Hxs.out];exact Nat.le_trans (Cd.encGs_take_len v k) HEL.out
  rw [Hxs.out] at HBT HNX
  clear hc Hx hBW htl
  go_upto_region 8 with (fail)
  refine wp_named (fun X hX=>?_)
  obtain ⟨hb,hq,-⟩:=fresh_box hX
  clear hX
  have HBX:=Lib.hid (HBU.out.trans (hb.mono HBU.out.size))
  have HBTX:Hid (Ev.Bt X U.heap.size bv xs):=Lib.hid (Ev.Bt.below HBT.out hb)
  have HQ:=Lib.hid hq
  have hXs:=HBX.out.size
  obtain ⟨⟨b0,b1,b2,b3⟩,-⟩:=hq.k4
  clear hb hq a0 a1 a2 a3
  have hBx:=HBX.out.size
  by_cases d2:k0=2
  ·subst d2
   go_wp2_with (at_builtin;refine wpList_append_one rfl _ _ _ rfl U.heap.size 5 _ _ Tryz.underlying99 info_u8 rfl _ xs.length _ rfl HBTX.out.own _ rfl rfl (by simp only [maxLen];omega) (by omega) (by omega) ?_;intro v' w1 hown1 hb1 hg1;clear hg1)
   go_roundw
   case rel=>exact ⟨k+1,_,by omega,by go_num,rfl,Lib.hid (by rw [HNX.out];exact Ev.Bt.push hown1 rfl (Cd.byte_int k1)),Lib.hid (HBX.out.trans hb1)⟩
   case measure=>simp [intOf];omega
  by_cases d3:k0=3
  ·subst d3
   go_wp2_with fail
   refine (czig_any k1 o1 o2 _).mono ?_
   rintro e wz ⟨rfl,rfl⟩
   go_wp2_with fail
   refine (cputVar_any U.heap.size bv xs (Cd.zz k1) (Cd.zz_lt o1 o2) (by omega) _ HBTX.out hBx).mono ?_
   rintro e w1 ⟨v',rfl,hown1,hb1,-⟩
   go_wp2_with fail
   go_roundw
   case rel=>exact ⟨k+1,_,by omega,by go_num,rfl,Lib.hid (by rw [HNX.out];exact hown1),Lib.hid (HBX.out.trans hb1)⟩
   case measure=>simp [intOf];omega
  by_cases d4:k0=4
  ·subst d4
   have hkl:=(Ev.var_len k2.size).2
   obtain ⟨i0,hi0,hz0,hz1,hz2⟩:=info_parts info_u8
   have hll:(xs++Ev.var k2.size).length≤1000000010:=by rw [List.length_append];omega
   have HW:IntKind.u64.wrap (k2.size:Int)=(k2.size:Int):=by rw [IntKind.wrap_u64];omega
   go_upto_region 14 with (fail)
   have hS:Bk X.drew W.heap.size 71 #[.int .u8 (4:Nat),.int .i64 k1,.string k2,.int .i64 k3]:=HQ.out.drew
   have hbt:Ev.Bt X.drew U.heap.size bv xs:=Ev.Bt.below HBTX.out ((Below.refl _ _).drew)
   have hbu:Below U.heap.size U X.drew:=HBX.out.trans (((Below.refl _ _).drew).mono hBx)
   refine wp_region_L_calm (fun w'=>Bk w' W.heap.size 71 #[.int .u8 (4:Nat),.int .i64 k1,.string k2,.int .i64 k3]) [8] (by kernel_rfl) hS (fun hHeld=>?_)
   clear b0 b1 b2 b3 hS
   generalize X.drew=X1 at *
   have HBT1:=Lib.hid hbt
   have HBU1:=Lib.hid hbu
   have hx1:=hbu.size
   clear hbt hbu
   (refine wpAnyL_take0 0 (v:=?_) rfl (by kernel_rfl) (by kernel_rfl) (by kernel_rfl) (by kernel_rfl) (fun _ _ _ h=>h) (fun _=>by assumption) (by rfl) ?_ ?_;rotate_left;· (intro w;go_simp;try with_reducible rfl);try simp only [Act.put,List.setIfInBounds_toArray,List.set_cons_zero,List.set_cons_succ])
   (refine wpAnyL_take0 1 (v:=?_) rfl (by kernel_rfl) (by kernel_rfl) (by kernel_rfl) (by kernel_rfl) (fun _ _ _ h=>h) (fun _=>by assumption) (by rfl) ?_ ?_;rotate_left;· (intro w;go_simp;try with_reducible rfl);try simp only [Act.put,List.setIfInBounds_toArray,List.set_cons_zero,List.set_cons_succ])
   (refine Lst.takeM 8 2 (v:=?_) rfl (by kernel_rfl) (by kernel_rfl) (by kernel_rfl) (by kernel_rfl) (by kernel_rfl) (by kernel_rfl) (fun _ _ _ h=>h) (by assumption) (by rfl) ?_ ?_;rotate_left;· (intro w hSw;obtain ⟨e0,e1,e2,e3⟩:=(Bk.k4 hSw).1;go_simp;try with_reducible rfl);try simp only [Act.put,List.setIfInBounds_toArray,List.set_cons_zero,List.set_cons_succ])
   (refine wpAnyL_take0 3 (v:=?_) rfl (by kernel_rfl) (by kernel_rfl) (by kernel_rfl) (by kernel_rfl) (fun _ _ _ h=>h) (fun _=>by assumption) (by rfl) ?_ ?_;rotate_left;· (intro w;go_simp;try with_reducible rfl);try simp only [Act.put,List.setIfInBounds_toArray,List.set_cons_zero,List.set_cons_succ])
   (refine wpAnyL_take0 4 (v:=?_) rfl (by kernel_rfl) (by kernel_rfl) (by kernel_rfl) (by kernel_rfl) (fun _ _ _ h=>h) (fun _=>by assumption) (by rfl) ?_ ?_;rotate_left;· (intro w;go_simp;try with_reducible rfl);try simp only [Act.put,List.setIfInBounds_toArray,List.set_cons_zero,List.set_cons_succ])
   (refine wpAnyL_take0 6 (v:=?_) rfl (by kernel_rfl) (by kernel_rfl) (by kernel_rfl) (by kernel_rfl) (fun _ _ _ h=>h) (fun _=>by assumption) (by rfl) ?_ ?_;rotate_left;· (intro w;go_simp;try with_reducible rfl);try simp only [Act.put,List.setIfInBounds_toArray,List.set_cons_zero,List.set_cons_succ])
   (refine Lst.takeM 8 7 (v:=?_) rfl (by kernel_rfl) (by kernel_rfl) (by kernel_rfl) (by kernel_rfl) (by kernel_rfl) (by kernel_rfl) (fun _ _ _ h=>h) (by assumption) (by rfl) ?_ ?_;rotate_left;· (intro w hSw;obtain ⟨e0,e1,e2,e3⟩:=(Bk.k4 hSw).1;go_simp;try with_reducible rfl);try simp only [Act.put,List.setIfInBounds_toArray,List.set_cons_zero,List.set_cons_succ])
   (refine wpAnyL_step 5 (by kernel_rfl) rfl (fun K hK=>?_))
   go_simp
   refine (cputVar_any U.heap.size bv xs k2.size (by omega) (by omega) X1 HBT1.out hx1).mono ?_
   rintro e w1 ⟨v1,rfl,hown1,hb1,hO1⟩
   have hH2:=Only.bk hO1 hHeld (by decide)
   have hbz:=hb1.size
   have HBU2:=Lib.hid (HBU1.out.trans hb1)
   have HOW1:=Lib.hid hown1
   clear hb1 hO1 hHeld hown1
   (refine hK.out _ _ (fun hnn=>hH2) ?_;clear hK K;try simp only [Act.put,List.setIfInBounds_toArray,List.set_cons_zero,List.set_cons_succ])
   (refine wpAnyL_step 8 (by kernel_rfl) rfl (fun K hK=>?_))
   refine step_append_string rfl _ _ 99 9 rfl U.heap.size 5 i0 Tryz.underlying99 Tryz.underlying9 hi0 hz0 hz1 hz2 v1 (xs++Ev.var k2.size).length _ rfl HOW1.out.own k2 rfl (by unfold maxLen;omega) (by omega) (by omega) ?_
   intro v2 w2 h2 hb2
   have HBU3:=Lib.hid (HBU2.out.trans hb2)
   have hfin:Ev.Bt w2 U.heap.size v2 (Cd.encGs (v.take (k+1))):=by
    have h:=Ev.Bt.pushS h2
    rw [HNX.out,show Cd.encG ⟨4,k1,k2,k3⟩=Ev.var k2.size++k2.data.toList from rfl,←List.append_assoc]
    exact h
   have HFN:=Lib.hid hfin
   clear h2 hb2 hfin
   (refine hK.out _ _ (fun hnn=>absurd hnn (by decide)) ?_;clear hK K;try simp only [Act.put,List.setIfInBounds_toArray,List.set_cons_zero,List.set_cons_succ])
   (refine wpAnyL_step 9 (by kernel_rfl) rfl (fun K hK=>?_))
   go_simp
   (refine hK.out _ _ (fun hnn=>absurd hnn (by decide)) ?_;clear hK K;try simp only [Act.put,List.setIfInBounds_toArray,List.set_cons_zero,List.set_cons_succ])
   refine wpAnyL_done (by kernel_rfl) ?_ _
   refine NoPanic.normal ?_
   go_wp2_with fail
   go_roundw
   case rel=>exact ⟨k+1,_,by omega,by go_num,rfl,Lib.hid HFN.out,Lib.hid HBU3.out⟩
   case measure=>simp [intOf];omega
  by_cases d5:k0=5
  ·subst d5
   have hcv:(((k3 % 18446744073709551616).toNat:Nat):Int)=k3 % 18446744073709551616:=by omega
   have hp:=cputVar_any U.heap.size bv xs (k3 % 18446744073709551616).toNat (by omega) (by omega) X HBTX.out hBx
   rw [hcv] at hp
   have HPV:=Lib.hid hp
   clear hp
   go_wp2_with fail
   refine HPV.out.mono ?_
   rintro e w1 ⟨v',rfl,hown1,hb1,-⟩
   go_wp2_with fail
   go_roundw
   case rel=>exact ⟨k+1,_,by omega,by go_num,rfl,Lib.hid (by rw [HNX.out];exact hown1),Lib.hid (HBX.out.trans hb1)⟩
   case measure=>simp [intOf];omega
  by_cases d6:k0=6
  ·subst d6
   go_wp2_with (at_builtin;refine wpList_append_one rfl _ _ _ rfl U.heap.size 5 _ _ Tryz.underlying99 info_u8 rfl _ xs.length _ rfl HBTX.out.own _ rfl rfl (by simp only [maxLen];omega) (by omega) (by omega) ?_;intro v' w1 hown1 hb1 hg1;clear hg1)
   go_roundw
   case rel=>exact ⟨k+1,_,by omega,by go_num,rfl,Lib.hid (by rw [HNX.out];exact Ev.Bt.push hown1 rfl (Cd.byte_int k3)),Lib.hid (HBX.out.trans hb1)⟩
   case measure=>simp [intOf];omega
  by_cases d8:k0=8
  ·subst d8
   have hcv:(((k1 % 18446744073709551616).toNat:Nat):Int)=k1 % 18446744073709551616:=by omega
   have hp:=cputVar_any U.heap.size bv xs (k1 % 18446744073709551616).toNat (by omega) (by omega) X HBTX.out hBx
   rw [hcv] at hp
   have HPV:=Lib.hid hp
   clear hp
   go_wp2_with fail
   refine HPV.out.mono ?_
   rintro e w1 ⟨v',rfl,hown1,hb1,-⟩
   go_wp2_with fail
   go_roundw
   case rel=>exact ⟨k+1,_,by omega,by go_num,rfl,Lib.hid (by rw [HNX.out];exact hown1),Lib.hid (HBX.out.trans hb1)⟩
   case measure=>simp [intOf];omega
  have e2:¬(k0:Int)=2:=by omega
  have e3:¬(k0:Int)=3:=by omega
  have e4:¬(k0:Int)=4:=by omega
  have e5:¬(k0:Int)=5:=by omega
  have e6:¬(k0:Int)=6:=by omega
  have e8:¬(k0:Int)=8:=by omega
  have HE0:Hid (Cd.encGs (v.take (k+1))=xs):=Lib.hid (by rw [HNX.out];unfold Cd.encG;simp only [if_neg d2,if_neg d3,if_neg d4,if_neg d5,if_neg d6,if_neg d8,List.append_nil])
  go_wp2_with fail
  go_roundw
  case rel=>exact ⟨k+1,_,by omega,by go_num,rfl,Lib.hid (by rw [HE0.out];exact HBTX.out),Lib.hid HBX.out⟩
  case measure=>simp [intOf];omega
end Go.Proofs.YtjfdohhdkdjifaaGreatDoor
