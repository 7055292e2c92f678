/- Chapter 17, plain: a number read of bytes. -/
import Derived.Test.YtgefichiillehaaGreatDoorPV29
import Derived.Test.YtgefichiillehaaGreatDoorPV21
import Derived.Test.YtgefichiillehaaGreatDoorPV14
import Derived.Test.YtgefichiillehaaGreatDoorPV02
import Derived.ProofKit
import Derived.LaidMore
import Derived.OpenShut
import Derived.Stop.Joined
set_option linter.unusedVariables false
namespace Go.Proofs.YtgefichiillehaaGreatDoor
namespace Ev
/-- What the first bytes of a number tell. -/
def acc (l:List UInt8):Nat→Nat
 | 0=>0
 | i+1=>acc l i ||| ((l.getD i 0).toNat % 128 * 2 ^ (7 * i) % 18446744073709551616)
/-- A number of the first bytes, the lowest one first. -/
def lit (l:List UInt8):Nat→Nat
 | 0=>0
 | i+1=>lit l i+(l.getD i 0).toNat * 2 ^ (8 * i)
end Ev
end Go.Proofs.YtgefichiillehaaGreatDoor
set_option linter.unusedVariables false
set_option linter.unusedSimpArgs false
namespace Go.Proofs.YtgefichiillehaaGreatDoor
namespace Cd
open Go.Proofs.YtgefichiillehaaGreatDoor.Ev
/-- A number at the beginning of bytes; false: they are too few, true: it is none. -/
def nmF (l:List UInt8):Nat→Nat→Except Bool (Nat × Nat)
 | 0,_=>.error true
 | g+1,i=>if i < l.length then (if i=9∧1 < (l.getD i 0).toNat then .error true else if (l.getD i 0).toNat < 128 then (if (l.getD i 0).toNat=0∧0 < i then .error true else .ok (acc l (i+1),i+1)) else nmF l g (i+1)) else .error false
def num (b:List UInt8) (p:Nat):Except (Nat × Nat) (Nat × Nat):=match nmF (b.drop p) 10 0 with
 | .ok q=>.ok (q.1,p+q.2)
 | .error true=>.error (p,162)
 | .error false=>.error (b.length,160)
end Cd
end Go.Proofs.YtgefichiillehaaGreatDoor
set_option linter.unusedVariables false
set_option linter.unusedSimpArgs false
namespace Go.Proofs.YtgefichiillehaaGreatDoor
open Go.RowKit Go.BigFrame
namespace Cd
open Go.Proofs.YtgefichiillehaaGreatDoor.Id Go.Proofs.YtgefichiillehaaGreatDoor.Chk Go.Proofs.YtgefichiillehaaGreatDoor.Vl Go.Proofs.YtgefichiillehaaGreatDoor.Ev
/-- A signed number as one without a sign, and back. -/
def zz (n:Int):Nat:=if 0≤n then 2 * n.toNat else 2 * (-(n+1)).toNat+1
def un (u:Nat):Int:=if u % 2=0 then ((u / 2:Nat):Int) else -((u / 2:Nat):Int) - 1
/-- A part's numbers are Go's. -/
structure OkN (n:Vl.Node):Prop where
 lo:-9223372036854775808≤n.int
 hi:n.int≤9223372036854775807
 tx:n.text.size≤9223372036854775807
def encN (n:Vl.Node):List UInt8 :=
 if n.kind=2 then [UInt8.ofNat n.int.toNat] else if n.kind=3 then var (zz n.int) else if n.kind=4 then var n.text.size++n.text.data.toList
 else if n.kind=5 then var n.kids.toNat else if n.kind=6 then [UInt8.ofNat n.kids.toNat] else if n.kind=8 then var n.int.toNat else []
def encs (v:List Vl.Node):List UInt8:=v.flatMap encN
theorem encs_app (a b:List Vl.Node):encs (a++b)=encs a++encs b:=List.flatMap_append
structure S where
 at_:Nat
 v:List Vl.Node
 sz:Nat
def S.put (x:S) (p:Nat) (n:Vl.Node) (z:Nat):S:=⟨p,x.v++[n],x.sz+z⟩
def isLeaf (k:Nat):Prop:=k=1∨k=2∨k=3∨k=4
instance (k:Nat):Decidable (isLeaf k):=by unfold isLeaf;infer_instance
def full (x:S):Prop:=4096≤x.v.length∨4096≤x.sz
instance (x:S):Decidable (full x):=by unfold full;infer_instance
theorem size_app (a b:List Vl.Node):size (a++b)=size a+size b:=by
 unfold size
 rw [List.length_append,List.map_append,List.sum_append]
 omega
/-- What a reading has come to. -/
structure Got (b:List UInt8) (x y:S) (m:List Vl.Node):Prop where
 v:y.v=x.v++m
 bs:b.drop x.at_=encs m++b.drop y.at_
 le:x.at_≤y.at_
 lim:y.at_≤b.length
 sz:y.sz=x.sz+size m
 ok:∀ n ∈ m,OkN n
theorem Got.trans {b:List UInt8} {x y z:S} {m m':List Vl.Node} (h:Got b x y m) (k:Got b y z m'):Got b x z (m++m') :=
 ⟨by rw [k.v,h.v,List.append_assoc],by rw [h.bs,k.bs,encs_app,List.append_assoc],Nat.le_trans h.le k.le,k.lim,by rw [k.sz,h.sz,size_app];omega,fun n hn=>by rcases List.mem_append.1 hn with h1 | h1;exact h.ok n h1;exact k.ok n h1⟩
end Cd
end Go.Proofs.YtgefichiillehaaGreatDoor
set_option linter.unusedVariables false
set_option linter.unusedSimpArgs false
namespace Go.Proofs.YtgefichiillehaaGreatDoor
open Go.RowKit Go.BigFrame Go.ChangeShapes
theorem list_of4 {cs:List Value} {a b c d:Value} (hl:cs.length=4) (h0:cs[0]?=some a) (h1:cs[1]?=some b) (h2:cs[2]?=some c) (h3:cs[3]?=some d):cs=[a,b,c,d]:=by
 match cs,hl with
 | [x,y,z,u],_=>simp at h0 h1 h2 h3;rw [h0,h1,h2,h3]
theorem i64_of_wf {n:Int} (h:(Lit.int .i64 n).wf=true):-9223372036854775808≤n∧n≤9223372036854775807:=by
 simp [Lit.wf,IntKind.min,IntKind.max,IntKind.bits,IntKind.signed] at h
 omega
section
variable {H : Type} {enc : TypeId × Value → H} {w : World} {base : Nat} {spare : Nat → Bool} {held : Bool}
theorem open_vals {fuel:Nat} {v:Value} {x:DataW H × List MemPlace} (h:DataW.trod enc Tryz.prog w base spare held fuel 29 [v]=some x):∃ l:List Vl.Node,Vl.ValR w none v l∧∀ n ∈ l,Cd.OkN n:=by
 obtain ⟨l,hl⟩:=open_rows (fun w cs (n:Vl.Node)=>Vl.NodE w cs n∧Cd.OkN n) Tryz.underlying29 Tryz.underlying43 (by kernel_rfl) (by kernel_rfl) (by decide) h fun cs hl hf=>by
  obtain ⟨u0,k0,y0,e0,t0⟩:=hf 0 _ rfl
  obtain ⟨u1,k1,y1,e1,t1⟩:=hf 1 _ rfl
  obtain ⟨u2,k2,y2,e2,t2⟩:=hf 2 _ rfl
  obtain ⟨u3,k3,y3,e3,t3⟩:=hf 3 _ rfl
  obtain ⟨n0,hn0,z0⟩:=DataW.trod_int Tryz.underlying5 t0
  obtain ⟨n1,hn1,z1⟩:=DataW.trod_int Tryz.underlying2 t1
  obtain ⟨n2,hn2,z2⟩:=DataW.trod_string Tryz.underlying9 t2
  obtain ⟨n3,hn3,z3⟩:=DataW.trod_int Tryz.underlying3 t3
  simp only [List.cons.injEq,and_true] at hn0 hn1 hn2 hn3
  subst hn0 hn1 hn2 hn3
  obtain ⟨k,rfl⟩:=nat_of_wf rfl z0.2
  obtain ⟨a1,a2⟩:=i64_of_wf z1.2
  have z3:=z2.2
  unfold maxLen at z3
  exact ⟨⟨k,n1,n2,n3⟩,list_of4 hl e0 e1 e2 e3,⟨a1,a2,z3⟩⟩
 refine ⟨l,ERow.mono hl (fun _ _ h=>h) (fun _ _ h=>h.1),fun n hn=>?_⟩
 obtain ⟨css,k1,k2,k3,k4⟩:=hl
 obtain ⟨i,hi,rfl⟩:=List.getElem_of_mem hn
 exact (k4 i (by omega) hi).2
end
end Go.Proofs.YtgefichiillehaaGreatDoor
set_option linter.unusedVariables false
set_option linter.unusedSimpArgs false
namespace Go.Proofs.YtgefichiillehaaGreatDoor
open Go.RowKit Go.BigFrame Go.ChangeShapes Go.Joins Go.WideShapes Go.Deep
theorem ERow.own_blk {α:Type} {w:World} {b:Nat} {t:TypeId} {size:Nat} {E:World→List Value→α→Prop} {v:Value} {l:List α} (h:ERow w (some b) t size E v l):∀ j,v.ownBlock=some j→j < w.heap.size:=by
 obtain ⟨css,h1,h2,h3,h4⟩:=h
 exact fun j hj=>(World.ownsRow.lt (show w.ownsRow b t size v l.length css.flatten from h3) j hj).2
/-- A whole row of anyone's put behind a row of the call's own. -/
theorem wpList_append_any {P:Program} {ops:Array Oper} {rest:List Oper} {o:Oper} {a:Act} {Q:Exit→Act→World→Prop} {w:World} (hgd:Region.wanted o (yielded ops a.tmps)=true) (s y:Operand) (t:TypeId)
  (ho:o.op=.call { callee:=.builtin .append,args:=#[s,y],argTypes:=#[t,t] })
  (base:Nat) (e:TypeId) (z:Value) (size bytes:Nat) (ht:P.underlying t=some (.slice e)) (hi:(P.info? e).map (fun i=>(i.zero,i.size,i.bytes))=some (some z,size,bytes)) (hzs:z.cells.size=size) (hpos:0 < size)
  {α:Type} (E:World→List Value→α→Prop) (v:Value) (l:List α) (hs:a.eval s=v) (hown:ERow w (some base) e size E v l)
  (B:Option Nat) (A:Option Addr) (m c:Nat) (l2:List α) (hx:a.eval y=.slice A m c) (hrow:ERow w B e size E (.slice A m c) l2)
  (hone:∀ cs x,E w cs x→∀ u ∈ cs,u.oneCell'=true) (hE:∀ w',Only e w w'→∀ cs x,E w cs x→E w' cs x)
  (h63:l.length+l2.length≤maxLen) (hbytes:(l.length+l2.length) * bytes≤140737488355328) (hbase:base≤w.heap.size)
  (h:∀ v' w',ERow w' (some base) e size E v' (l++l2)→Below base w w'→Only e w w'→w.grownBy w' v.ownBlock→wpList P ops Q rest (a.put o.dst v') w') :
  wpList P ops Q (o :: rest) a w:=by
 obtain ⟨css,k1,k2,k3,k4⟩:=hown
 obtain ⟨ds,j1,j2,j3,j4⟩:=hrow
 have hrow':w.ownsRow base e size v l.length css.flatten:=k3
 obtain ⟨A',c',e',g1,g2,g3,g4⟩:=j3.slice
 injection e' with e1 e2 e3
 subst e1 e2 e3
 refine wpList_append_src hgd s y t ho base e z size bytes ht hi hzs hpos v l.length css.flatten hs hrow' A l2.length c ds.flatten hx g3 (by rw [flatten_len j2,j1]) (fun ad had j u hu=>?_) (fun u hu=>?_) h63 hbytes hbase ?_
 ·have hj:j < ds.flatten.length:=(List.getElem?_eq_some_iff.1 hu).1
  obtain ⟨g,off,e4,hc⟩:=g4 (by omega)
  rw [had] at e4
  injection e4 with e4
  subst e4
  have ha:(⟨g,off,none⟩:Addr).add j=⟨g,off+j,none⟩:=by simp [Addr.add]
  rw [ha]
  exact hc j u hu
 ·obtain ⟨cs,hcs,hu'⟩:=List.mem_flatten.1 hu
  obtain ⟨i,hi',rfl⟩:=List.getElem_of_mem hcs
  exact hone _ _ (j4 i hi' (by omega)) u hu'
 ·intro v' w' hr' hg' hb'
  have ho':=Only.row hg' hrow'
  refine h v' w' ⟨css++ds,by simp [k1,j1],fun cs hc=>?_,?_,fun i ha hb=>?_⟩ hb' ho' hg'
  ·rcases List.mem_append.1 hc with h | h
   ·exact k2 cs h
   ·exact j2 cs h
  ·show w'.ownsRow base e size v' (l++l2).length (css++ds).flatten
   rw [List.length_append,List.flatten_append]
   exact hr'
  ·rcases Nat.lt_or_ge i css.length with hi | hi
   ·rw [List.getElem_append_left hi,List.getElem_append_left (by omega)]
    exact hE _ ho' _ _ (k4 i hi (by omega))
   ·rw [List.getElem_append_right hi,List.getElem_append_right (by omega)]
    have hd:i - css.length < ds.length:=by simp at ha;omega
    have e5:l2[i - l.length]'(by simp at hb;omega)=l2[i - css.length]'(by omega):=by congr 1;omega
    rw [e5]
    exact hE _ ho' _ _ (j4 _ hd (by omega))
theorem Id.SortsR.below {w w':World} {B:Option Nat} {v:Value} {l:List Id.Srt} (h:Id.SortsR w B v l) (hb:Below w.heap.size w w'):Id.SortsR w' B v l:=ERow.below h hb (fun _ _ h=>h)
/-- The same within a region that draws its order. -/
theorem step_append_any {P:Program} {ops:Array Oper} {o:Oper} {a:Act} {w:World} {K:Act→World→Prop} {Q:Exit→Act→World→Prop} {H:Prop} (hgd:o.guard=none) (s y:Operand) (t:TypeId)
  (ho:o.op=.call { callee:=.builtin .append,args:=#[s,y],argTypes:=#[t,t] })
  (base:Nat) (e:TypeId) (z:Value) (size bytes:Nat) (ht:P.underlying t=some (.slice e)) (hi:(P.info? e).map (fun i=>(i.zero,i.size,i.bytes))=some (some z,size,bytes)) (hzs:z.cells.size=size) (hpos:0 < size)
  {α:Type} (E:World→List Value→α→Prop) (v:Value) (l:List α) (hs:a.eval s=v) (hown:ERow w (some base) e size E v l)
  (B:Option Nat) (ad:Addr) (m c:Nat) (l2:List α) (hx:a.eval y=.slice (some ad) m c) (hrow:ERow w B e size E (.slice (some ad) m c) l2) (hm:0 < l2.length)
  (hone:∀ cs x,E w cs x→∀ u ∈ cs,u.oneCell'=true) (hE:∀ w',Only e w w'→∀ cs x,E w cs x→E w' cs x)
  (h63:l.length+l2.length≤maxLen) (hbytes:(l.length+l2.length) * bytes≤140737488355328) (hbase:base≤w.heap.size)
  (h:∀ A n c w',ERow w' (some base) e size E (.slice A n c) (l++l2)→Below base w w'→w.grownBy w' v.ownBlock→K (a.put o.dst (.slice A n c)) w') :
  if Region.wanted o (yielded ops a.tmps)=true then Oper.wp P o a w K Q else H:=by
 obtain ⟨css,k1,k2,k3,k4⟩:=hown
 obtain ⟨ds,j1,j2,j3,j4⟩:=hrow
 obtain ⟨i,hi0,hz0,hz1,hz2⟩:=info_parts hi
 have hrow':w.ownsRow base e size v l.length css.flatten:=k3
 obtain ⟨A',c',e',g1,g2,g3,g4⟩:=j3.slice
 injection e' with e1 e2 e3
 subst e1 e2 e3
 refine step_append_lies _ hgd s y t ho base e i z size bytes ht hi0 hz0 hz1 hz2 hzs hpos v l.length css.flatten hs hrow' ad l2.length c ds.flatten hx (by rw [flatten_len j2,j1]) (fun j u hu=>?_) (fun u hu=>?_) hm h63 hbytes hbase w.heap.size rfl ?_
 ·have hj:j < ds.flatten.length:=(List.getElem?_eq_some_iff.1 hu).1
  obtain ⟨g,off,e4,hc⟩:=g4 (by omega)
  injection e4 with e4
  subst e4
  have ha:(⟨g,off,none⟩:Addr).add j=⟨g,off+j,none⟩:=by simp [Addr.add]
  rw [ha]
  exact hc j u hu
 ·obtain ⟨cs,hcs,hu'⟩:=List.mem_flatten.1 hu
  obtain ⟨i,hi',rfl⟩:=List.getElem_of_mem hcs
  exact hone _ _ (j4 i hi' (by omega)) u hu'
 ·intro g' cap w' hr' hg' _ _
  have ho':=Only.row hg' hrow'
  refine h _ _ _ w' ⟨css++ds,by simp [k1,j1],fun cs hc=>?_,?_,fun i ha hb=>?_⟩ ((Below.refl base w).grown hg' hbase (fun k hk=>(hrow'.lt k hk).1)) hg'
  ·rcases List.mem_append.1 hc with h | h
   ·exact k2 cs h
   ·exact j2 cs h
  ·show w'.ownsRow base e size _ (l++l2).length (css++ds).flatten
   rw [List.length_append,List.flatten_append]
   exact hr'
  ·rcases Nat.lt_or_ge i css.length with hi | hi
   ·rw [List.getElem_append_left hi,List.getElem_append_left (by omega)]
    exact hE _ ho' _ _ (k4 i hi (by omega))
   ·rw [List.getElem_append_right hi,List.getElem_append_right (by omega)]
    have hd:i - css.length < ds.length:=by simp at ha;omega
    have e5:l2[i - l.length]'(by simp at hb;omega)=l2[i - css.length]'(by omega):=by congr 1;omega
    rw [e5]
    exact hE _ ho' _ _ (j4 _ hd (by omega))
theorem own_nilE {α:Type} (W:World) (T:TypeId) (size:Nat) (E:World→List Value→α→Prop):ERow (W.alloc (.cells #[] T)) (some W.heap.size) T size E (.slice (some ⟨W.heap.size,0,none⟩) 0 0) ([]:List α) :=
 ⟨[],rfl,(fun _ h=>by cases h),own_nil_block W T size,fun i h=>absurd h (by simp)⟩
theorem Vl.endV_whole {a:List Vl.Node} (h:Vl.endL a.length 1 a=some []):Vl.endV a (Vl.endAt a 0)=a.length:=by
 unfold Vl.endAt
 rw [if_pos (Int.le_refl _)]
 show Vl.endV a (Vl.endL a.length 1 (a.drop 0))=_
 rw [List.drop_zero,h]
 unfold Vl.endV
 simp
/-- A literal row, the call's own. -/
theorem own_lit {α:Type} (W:World) (T:TypeId) (size:Nat) (E:World→List Value→α→Prop) (css:List (List Value)) (l:List α) (n:Nat) (cs:Array Value) (hn:l.length=n) (hc:css.flatten.toArray=cs) (h1:css.length=l.length) (h2:∀ cs ∈ css,cs.length=size) (hb:n≤1000000)
  (hE:∀ i (h:i < css.length) (h':i < l.length),E (W.alloc (.cells cs T)) css[i] l[i]):ERow (W.alloc (.cells cs T)) (some W.heap.size) T size E (.slice (some ⟨W.heap.size,0,none⟩) n n) l:=by
 subst hn hc
 refine ⟨css,h1,h2,?_,hE⟩
 refine ⟨by rw [flatten_len h2,h1],.inr ⟨W.heap.size,l.length,css.flatten.toArray,rfl,Nat.le_refl _,heap_alloc_new W _,Nat.le_refl _,by unfold maxLen;omega,?_,?_⟩⟩
 ·rw [List.size_toArray,flatten_len h2,h1]
 ·rw [List.toList_toArray,List.take_of_length_le (by rw [flatten_len h2,h1];omega)]
theorem Vl.sameF_refl (a:List Vl.Node):Vl.sameF a a=true:=Vl.sameF_iff.2 rfl
theorem Vl.fieldL_len {N:Nat} {fn:ByteArray}:∀ {fs:List Id.Fld} {r:List Vl.Node} {a:List Vl.Node},Vl.fieldL N fn fs r=some a→a.length≤r.length
 | [],r,a,h=>by cases h
 | f :: fs,r,a,h=>by
  unfold Vl.fieldL at h
  split at h
  ·cases h
  ·rename_i r' hr
   split at h
   ·injection h with h
    rw [← h,List.length_take];omega
   ·have:=Vl.fieldL_len h
    have h2:=(Vl.endL_len hr).1
    omega
theorem Vl.field_len {x:Id.Sch} {rn fn:ByteArray} {v:List Vl.Node} {M:Nat} (h:v.length≤M):((Vl.field x rn v fn).getD []).length≤M:=by
 cases hf:Vl.field x rn v fn with
 | none=>simp
 | some l =>
  obtain ⟨r,_,_,_,h4⟩:=Vl.field_some hf
  have:=Vl.fieldL_len h4
  rw [List.length_drop] at this
  simp only [Option.getD_some]
  omega
set_option maxRecDepth 100000 in
theorem open_node {H:Type} {enc:TypeId × Value→H} {w:World} {base b0:Nat} {spare:Nat→Bool} {held:Bool} {r:Reach} {v:Value} {d:DataW H} {p:List MemPlace} (hv:Value.okWide Tryz.prog w r b0 43 v)
  (h:DataW.Trod enc Tryz.prog w base spare held 43 v d p):∃ n:Vl.Node,v=.agg #[.int .u8 n.kind,.int .i64 n.int,.string n.text,.int .i64 n.kids]∧Cd.OkN n:=by
 obtain ⟨v0,v1,v2,v3,y0,y1,y2,y3,n,rfl,-,-,t0,t1,t2,t3⟩:=open_agg4 Tryz.underlying43 (by kernel_rfl) (by kernel_rfl) hv h
 obtain ⟨n0,e0,_,z0⟩:=DataW.trod_int Tryz.underlying5 t0
 obtain ⟨n1,e1,_,z1⟩:=DataW.trod_int Tryz.underlying2 t1
 obtain ⟨n2,e2,_,z2⟩:=DataW.trod_string Tryz.underlying9 t2
 obtain ⟨n3,e3,_,z3⟩:=DataW.trod_int Tryz.underlying3 t3
 simp only [List.cons.injEq,and_true] at e0 e1 e2 e3
 subst e0 e1 e2 e3
 obtain ⟨k,rfl⟩:=nat_of_wf rfl z0
 obtain ⟨a1,a2⟩:=i64_of_wf z1
 unfold maxLen at z2
 exact ⟨⟨k,n1,n2,n3⟩,rfl,⟨a1,a2,z2⟩⟩
end Go.Proofs.YtgefichiillehaaGreatDoor
set_option linter.unusedVariables false
set_option linter.unusedSimpArgs false
namespace Go.Proofs.YtgefichiillehaaGreatDoor
open Go.RowKit Go.BigFrame
set_option maxRecDepth 100000 in
set_option maxHeartbeats 16000000 in
theorem valueEnds_walk (vs:Value) (v:List Vl.Node) (a:Int) (w0:World) (hvv:Vl.ValR w0 none vs v) (hok:∀ n ∈ v,Cd.OkN n) (ha:(Lit.int .i64 a).wf=true) (w:World) (he:w=w0) (hk:Tk.KW w) :
  Calls Tryz.prog 4 #[vs,.int .i64 a] w fun e w'=>e=.returned (.bool true)∧Below w.heap.size w w':=by
 subst he
 have HKW:=Lib.hid hk
 clear hk
 have HVV:=Lib.hid hvv
 obtain ⟨A9,n9,c9,rfl⟩:=ERow.is hvv
 have HN9:Hid (n9=v.length):=Lib.hid (by obtain ⟨_,_,e,_⟩:=ERow.slice hvv;injection e)
 clear hvv hok
 clear ha
 have done:∀ W,Below w.heap.size w W→Calls Tryz.prog 16 #[] W fun e w'=>e=.returned (.bool true)∧Below w.heap.size w w':=fun W hW=>(wakes15_any W (HKW.out.below hW)).mono fun _ _ ⟨h1,h2⟩=>⟨h1,hW.trans (h2.mono hW.size)⟩
 have HDN:=Lib.hid done
 clear done
 obtain ⟨R,HR⟩:∃ R,Hid (Vl.endV v (Vl.endAt v a)=R):=⟨_,Lib.hid rfl⟩
 go_enter Tryz.func4,Tryz.ntmps4
 by_cases h2:n9≤6000
 case neg =>
  have t2:(6000:Int) < (n9:Int):=by omega
  go_wp2_with fail
  refine (HDN.out _ (Below.refl _ _)).mono ?_
  rintro e W9 ⟨rfl,hb9⟩
  go_wp2_with fail
  go_ret
  exact ⟨rfl,hb9⟩
 have t2:¬ (6000:Int) < (n9:Int):=by omega
 have hl9:Hid (v.length≤100000):=Lib.hid (by rw [← HN9.out];omega)
 go_wp2_with fail
 refine (vend_any _ v a w HVV.out hl9.out).mono ?_
 rw [HR.out]
 rintro e W1 ⟨rfl,rfl⟩
 go_wp2_with fail
 refine (rend_any _ v _ HVV.out hl9.out (((v.length:Int) - a).toNat+1) a (by omega)).mono ?_
 rw [HR.out]
 rintro e W2 ⟨rfl,rfl⟩
 go_wp2_with fail
 refine (HDN.out _ (Below.refl _ _)).mono ?_
 rintro e W9 ⟨rfl,hb9⟩
 go_wp2_with fail
 go_ret
 exact ⟨rfl,hb9⟩
end Go.Proofs.YtgefichiillehaaGreatDoor
set_option linter.unusedVariables false
namespace Go.Proofs.YtgefichiillehaaGreatDoor
open Go.ChangeShapes Go.WideShapes Go.ChangeAt Go.RowKit
namespace Kw
theorem gK : Tryz.prog.globalNamed "redress/token.keywords" = some 0 := by kernel_rfl
theorem tK:(Tryz.prog.globals[0]?).map (·.type)=some 200:=by kernel_rfl
theorem c9:Tryz.prog.cellsOf 9=1:=by kernel_rfl
/-- The list of what is laid. -/
abbrev laidL : List (String × DataW Unit) := [("math/bits.deBruijn32tab", Rows.laid_math_bits_deBruijn32tab), ("math/bits.deBruijn64tab", Rows.laid_math_bits_deBruijn64tab), ("internal/strconv.uint64pow10", Rows.laid_internal_strconv_uint64pow10), ("redress/token.keywords", Rows.laid_redress_token_keywords)]
/-- The door's own heap meets the condition. -/
theorem door_met (os:Os) (args:Array Value):laidMetH Tryz.prog laidL ((World.doorLaid Tryz.prog 400 os).forCall (fun _ _=>0) ⟨#[],args,[]⟩).memory :=
 laidMetH_of_parts3 (fuel:=8) (laidMet_of_run' 8 (by kernel_rfl) (by kernel_rfl)) (by kernel_rfl) (by kernel_rfl)
theorem data_eq:(Rows.laid_redress_token_keywords:DataW Unit)=.agg (Tk.words.map fun x=>.lit (.string x.data.toList)):=by kernel_rfl
theorem of_laid {W:World} (h:laidMetH Tryz.prog laidL W):Tk.KW W:=by
 rw [MakeChecks.laidMetH_plain _ _ _ (by kernel_rfl)] at h
 obtain ⟨ps,hps,_,_⟩:=h
 obtain ⟨_,_,_,_,_,_,_,_,_,_,hps,_⟩:=hps
 obtain ⟨_,_,_,_,_,_,_,_,_,_,hps,_⟩:=hps
 obtain ⟨_,_,_,_,_,_,_,_,_,_,hps,_⟩:=hps
 obtain ⟨g0,t0,cs0,f0,p0,q0,hg0,ht0,hv0,hd0,_⟩:=hps
 obtain rfl:=Option.some.inj (gK.symm.trans hg0)
 obtain rfl:=Option.some.inj (tK.symm.trans ht0)
 obtain ⟨xs,m1,rfl,hx1,hlen,hn,hel⟩:=DataW.trod_array Tryz.underlying200 hd0
 simp only [Prod.mk.injEq] at hx1
 have hx2:(Tk.words.map fun x=>(DataW.lit (.string x.data.toList):DataW Unit))=xs.map (·.1):=by
  have:=hx1.1
  rw [data_eq] at this
  injection this
 have key:∀ j,j < Tk.words.length→W.cell? ⟨0,0+j,none⟩=some (.string (Tk.words.getD j ByteArray.empty)):=by
  intro j hj
  have hj17:j < 17:=hj
  have h1:=hel j hj17
  rw [c9] at h1
  have hjx:j < xs.length:=by omega
  rw [List.getElem?_eq_getElem hjx] at h1
  obtain ⟨s,e1,e2,_⟩:=DataW.trod_string Tryz.underlying9 h1
  have h3:(xs.map (·.1))[j]?=some (DataW.lit (.string Tk.words[j].data.toList)):=by
   rw [← hx2,List.getElem?_map,List.getElem?_eq_getElem hj]
   rfl
  rw [List.getElem?_map,List.getElem?_eq_getElem hjx,e2] at h3
  simp only [Option.map_some,Option.some.injEq,DataW.lit.injEq,Lit.string.injEq] at h3
  have hs:s=Tk.words[j]:=by
   cases s
   cases hw:Tk.words[j]
   rw [hw] at h3
   simp only at h3
   rw [Array.toList_inj.1 h3]
  have hc:=World.var?_cell hg0 hv0 j
  rw [Nat.zero_add,hc]
  have e4:cs0.toList[j]?=some (.string s):=by
   have:((cs0.toList.drop (j * 1)).take 1)[0]?=some (.string s):=by rw [e1];rfl
   rw [List.getElem?_take_of_lt (by omega),List.getElem?_drop] at this
   simpa using this
  have e5:Tk.words.getD j ByteArray.empty=s:=by rw [hs,List.getD_eq_getElem?_getD,List.getElem?_eq_getElem hj];rfl
  rw [e5]
  simpa using e4
 refine ⟨?_,key⟩
 exact World.block_lt_of_cell? W _ (key 0 (by decide))
end Kw
end Go.Proofs.YtgefichiillehaaGreatDoor
set_option linter.unusedVariables false
set_option linter.unusedSimpArgs false
namespace Go.Proofs.YtgefichiillehaaGreatDoor
open Go.RowKit Go.BigFrame
set_option maxRecDepth 100000 in
set_option maxHeartbeats 16000000 in
theorem valueFits_walk (sv:Value) (x:Id.Sch) (tv:Value) (t:List Id.Srt) (vs:Value) (v:List Vl.Node) (w0:World) (hv:Id.SchV w0 none sv x) (ht:Id.SortsR w0 none tv t) (hvv:Vl.ValR w0 none vs v) (hok:∀ n ∈ v,Cd.OkN n) (w:World) (he:w=w0) (hk:Tk.KW w) :
  Calls Tryz.prog 3 #[sv,tv,vs] w fun e w'=>e=.returned (.bool true)∧Below w.heap.size w w':=by
 subst he
 have HKW:=Lib.hid hk
 clear hk
 have HV:=Lib.hid hv
 obtain ⟨A1,n1,c1,A2,n2,c2,A3,n3,c3,rfl,-,-,-⟩:=hv
 have HS:=Lib.hid ht
 obtain ⟨A,n,c,rfl⟩:=ERow.is ht
 have HN:Hid (n=t.length):=Lib.hid (by obtain ⟨_,_,e,_⟩:=ERow.slice ht;injection e)
 clear ht
 have HVV:=Lib.hid hvv
 obtain ⟨A9,n9,c9,rfl⟩:=ERow.is hvv
 have HN9:Hid (n9=v.length):=Lib.hid (by obtain ⟨_,_,e,_⟩:=ERow.slice hvv;injection e)
 clear hvv hok
 have done:∀ W,Below w.heap.size w W→Calls Tryz.prog 16 #[] W fun e w'=>e=.returned (.bool true)∧Below w.heap.size w w':=fun W hW=>(wakes15_any W (HKW.out.below hW)).mono fun _ _ ⟨h1,h2⟩=>⟨h1,hW.trans (h2.mono hW.size)⟩
 have HDN:=Lib.hid done
 clear done
 go_enter Tryz.func3,Tryz.ntmps3
 go_upto_region 1 with (fail)
 refine wp_named (fun V hV=>?_)
 have HL:=Lib.hid (Chk.Lx.start hV)
 clear hV
 obtain ⟨⟨q0,q1,q2,q3⟩,-⟩:=HL.out.box.k4
 go_wp2_with fail
 refine (vgreat_any _ x _ t _ v _ (Id.SchV.below HL.out.bel HV.out) (Id.SortsR.below HS.out HL.out.bel) (Vl.ValR.below HVV.out HL.out.bel)).mono ?_
 rintro e W1 ⟨b,rfl,hb,hg⟩
 have HG:=Lib.hid hg
 clear hg
 have HL2:=Lib.hid (HL.out.below hb)
 clear HL q0 q1 q2 q3
 have HL:=HL2
 clear HL2 hb
 obtain ⟨⟨q0,q1,q2,q3⟩,-⟩:=HL.out.box.k4
 cases b
 case true =>
  go_wp2_with fail
  refine (HDN.out _ HL.out.bel).mono ?_
  rintro e W9 ⟨rfl,hb9⟩
  go_wp2_with fail
  go_ret
  exact ⟨rfl,hb9⟩
 have HF:=Lib.hid (HG.out rfl)
 clear HG
 have HFi:=Lib.hid HF.out.sch.fine
 have HL9:Hid (v.length≤100000):=Lib.hid (Nat.le_trans HF.out.vl (by decide))
 have HZ9:Hid (∀ n ∈ v,n.text.size≤100000):=Lib.hid (fun n hn=>by obtain ⟨i,hi,rfl⟩:=List.getElem_of_mem hn;exact Nat.le_trans (HF.out.tx i hi) (by decide))
 obtain ⟨R,HR⟩:∃ R,Hid (Vl.fits x t v=R):=⟨_,Lib.hid rfl⟩
 have hRR:((R:Int) == (R:Int))=true:=by simp
 go_upto_region 3 with (fail)
 clear q0 q1 q2 q3
 have dS:∀ w',Bl W1 w'→Bk w' w.heap.size 26 #[.string x.name,.slice A1 n1 c1,.slice A2 n2 c2,.slice A3 n3 c3]:=fun w' hb=>HL.out.box.below hb HL.out.box.lt
 have hc:∀ W,Bl W1 W→Calls Tryz.prog 17 #[.agg #[.string x.name,.slice A1 n1 c1,.slice A2 n2 c2,.slice A3 n3 c3],.slice A n c,.slice A9 n9 c9] W fun e w'=>e=.returned (.int .i64 (R:Int))∧Bl W1 w':=fun W hW=>by
  refine calls_bl hW ?_
  rw [← HR.out]
  exact vfits_any _ x HFi.out _ t _ v HL9.out HZ9.out _ (HKW.out.below (HL.out.bel.trans (hW.mono HL.out.bel.size))) (Id.SchV.below hW (Id.SchV.below HL.out.bel HV.out)) (Id.SortsR.below (Id.SortsR.below HS.out HL.out.bel) hW) (Vl.ValR.below (Vl.ValR.below HVV.out HL.out.bel) hW)
 have HC0:=Lib.hid hc
 clear hc
 have hc:∀ W,Bl W1 W→Calls Tryz.prog 18 #[.agg #[.string x.name,.slice A1 n1 c1,.slice A2 n2 c2,.slice A3 n3 c3],.slice A n c,.slice A9 n9 c9] W fun e w'=>e=.returned (.int .i64 (R:Int))∧Bl W1 w':=fun W hW=>by
  refine calls_bl hW ?_
  rw [← HR.out]
  exact rfits_any _ x HFi.out _ t _ v HL9.out HZ9.out _ (Id.SchV.below hW (Id.SchV.below HL.out.bel HV.out)) (Id.SortsR.below (Id.SortsR.below HS.out HL.out.bel) hW) (Vl.ValR.below (Vl.ValR.below HVV.out HL.out.bel) hW)
 have HC1:=Lib.hid hc
 clear hc
 have hc:∀ W,Bl W1 W→Calls Tryz.prog 16 #[] W fun e w'=>e=.returned (.bool true)∧Bl W1 w':=fun W hW=>by
  refine calls_bl hW ?_
  exact wakes15_any _ (HKW.out.below (HL.out.bel.trans (hW.mono HL.out.bel.size)))
 have HC2:=Lib.hid hc
 clear hc
 refine wp_region_bl W1 (by kernel_rfl) (by kernel_rfl) (Bl.refl _) ?_
 repeat (first | go_big_quiet_step ((intro hb;first | with_reducible exact HC0.out _ hb | with_reducible exact HC1.out _ hb | with_reducible exact HC2.out _ hb)) | (refine wpQuiet_step (fun K hK=>?_);rw [if_pos (by rfl)];refine quiet_load_row _ _ rfl _ rfl _ _ _ (by assumption) Tryz.underlying26 rfl (by kernel_rfl) ?_;go_simp;refine hK _ ?_;clear hK K) | (refine wpQuiet_step (fun K hK=>?_);go_simp;refine ⟨_,fun _ _=>rfl,hK _ ?_⟩;clear hK K))
 refine wpQuiet_nil ?_
 intro W9 hb9
 go_wp2_with fail
 go_ret
 exact ⟨rfl,HL.out.bel.trans (hb9.mono HL.out.bel.size)⟩
end Go.Proofs.YtgefichiillehaaGreatDoor
set_option linter.unusedVariables false
set_option linter.unusedSimpArgs false
namespace Go.Proofs.YtgefichiillehaaGreatDoor
open Go.RowKit Go.BigFrame
set_option maxRecDepth 100000 in
set_option maxHeartbeats 16000000 in
theorem valueFields_walk (sv:Value) (x:Id.Sch) (rn:ByteArray) (vs:Value) (v:List Vl.Node) (fn:ByteArray) (w0:World) (hv:Id.SchV w0 none sv x) (hrn:rn.size≤maxLen) (hvv:Vl.ValR w0 none vs v) (hok:∀ n ∈ v,Cd.OkN n) (hfn:fn.size≤maxLen) (w:World) (he:w=w0) (hk:Tk.KW w) :
  Calls Tryz.prog 5 #[sv,.string rn,vs,.string fn] w fun e w'=>e=.returned (.bool true)∧Below w.heap.size w w':=by
 subst he
 have HKW:=Lib.hid hk
 clear hk
 unfold maxLen at hrn hfn
 have HV:=Lib.hid hv
 obtain ⟨A1,n1,c1,A2,n2,c2,A3,n3,c3,rfl,-,-,-⟩:=hv
 have HVV:=Lib.hid hvv
 obtain ⟨A9,n9,c9,rfl⟩:=ERow.is hvv
 have HN9:Hid (n9=v.length):=Lib.hid (by obtain ⟨_,_,e,_⟩:=ERow.slice hvv;injection e)
 clear hvv hok
 have done:∀ W,Below w.heap.size w W→Calls Tryz.prog 16 #[] W fun e w'=>e=.returned (.bool true)∧Below w.heap.size w w':=fun W hW=>(wakes15_any W (HKW.out.below hW)).mono fun _ _ ⟨h1,h2⟩=>⟨h1,hW.trans (h2.mono hW.size)⟩
 have HDN:=Lib.hid done
 clear done
 go_enter Tryz.func5,Tryz.ntmps5
 go_upto_region 1 with (fail)
 refine wp_named (fun V hV=>?_)
 have HL:=Lib.hid (Chk.Lx.start hV)
 clear hV
 obtain ⟨⟨q0,q1,q2,q3⟩,-⟩:=HL.out.box.k4
 go_wp2_with fail
 refine (vgreat_any _ x _ [] _ v _ (Id.SchV.below HL.out.bel HV.out) (ERow.nil_none _ _ _ _) (Vl.ValR.below HVV.out HL.out.bel)).mono ?_
 rintro e W1 ⟨b,rfl,hb,hg⟩
 have HG:=Lib.hid hg
 clear hg
 have HL2:=Lib.hid (HL.out.below hb)
 clear HL q0 q1 q2 q3
 have HL:=HL2
 clear HL2 hb
 obtain ⟨⟨q0,q1,q2,q3⟩,-⟩:=HL.out.box.k4
 cases b
 case true =>
  go_wp2_with fail
  refine (HDN.out _ HL.out.bel).mono ?_
  rintro e W9 ⟨rfl,hb9⟩
  go_wp2_with fail
  go_ret
  exact ⟨rfl,hb9⟩
 have HF:=Lib.hid (HG.out rfl)
 clear HG
 by_cases hr:rn.size≤200
 case neg =>
  have hri:(200:Int) < (rn.size:Int):=by omega
  go_wp2_with fail
  refine (HDN.out _ HL.out.bel).mono ?_
  rintro e W9 ⟨rfl,hb9⟩
  go_wp2_with fail
  go_ret
  exact ⟨rfl,hb9⟩
 have hri:¬ (200:Int) < (rn.size:Int):=by omega
 by_cases hf:fn.size≤200
 case neg =>
  have hfi:(200:Int) < (fn.size:Int):=by omega
  go_wp2_with fail
  refine (HDN.out _ HL.out.bel).mono ?_
  rintro e W9 ⟨rfl,hb9⟩
  go_wp2_with fail
  go_ret
  exact ⟨rfl,hb9⟩
 have hfi:¬ (200:Int) < (fn.size:Int):=by omega
 have HFi:=Lib.hid HF.out.sch.fine
 have HL9:Hid (v.length≤100000):=Lib.hid (Nat.le_trans HF.out.vl (by decide))
 have HZ9:Hid (∀ n ∈ v,n.text.size≤100000):=Lib.hid (fun n hn=>by obtain ⟨i,hi,rfl⟩:=List.getElem_of_mem hn;exact Nat.le_trans (HF.out.tx i hi) (by decide))
 obtain ⟨R,HR⟩:∃ R,Hid (Vl.field x rn v fn=R):=⟨_,Lib.hid rfl⟩
 go_wp2_with fail
 refine (vfield_any _ x HFi.out rn _ v HL9.out HZ9.out fn _ (HKW.out.below HL.out.bel) (Id.SchV.below HL.out.bel HV.out) (Vl.ValR.below HVV.out HL.out.bel)).mono ?_
 rw [HR.out]
 rintro e W2 ⟨u2,rfl,hb,hu⟩
 have HU2:=Lib.hid hu.none
 clear hu
 have HL2:=Lib.hid (HL.out.below hb)
 clear HL q0 q1 q2 q3
 have HL:=HL2
 clear HL2 hb
 obtain ⟨⟨q0,q1,q2,q3⟩,-⟩:=HL.out.box.k4
 go_wp2_with fail
 refine (rfield_any _ x HFi.out rn _ v HL9.out HZ9.out fn _ (Id.SchV.below HL.out.bel HV.out) (Vl.ValR.below HVV.out HL.out.bel)).mono ?_
 rw [HR.out]
 rintro e W3 ⟨u3,rfl,hb,hu⟩
 have HU3:=Lib.hid hu.none
 clear hu
 have HU2:=Lib.hid (Vl.ValR.below HU2.out hb)
 have HL2:=Lib.hid (HL.out.below hb)
 clear HL q0 q1 q2 q3
 have HL:=HL2
 clear HL2 hb
 obtain ⟨⟨q0,q1,q2,q3⟩,-⟩:=HL.out.box.k4
 go_wp2_with fail
 obtain ⟨S,HSo⟩:∃ S,Hid (Vl.ordP x rn v=S):=⟨_,Lib.hid rfl⟩
 refine (vorder_any _ x HFi.out rn _ v HL9.out HZ9.out _ (HKW.out.below HL.out.bel) (Id.SchV.below HL.out.bel HV.out) (Vl.ValR.below HVV.out HL.out.bel)).mono ?_
 rw [HSo.out]
 rintro e W4 ⟨rfl,hb⟩
 have HU2:=Lib.hid (Vl.ValR.below HU2.out hb)
 have HU3:=Lib.hid (Vl.ValR.below HU3.out hb)
 have HL2:=Lib.hid (HL.out.below hb)
 clear HL q0 q1 q2 q3
 have HL:=HL2
 clear HL2 hb
 obtain ⟨⟨q0,q1,q2,q3⟩,-⟩:=HL.out.box.k4
 go_wp2_with fail
 refine (rorder15_any _ x HFi.out rn _ v HL9.out HZ9.out _ (Id.SchV.below HL.out.bel HV.out) (Vl.ValR.below HVV.out HL.out.bel)).mono ?_
 rw [← Vl.ord_same,HSo.out]
 rintro e W5 ⟨rfl,hb⟩
 have HU2:=Lib.hid (Vl.ValR.below HU2.out hb)
 have HU3:=Lib.hid (Vl.ValR.below HU3.out hb)
 have HL2:=Lib.hid (HL.out.below hb)
 clear HL q0 q1 q2 q3
 have HL:=HL2
 clear HL2 hb
 obtain ⟨⟨q0,q1,q2,q3⟩,-⟩:=HL.out.box.k4
 go_wp2_with fail
 have hRl:Hid ((R.getD []).length≤100000):=Lib.hid (by rw [← HR.out];exact Vl.field_len HL9.out)
 refine (rsame15_any _ _ _ _ _ HU2.out HU3.out hRl.out).mono ?_
 rw [Vl.sameF_refl]
 rintro e W6 ⟨rfl,hb⟩
 have HL2:=Lib.hid (HL.out.below hb)
 clear HL q0 q1 q2 q3
 have HL:=HL2
 clear HL2 hb
 obtain ⟨⟨q0,q1,q2,q3⟩,-⟩:=HL.out.box.k4
 go_wp2_with fail
 refine (HDN.out _ HL.out.bel).mono ?_
 rintro e W9 ⟨rfl,hb9⟩
 go_wp2_with fail
 go_ret
 exact ⟨rfl,hb9⟩
end Go.Proofs.YtgefichiillehaaGreatDoor
