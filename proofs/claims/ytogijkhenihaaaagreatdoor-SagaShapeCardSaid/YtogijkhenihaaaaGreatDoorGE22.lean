/- codec, plain: a number read of bytes, in its one way of being written. No condition. -/
import Derived.Test.YtogijkhenihaaaaGreatDoorGE21
import Derived.Test.YtogijkhenihaaaaGreatDoorGE19
import Derived.Test.YtogijkhenihaaaaGreatDoorGE18
import Derived.Test.YtogijkhenihaaaaGreatDoorGE15
import Derived.Test.YtogijkhenihaaaaGreatDoorGE20
import Derived.Lib.AppendStr
import Derived.Laws.Bits64
import Derived.Laws.BitsAllLaws
import Derived.Laws.BitsLemmas
set_option linter.unusedVariables false
set_option linter.unusedSimpArgs false
namespace Go.Proofs.YtogijkhenihaaaaGreatDoor
namespace Cd
open Go.Proofs.YtogijkhenihaaaaGreatDoor.Ev
/-- A number at the beginning of bytes; false: they are too few, true: it is none. -/
def nmF (l:List UInt8):Nat→Nat→Except Bool (Nat × Nat)
 | 0,_=>.error true
 | g+1,i=>if i<l.length then (if i=9∧1<(l.getD i 0).toNat then .error true else if (l.getD i 0).toNat<128 then (if (l.getD i 0).toNat=0∧0<i then .error true else .ok (acc l (i+1),i+1)) else nmF l g (i+1)) else .error false
def num (b:List UInt8) (p:Nat):Except (Nat × Nat) (Nat × Nat):=match nmF (b.drop p) 10 0 with
 | .ok q=>.ok (q.1,p+q.2)
 | .error true=>.error (p,162)
 | .error false=>.error (b.length,160)
def bit (b:List UInt8) (p:Nat):Except (Nat × Nat) (Nat × Nat):=if p<b.length then (if 1<(b.getD p 0).toNat then .error (p,162) else .ok ((b.getD p 0).toNat,p+1)) else .error (b.length,160)
theorem acc_next {l:List UInt8} {i:Nat} (h9:i≤9) (ha:acc l i<128 ^ i) (hc:(l.getD i 0).toNat % 128<128) (h1:i=9→(l.getD i 0).toNat % 128<2):acc l (i+1)=acc l i+(l.getD i 0).toNat % 128 * 128 ^ i:=by
 have hle:128 ^ i≤128 ^ 9:=Nat.pow_le_pow_right (by decide) h9
 have hp9:(128:Nat) ^ 9=9223372036854775808:=by decide
 have hlt:(l.getD i 0).toNat % 128 * 128 ^ i<18446744073709551616:=by
  by_cases h:i=9
  ·have:=h1 h
   have h2:(l.getD i 0).toNat % 128 * 128 ^ i≤1 * 128 ^ i:=Nat.mul_le_mul_right _ (by omega)
   omega
  ·have hps:128 ^ (i+1)=128 ^ i * 128:=Nat.pow_succ ..
   have hle2:128 ^ (i+1)≤128 ^ 9:=Nat.pow_le_pow_right (by decide) (by omega)
   have h2:(l.getD i 0).toNat % 128 * 128 ^ i≤127 * 128 ^ i:=Nat.mul_le_mul_right _ (by omega)
   omega
 simp only [acc]
 rw [pow128,Nat.mod_eq_of_lt hlt,or_join (7 * i) (by rw [pow128];exact ha) (by rw [pow128];exact Nat.mul_mod_left _ _)]
theorem nmF_ok (l:List UInt8):∀ (g i u j:Nat),g+i=10→acc l i<128 ^ i→nmF l g i=.ok (u,j) →
  ∃ y,(0<i→y≠0)∧u=acc l i+128 ^ i * y∧y<2 * 128 ^ (9 - i)∧l.drop i=varF (9 - i) y++l.drop j∧i<j∧j≤l.length
 | 0,i,u,j,hg,ha,h=>by unfold nmF at h;cases h
 | g+1,i,u,j,hg,ha,h=>by
  unfold nmF at h
  split at h
  ·rename_i hi
   split at h
   ·cases h
   ·rename_i h9
    have hd:l.drop i=(l.getD i 0)::l.drop (i+1):=by
     rw [List.drop_eq_getElem_cons hi,List.getD_eq_getElem?_getD,List.getElem?_eq_getElem hi,Option.getD_some]
    have hcb:(l.getD i 0).toNat<256:=UInt8.toNat_lt _
    split at h
    ·rename_i hc
     split at h
     ·cases h
     ·rename_i h0
      injection h with h
      injection h with h1 h2
      subst h1 h2
      have hm:(l.getD i 0).toNat % 128=(l.getD i 0).toNat:=Nat.mod_eq_of_lt hc
      refine ⟨(l.getD i 0).toNat,fun hi0 h=>h0 ⟨h,hi0⟩,?_,?_,?_,Nat.lt_succ_self _,hi⟩
      ·rw [acc_next (by omega) ha (by omega) (fun h=>by omega),hm,Nat.mul_comm]
      ·by_cases hi9:i=9
       ·have h2:¬1<(l.getD i 0).toNat:=fun h=>h9 ⟨hi9,h⟩
        rw [hi9] at h2 ⊢
        show _<2 * 128 ^ 0
        omega
       ·have:128 ^ 1≤128 ^ (9 - i):=Nat.pow_le_pow_right (by decide) (by omega)
        omega
      ·rw [hd]
       have hv:varF (9 - i) (l.getD i 0).toNat=[UInt8.ofNat (l.getD i 0).toNat]:=by
        cases h9i:9 - i with
        | zero=>rfl
        | succ m=>unfold varF;rw [if_pos hc]
       rw [hv,UInt8.ofNat_toNat,List.singleton_append]
    ·rename_i hc
     have hi8:i≤8:=by
      rcases Nat.lt_or_ge i 9 with h' | h'
      ·omega
      ·exact absurd ⟨by omega,by omega⟩ h9
     have ha':=acc_next (by omega) ha (Nat.mod_lt _ (by decide)) (fun h=>by omega)
     have hps:128 ^ (i+1)=128 ^ i * 128:=Nat.pow_succ ..
     have hb:(l.getD i 0).toNat % 128 * 128 ^ i≤127 * 128 ^ i:=Nat.mul_le_mul_right _ (by omega)
     obtain ⟨y,y0,hu,hy,hl,hj,hjl⟩:=nmF_ok l g (i+1) u j (by omega) (by omega) h
     have y0:=y0 (by omega)
     obtain ⟨c,hcn⟩:∃ c,(l.getD i 0).toNat=c+128:=⟨(l.getD i 0).toNat - 128,by omega⟩
     have hcm:(l.getD i 0).toNat % 128=c:=by omega
     refine ⟨c+128 * y,fun _=>by omega,?_,?_,?_,by omega,hjl⟩
     ·rw [hu,ha',hcm,hps,Nat.mul_add,Nat.mul_comm c,Nat.mul_assoc,Nat.add_assoc]
     ·have:128 ^ (9 - i)=128 ^ (9 - (i+1)) * 128:=by rw [←Nat.pow_succ];congr 1;omega
      omega
     ·rw [hd,show 9 - i=(9 - (i+1))+1 by omega]
      unfold varF
      rw [if_neg (by omega),show (c+128 * y) % 128+128=(l.getD i 0).toNat by omega,show (c+128 * y) / 128=y by omega,UInt8.ofNat_toNat,List.cons_append,←hl]
  ·cases h
theorem num_ok {b:List UInt8} {p u q:Nat} (h:num b p=.ok (u,q)):u<18446744073709551616∧b.drop p=var u++b.drop q∧p<q∧q≤b.length:=by
 unfold num at h
 split at h
 ·rename_i x hx
  injection h with h
  injection h with h1 h2
  obtain ⟨y,-,hu,hy,hl,hj,hjl⟩:=nmF_ok (b.drop p) 10 0 x.1 x.2 rfl (by simp [acc]) hx
  have hacc:acc (b.drop p) 0=0:=rfl
  rw [hacc] at hu
  simp only [Nat.pow_zero,Nat.one_mul,Nat.zero_add,Nat.sub_zero,List.drop_zero,List.drop_drop] at hu hl hy
  rw [List.length_drop] at hjl
  subst h2
  rw [←h1,hu]
  exact ⟨by simpa using hy,hl,by omega,by omega⟩
 ·cases h
 ·cases h
theorem bit_ok {b:List UInt8} {p u q:Nat} (h:bit b p=.ok (u,q)):u≤1∧b.drop p=UInt8.ofNat u::b.drop q∧q=p+1∧q≤b.length:=by
 unfold bit at h
 split at h
 ·rename_i hp
  split at h
  ·cases h
  ·rename_i h1
   injection h with h
   injection h with e1 e2
   subst e1 e2
   refine ⟨by omega,?_,rfl,hp⟩
   rw [UInt8.ofNat_toNat,List.drop_eq_getElem_cons hp,List.getD_eq_getElem?_getD,List.getElem?_eq_getElem hp,Option.getD_some]
 ·cases h
end Cd
end Go.Proofs.YtogijkhenihaaaaGreatDoor
set_option linter.unusedVariables false
set_option linter.unusedSimpArgs false
namespace Go.Proofs.YtogijkhenihaaaaGreatDoor
open Go.RowKit Go.BigFrame
namespace Cd
open Go.Proofs.YtogijkhenihaaaaGreatDoor.Id Go.Proofs.YtogijkhenihaaaaGreatDoor.Chk Go.Proofs.YtogijkhenihaaaaGreatDoor.Vl Go.Proofs.YtogijkhenihaaaaGreatDoor.Ev
def E0:ByteArray:=⟨#[]⟩
/-- A signed number as one without a sign, and back. -/
def zz (n:Int):Nat:=if 0≤n then 2 * n.toNat else 2 * (-(n+1)).toNat+1
def un (u:Nat):Int:=if u % 2=0 then ((u / 2:Nat):Int) else -((u / 2:Nat):Int) - 1
/-- A part's numbers are Go's. -/
structure OkN (n:Vl.Node):Prop where
 lo:-9223372036854775808≤n.int
 hi:n.int≤9223372036854775807
 tx:n.text.size≤9223372036854775807
def encN (n:Vl.Node):List UInt8 :=
 if n.kind=2 then [UInt8.ofNat n.int.toNat] else if n.kind=3 then var (zz n.int) else if n.kind=4 then var n.text.size++n.text.data.toList
 else if n.kind=5 then var n.kids.toNat else if n.kind=6 then [UInt8.ofNat n.kids.toNat] else if n.kind=8 then var n.int.toNat else []
def encs (v:List Vl.Node):List UInt8:=v.flatMap encN
theorem encs_app (a b:List Vl.Node):encs (a++b)=encs a++encs b:=List.flatMap_append
structure S where
 at_:Nat
 v:List Vl.Node
 sz:Nat
def S.put (x:S) (p:Nat) (n:Vl.Node) (z:Nat):S:=⟨p,x.v++[n],x.sz+z⟩
def S.inc (x:S):S:=⟨x.at_,x.v,x.sz+1⟩
abbrev Rs (α:Type):=Except (Nat × Nat) α
def cutT (b:List UInt8) (p n:Nat):ByteArray:=⟨((b.drop p).take n).toArray⟩
/-- A part without others; its own place is counted already. -/
def decT (b:List UInt8) (x:S) (q:Nat × Nat):Rs S:=if 4096<x.sz+q.1 then .error (x.at_,3) else if b.length<q.2+q.1 then .error (b.length,160) else .ok (x.put (q.2+q.1) ⟨4,0,cutT b q.2 q.1,0⟩ q.1)
def decL (b:List UInt8) (k:Nat) (x:S):Rs S :=
 if k=1 then .ok (x.put x.at_ ⟨1,0,E0,0⟩ 0)
 else if k=2 then (match bit b x.at_ with
  | .error e=>.error e
  | .ok q=>.ok (x.put q.2 ⟨2,q.1,E0,0⟩ 0))
 else if k=3 then (match num b x.at_ with
  | .error e=>.error e
  | .ok q=>.ok (x.put q.2 ⟨3,un q.1,E0,0⟩ 0))
 else (match num b x.at_ with
  | .error e=>.error e
  | .ok q=>decT b x q)
/-- A part with others: their types. -/
def decC (r:Rec) (b:List UInt8) (x:S):Rs (List (List Srt) × S):=match num b x.at_ with
 | .error e=>.error e
 | .ok q=>if r.fields.length≤q.1 then .error (x.at_,162) else .ok ([(r.fields.map (·.type)).getD q.1 []],x.put q.2 ⟨8,q.1,E0,1⟩ 0)
def decH (s:Sch) (b:List UInt8) (c:Srt) (t:List Srt) (x:S):Rs (List (List Srt) × S) :=
 if c.kind=5 then (match num b x.at_ with
  | .error e=>.error e
  | .ok q=>if 4096<q.1 then .error (x.at_,3) else .ok (List.replicate q.1 t,x.put q.2 ⟨5,0,E0,q.1⟩ 0))
 else if c.kind=6 then (match bit b x.at_ with
  | .error e=>.error e
  | .ok q=>.ok (List.replicate q.1 t,x.put q.2 ⟨6,0,E0,q.1⟩ 0))
 else if ((find s c.name).getD recZ).choice=true then decC ((find s c.name).getD recZ) b x
 else .ok (((find s c.name).getD recZ).fields.map (·.type),x.put x.at_ ⟨7,0,E0,((find s c.name).getD recZ).fields.length⟩ 0)
def manyD (f:List Srt→S→Rs S):List (List Srt)→S→Rs S
 | [],x=>.ok x
 | t::ts,x=>match f t x with
  | .error e=>.error e
  | .ok y=>manyD f ts y
def goD (f:List Srt→S→Rs S) (o:Rs (List (List Srt) × S)):Rs S:=match o with
 | .error e=>.error e
 | .ok p=>manyD f p.1 p.2
def isLeaf (k:Nat):Prop:=k=1∨k=2∨k=3∨k=4
instance (k:Nat):Decidable (isLeaf k):=by unfold isLeaf;infer_instance
def full (x:S):Prop:=4096≤x.v.length∨4096≤x.sz
instance (x:S):Decidable (full x):=by unfold full;infer_instance
/-- The value of a type, read; so many parts more may lie one within the other. -/
def decF (s:Sch) (b:List UInt8):Nat→List Srt→S→Rs S
 | 0,_,x=>.error (x.at_,151)
 | _+1,[],x=>.error (x.at_,162)
 | k+1,c::t,x=>if full x then .error (x.at_,3) else if isLeaf c.kind then decL b c.kind x.inc else goD (decF s b k) (decH s b c t x.inc)
theorem size_app (a b:List Vl.Node):size (a++b)=size a+size b:=by
 unfold size
 rw [List.length_append,List.map_append,List.sum_append]
 omega
/-- What a reading has come to. -/
structure Got (b:List UInt8) (x y:S) (m:List Vl.Node):Prop where
 v:y.v=x.v++m
 bs:b.drop x.at_=encs m++b.drop y.at_
 le:x.at_≤y.at_
 lim:y.at_≤b.length
 sz:y.sz=x.sz+size m
 ok:∀ n∈m,OkN n
theorem Got.trans {b:List UInt8} {x y z:S} {m m':List Vl.Node} (h:Got b x y m) (k:Got b y z m'):Got b x z (m++m') :=
 ⟨by rw [k.v,h.v,List.append_assoc],by rw [h.bs,k.bs,encs_app,List.append_assoc],Nat.le_trans h.le k.le,k.lim,by rw [k.sz,h.sz,size_app];omega,fun n hn=>by rcases List.mem_append.1 hn with h1 | h1;exact h.ok n h1;exact k.ok n h1⟩
end Cd
end Go.Proofs.YtogijkhenihaaaaGreatDoor
set_option linter.unusedVariables false
set_option linter.unusedSimpArgs false
namespace Go.Proofs.YtogijkhenihaaaaGreatDoor
open Go.RowKit Go.BigFrame
namespace Vl
def Node.val (n:Node):Value:=.agg #[.int .u8 n.kind,.int .i64 n.int,.string n.text,.int .i64 n.kids]
def Cur (w:World) (b:Nat) (vs:Value) (a:Nat) (f:Value):Prop:=Bk w b 127 #[vs,.int .i64 a,f]
end Vl
end Go.Proofs.YtogijkhenihaaaaGreatDoor
set_option linter.unusedVariables false
set_option linter.unusedSimpArgs false
namespace Go.Proofs.YtogijkhenihaaaaGreatDoor
open Go.RowKit Go.BigFrame Go.Maps Go.WideMaps
/-- An element that is any value at all. -/
def heldR (v:Value):Option (DataW Value × List MemPlace):=some (.held v,[])
namespace Vl
open Go.Proofs.YtogijkhenihaaaaGreatDoor.Id Go.Proofs.YtogijkhenihaaaaGreatDoor.Chk
def recZV:Value:=.agg #[.string ⟨#[]⟩,.bool false,.slice none 0 0]
def FM (w0 w:World) (b:Nat) (rs:List Rec):Prop :=
 ∃ (D:DataW Value) (vl:ByteArray→Value),w.ownsMap Tryz.prog 9 heldR b rs.length D∧∀ s:ByteArray,D.atKey (.string s.data.toList) (.held recZV)=.held (vl s)∧RecV w0 none (vl s) (lastR rs s)
theorem recZ_ok (w0:World):RecV w0 none recZV recZ:=⟨_,rfl,ERow.nil_none _ _ _ _⟩
theorem FM.made (w0 w:World):FM w0 (w.alloc (.map #[] 0)) w.heap.size []:=⟨_,fun _=>recZV,World.ownsMap_made _ _ _ _,fun s=>⟨rfl,recZ_ok w0⟩⟩
theorem FM.kept {w0 w w':World} {row:Option Nat} {b:Nat} {rs:List Rec} (h:FM w0 w b rs) (hg:w.grownBy w' row) (hne:some b≠row):FM w0 w' b rs:=let ⟨D,vl,h1,h2⟩:=h;⟨D,vl,h1.kept hg hne,h2⟩
theorem FM.below {w0 w w':World} {b:Nat} {rs:List Rec} (h:FM w0 w b rs) (hg:Below w.heap.size w w'):FM w0 w' b rs:=h.kept (gb_below hg none) (by simp)
theorem FM.lt {w0 w:World} {b:Nat} {rs:List Rec} (h:FM w0 w b rs):b<w.heap.size:=let ⟨_,_,h1,_⟩:=h;h1.lt
/-- The map, and the box that the finder has of it. -/
structure Fnd (w0 w:World) (g m:Nat) (rs:List Rec):Prop where
 bx:Bk w g 209 #[.map (some m)]
 lo:w0.heap.size≤g
 lom:w0.heap.size≤m
 fm:FM w0 w m rs
theorem Fnd.kept {w0 w w':World} {b g m:Nat} {rs:List Rec} (h:Fnd w0 w g m rs) (hg:w.grownBy w' (some b)) (hb:b≠g) (hm:b≠m):Fnd w0 w' g m rs :=
 ⟨h.bx.grown hg (by intro e;injection e with e;exact hb e.symm),h.lo,h.lom,h.fm.kept hg (by intro e;injection e with e;exact hm e.symm)⟩
theorem Fnd.below {w0 w w':World} {g m:Nat} {rs:List Rec} (h:Fnd w0 w g m rs) (hb:Below w.heap.size w w'):Fnd w0 w' g m rs :=
 ⟨h.bx.below hb h.bx.lt,h.lo,h.lom,h.fm.below hb⟩
/-- While the map is filled. -/
structure FinW (w wr:World) (z:Value) (S:Array Value) (rs:List Rec):Prop where
 bel:Below w.heap.size w wr
 sch:Bk wr w.heap.size 28 S
 bx:Bk wr (w.heap.size+1+1) 209 #[.map (some (w.heap.size+1))]
 fm:FM w wr (w.heap.size+1) rs
theorem FinW.below {w wr w':World} {z:Value} {S:Array Value} {rs:List Rec} (h:FinW w wr z S rs) (hb:Below wr.heap.size wr w'):FinW w w' z S rs :=
 ⟨h.bel.trans (hb.mono h.bel.size),h.sch.below hb h.sch.lt,h.bx.below hb h.bx.lt,h.fm.below hb⟩
end Vl
end Go.Proofs.YtogijkhenihaaaaGreatDoor
set_option linter.unusedVariables false
set_option linter.unusedSimpArgs false
namespace Go.Proofs.YtogijkhenihaaaaGreatDoor
open Go.RowKit Go.BigFrame
namespace Vl
open Go.Proofs.YtogijkhenihaaaaGreatDoor.Id Go.Proofs.YtogijkhenihaaaaGreatDoor.Chk
/-- What the calls share: the schema, the parts, the cursor. -/
structure Env (s:Sch) (w0 w:World) (b g m:Nat):Prop where
 bel:Below w0.heap.size w0 w
 fnd:Fnd w0 w g m s.records
 lo:w0.heap.size≤b
 ng:b≠g
 nm:b≠m
 lt:b<w.heap.size
theorem Env.grown {s:Sch} {w0 w w':World} {b g m:Nat} (h:Env s w0 w b g m) (hg:w.grownBy w' (some b)):Env s w0 w' b g m :=
 ⟨below_gb h.bel hg h.lo (Nat.le_trans h.lo (Nat.le_of_lt h.lt)),h.fnd.kept hg h.ng h.nm,h.lo,h.ng,h.nm,Nat.lt_of_lt_of_le h.lt hg.size⟩
theorem Env.below {s:Sch} {w0 w w':World} {b g m:Nat} (h:Env s w0 w b g m) (hb:Below w.heap.size w w'):Env s w0 w' b g m:=h.grown (gb_below hb _)
theorem Cur.below {w w':World} {b a:Nat} {vs f:Value} (h:Cur w b vs a f) (hb:Below w.heap.size w w'):Cur w' b vs a f:=Bk.below h hb (Bk.lt h)
def OfP (w:World) (b:Nat) (vs f:Value) (v:List Node) (R:Option (Nat × List Node)) (e:Ending) (w':World):Prop :=
 ∃ a',e=.returned (.int .i64 (deep R))∧w.grownBy w' (some b)∧Cur w' b vs a' f∧a'≤v.length∧∀ p,R=some p→p.2=v.drop a'
theorem gb_trans {a b c:World} {r:Option Nat} (h:a.grownBy b r) (k:b.grownBy c r):a.grownBy c r :=
 ⟨k.os.trans h.os,k.tape.trans h.tape,k.output.trans h.output,Nat.le_trans h.size k.size,fun i hi hn=>(k.block i (Nat.lt_of_lt_of_le hi h.size) hn).trans (h.block i hi hn)⟩
theorem OfP.after {w w1 w':World} {b:Nat} {vs f:Value} {v:List Node} {R:Option (Nat × List Node)} {e:Ending} (h:OfP w1 b vs f v R e w') (hg:w.grownBy w1 (some b)):OfP w b vs f v R e w':=by
 obtain ⟨a',h1,h2,h3⟩:=h
 exact ⟨a',h1,gb_trans hg h2,h3⟩
end Vl
end Go.Proofs.YtogijkhenihaaaaGreatDoor
set_option linter.unusedVariables false
set_option linter.unusedSimpArgs false
namespace Go.Proofs.YtogijkhenihaaaaGreatDoor
open Go.RowKit Go.BigFrame
namespace Vl
open Go.Proofs.YtogijkhenihaaaaGreatDoor.Id Go.Proofs.YtogijkhenihaaaaGreatDoor.Chk
/-- A row without its first element. -/
theorem _root_.Go.Proofs.YtogijkhenihaaaaGreatDoor.ERow.tail {α:Type} {w:World} {t:TypeId} {size n c g off:Nat} {E:World→List Value→α→Prop} {x:α} {l:List α} (h:ERow w none t size E (.slice (some ⟨g,off,none⟩) n c) (x::l)):ERow w none t size E (.slice (some ⟨g,off+size,none⟩) (n - 1) (c - 1)) l:=by
 obtain ⟨css,h1,h2,h3,h4⟩:=h
 cases css with
 | nil=>simp at h1
 | cons c0 css =>
  obtain ⟨hl,A,c',e,h5,h6,h7,h8⟩:=h3
  injection e with e1 e2 e3
  subst e1 e2 e3
  simp only [List.length_cons] at h1 h5 h6 hl
  have hc0:c0.length=size:=h2 c0 (by simp)
  refine ⟨css,by omega,fun cs hcs=>h2 cs (by simp [hcs]),⟨by rw [flatten_len (fun cs hcs=>h2 cs (by simp [hcs]))];congr 1;omega,_,_,by rw [List.length_cons,Nat.add_sub_cancel],by omega,by omega,(fun e=>by cases e),?_⟩,fun i a b=>?_⟩
  ·intro h0
   obtain ⟨g',off',e,hc⟩:=h8 (by simp only [List.flatten_cons,List.length_append];omega)
   injection e with e
   injection e with e1 e2
   subst e1 e2
   refine ⟨_,_,rfl,fun j u hu=>?_⟩
   have:=hc (size+j) u (by rw [List.flatten_cons,List.getElem?_append_right (by omega),hc0,Nat.add_sub_cancel_left];exact hu)
   rw [←Nat.add_assoc] at this
   exact this
  ·exact h4 (i+1) (by simpa using a) (by simpa using b)
end Vl
end Go.Proofs.YtogijkhenihaaaaGreatDoor
set_option linter.unusedVariables false
set_option linter.unusedSimpArgs false
namespace Go.Proofs.YtogijkhenihaaaaGreatDoor
open Go.RowKit Go.BigFrame
end Go.Proofs.YtogijkhenihaaaaGreatDoor
set_option linter.unusedVariables false
set_option linter.unusedSimpArgs false
namespace Go.Proofs.YtogijkhenihaaaaGreatDoor
open Go.RowKit Go.BigFrame
namespace Vl
open Go.Proofs.YtogijkhenihaaaaGreatDoor.Id Go.Proofs.YtogijkhenihaaaaGreatDoor.Chk
/-- What is not right in a schema and a type. -/
noncomputable def typE (s:Sch) (t:List Srt):Nat:=if (check s).2≠0 then (check s).2 else if right s t=true then 0 else 131
theorem typeP_len {t:List Srt} (h:(Prn.typeP t).toList.isEmpty=false):t.length≠0∧t.length≤12:=by
 rw [typeP_empty] at h
 have h3:(decide (t.length≤12)&&Prn.okP t)=true:=by simpa using h
 rw [Bool.and_eq_true,decide_eq_true_eq] at h3
 refine ⟨fun e=>?_,h3.1⟩
 have h4:t=[]:=List.length_eq_zero_iff.1 e
 subst h4
 cases h3.2
theorem typ_ok {s:Sch} {t:List Srt} (h:typE s t=0):Right s∧right s t=true:=by
 unfold typE at h
 split at h
 ·rename_i h1;exact absurd h h1
 ·rename_i h1
  split at h
  ·rename_i h2;exact ⟨check_ok (by omega),h2⟩
  ·cases h
theorem fine_small {x:Sch} (h:Fine x):∀ r∈x.records,r.fields.length≤10000∧∀ f∈r.fields,f.type.length≤10000:=h.small
end Vl
end Go.Proofs.YtogijkhenihaaaaGreatDoor
set_option linter.unusedVariables false
set_option linter.unusedSimpArgs false
namespace Go.Proofs.YtogijkhenihaaaaGreatDoor
open Go.RowKit Go.BigFrame
set_option maxRecDepth 100000 in
set_option maxHeartbeats 16000000 in
theorem cdright_any (sv:Value) (x:Id.Sch) (hF:Chk.Fine x) (tv:Value) (t:List Id.Srt) (w:World) (hk:Tk.KW w) (hv:Id.SchV w none sv x) (ht:Id.SortsR w none tv t) :
  Calls Tryz.prog 58 #[sv,tv] w fun e w'=>e=.returned (.int .i64 (Vl.typE x t))∧Below w.heap.size w w':=by
 obtain ⟨R,HR⟩:∃ R,Hid (Vl.typE x t=R):=⟨_,Lib.hid rfl⟩
 rw [HR.out]
 unfold Vl.typE at HR
 have HF:=Lib.hid hF
 have HKW:=Lib.hid hk
 have HV:=Lib.hid hv
 have HS:=Lib.hid ht
 obtain ⟨A,n,c,rfl⟩:=ERow.is ht
 have HN:Hid (n=t.length):=Lib.hid (by obtain ⟨_,_,e,_⟩:=ERow.slice ht;injection e)
 obtain ⟨A1,n1,c1,A2,n2,c2,A3,n3,c3,rfl,-,-,-⟩:=hv
 clear hF hk ht
 go_enter Tryz.func58,Tryz.ntmps58
 go_upto_region 1 with (fail)
 refine wp_named (fun V hV=>?_)
 have HL:=Lib.hid (Chk.Lx.start hV)
 clear hV
 obtain ⟨⟨q0,q1,q2,q3⟩,-⟩:=HL.out.box.k4
 go_wp2_with fail
 clear q0 q1 q2 q3
 refine (ccheck_any _ x HF.out _ (HKW.out.below HL.out.bel) (HV.out.below HL.out.bel)).mono ?_
 rintro e W1 ⟨rfl,hb⟩
 have HL1:=Lib.hid (HL.out.below hb)
 clear hb
 obtain ⟨⟨cw,ce⟩,HC⟩:∃ c,Hid (Chk.check x=c):=⟨_,Lib.hid rfl⟩
 rw [HC.out] at HR
 rw [HC.out]
 simp only at HR ⊢
 by_cases h0:ce=0
 case neg =>
  have HE:Hid (ce=R):=Lib.hid (by rw [←HR.out,if_pos h0])
  have t0:((ce:Int) != 0)=true:=by rw [bne_iff_ne];omega
  have t1:¬(ce:Int)=0:=by omega
  have t2:((ce:Int)==0)=false:=by rw [beq_eq_false_iff_ne];omega
  go_wp2_with fail
  go_ret
  exact ⟨by rw [←HE.out];rfl,HL1.out.bel⟩
 subst h0
 have hRt:Chk.Right x:=Chk.check_ok (by rw [HC.out])
 have HRT:=Lib.hid hRt
 have HR2:Hid ((if Chk.right x t=true then 0 else 131)=R):=Lib.hid (by rw [←HR.out];simp only [ne_eq,not_true,if_false])
 clear HR HC
 simp only [Int.cast_ofNat_Int]
 go_wp2_with fail
 refine (pType_any _ t _ (HKW.out.below HL1.out.bel) (ERow.below HS.out HL1.out.bel (fun _ _ h=>h))).mono ?_
 rintro e W2 ⟨rfl,hb⟩
 have HL2:=Lib.hid (HL1.out.below hb)
 clear hb
 obtain ⟨T,HT⟩:∃ T,Hid (Prn.typeP t=T):=⟨_,Lib.hid rfl⟩
 have HRR:Hid (Chk.right x t=(!T.toList.isEmpty&&Vl.lastOk x t)):=Lib.hid (by rw [Vl.right_typeP HRT.out,HT.out])
 have HLEN:Hid (T.toList.isEmpty=false→n≠0∧n≤12):=Lib.hid (fun h=>by rw [HN.out];exact Vl.typeP_len (by rw [HT.out];exact h))
 rw [HT.out]
 clear HT HL HL1
 cases hte:T.toList.isEmpty
 case true =>
  have HE:Hid (131=R):=Lib.hid (by rw [←HR2.out,if_neg (by rw [HRR.out,hte];simp)])
  go_wp2_with fail
  go_ret
  exact ⟨by rw [←HE.out];rfl,HL2.out.bel⟩
 obtain ⟨hn0,hn12⟩:=HLEN.out hte
 obtain ⟨k,rfl⟩:∃ k,n=k+1:=⟨n - 1,by omega⟩
 have hka:k<t.length:=by rw [←HN.out];omega
 obtain ⟨g,off,cs,rfl,-,e1,hc⟩:=ERow.get HS.out hka (by omega)
 have hlo:Vl.lastOk x t=(t[k].kind != 7||(Chk.find x t[k].name).isSome):=by unfold Vl.lastOk;rw [List.getLast?_eq_getElem?,show t.length - 1=k by rw [←HN.out];omega,List.getElem?_eq_getElem hka]
 obtain ⟨⟨yk,yn⟩,Hy⟩:∃ y,Hid (t[k]=y):=⟨_,Lib.hid rfl⟩
 rw [Hy.out] at e1 hlo
 unfold Id.SortE Id.Srt.cells at e1
 subst e1
 have HX:Hid ((if (yk != 7||(Chk.find x yn).isSome)=true then 0 else 131)=R):=Lib.hid (by rw [←HR2.out,HRR.out,hte,hlo];rfl)
 have a0:=hc 0 _ rfl
 have a1:=hc 1 _ rfl
 simp only [Nat.add_zero] at a0
 have hgl:g<w.heap.size:=World.block_lt_of_cell? w _ a0
 have a0:=(HL2.out.bel.cell hgl).trans a0
 have a1:=(HL2.out.bel.cell hgl).trans a1
 have HTE:=Lib.hid hte
 have e5:(((k+1:Nat):Int) - 1)=(k:Int):=by omega
 have e6:((k:Int)+1 - 1)=(k:Int):=by omega
 have ik0:(0:Int)≤(k:Int):=by omega
 have ik1:(k:Int)<((k+1:Nat):Int):=by omega
 have ik2:(k:Int)<(k:Int)+1:=by omega
 clear hc Hy hlo HLEN HR2 HRR hn0
 go_upto_region 7 with (fail)
 refine wp_named (fun W3 hW=>?_)
 obtain ⟨hb3,hq3,-⟩:=fresh_box hW
 clear hW
 have HL3:=Lib.hid (HL2.out.below hb3)
 obtain ⟨⟨b0,b1⟩,-⟩:=hq3.k2
 clear hb3 hq3 a0 a1 HL2 hte
 by_cases h7:yk=7
 case neg =>
  have HE:Hid (0=R):=Lib.hid (by rw [←HX.out,if_pos (by rw [show (yk != 7)=true by rw [bne_iff_ne];exact h7];rfl)])
  have t0:((yk:Int)==7)=false:=by rw [beq_eq_false_iff_ne];omega
  have t1:¬(yk:Int)=7:=by omega
  go_wp2_with fail
  go_ret
  exact ⟨by rw [←HE.out];rfl,HL3.out.bel⟩
 subst h7
 simp only [Int.cast_ofNat_Int] at *
 obtain ⟨⟨q0,q1,q2,q3⟩,-⟩:=HL3.out.box.k4
 go_wp2_with fail
 refine (cfind_any _ x yn (Vl.fine_small HF.out) _ (HV.out.below HL3.out.bel)).mono ?_
 rintro e W4 ⟨u,rfl,hb,uu,rfl,hu⟩
 obtain ⟨A9,n9,c9,rfl⟩:=ERow.is hu
 have HL4:=Lib.hid (HL3.out.below hb)
 clear hb hu b0 b1 q0 q1 q2 q3
 cases hs:(Chk.find x yn).isSome
 case false =>
  have HE:Hid (131=R):=Lib.hid (by rw [←HX.out,if_neg (by rw [hs];decide)])
  go_wp2_with fail
  go_ret
  exact ⟨by rw [←HE.out];rfl,HL4.out.bel.trans (((Below.refl _ _).alloc (Nat.le_refl _) _).mono HL4.out.bel.size)⟩
 have HE:Hid (0=R):=Lib.hid (by rw [←HX.out,if_pos (by rw [hs];rfl)])
 go_wp2_with fail
 go_ret
 exact ⟨by rw [←HE.out];rfl,HL4.out.bel.trans (((Below.refl _ _).alloc (Nat.le_refl _) _).mono HL4.out.bel.size)⟩
namespace Cd
theorem xor_all {a:Nat} (h:a<18446744073709551616):a ^^^ 18446744073709551615=18446744073709551615 - a:=by
 have h1:(BitVec.ofNat 64 a ^^^ BitVec.allOnes 64)= ~~~(BitVec.ofNat 64 a):=BitVec.xor_allOnes
 have h2:=congrArg BitVec.toNat h1
 rw [BitVec.toNat_xor,BitVec.toNat_allOnes,BitVec.toNat_not,BitVec.toNat_ofNat,Nat.mod_eq_of_lt (by simpa using h)] at h2
 simpa using h2
theorem back_eq {u:Nat} (h:u<18446744073709551616):bits .xor .i64 ((u:Int) / 2) (IntKind.i64.wrap (-IntKind.i64.wrap (bits .and .u64 (u:Int) 1)))=un u:=by
 have e1:bits .and .u64 (u:Int) 1=((u % 2:Nat):Int):=by
  have h:=u64_and_nat u 1 h (by omega)
  rw [Nat.and_one_is_mod] at h
  exact h
 rw [e1]
 have e2:(u:Int) / 2=((u / 2:Nat):Int):=by omega
 rw [e2]
 have hu:u / 2<9223372036854775808:=by omega
 unfold un
 rcases Nat.mod_two_eq_zero_or_one u with h0 | h0
 ·rw [h0,if_pos rfl]
  show IntKind.i64.wrap ((BitVec.ofInt 64 ((u / 2:Nat):Int) ^^^ BitVec.ofInt 64 0).toNat:Int)=_
  rw [BitVec.toNat_xor,ofInt_u64 _ (by omega),show (BitVec.ofInt 64 0).toNat=0 from rfl,Nat.xor_zero]
  unfold IntKind.wrap
  simp [IntKind.bits,IntKind.signed]
  omega
 ·rw [h0,if_neg (by omega)]
  show IntKind.i64.wrap ((BitVec.ofInt 64 ((u / 2:Nat):Int) ^^^ BitVec.ofInt 64 (-1)).toNat:Int)=_
  rw [BitVec.toNat_xor,ofInt_u64 _ (by omega),show (BitVec.ofInt 64 (-1)).toNat=18446744073709551615 from rfl,xor_all (by omega)]
  unfold IntKind.wrap
  simp [IntKind.bits,IntKind.signed]
  omega
end Cd
set_option maxRecDepth 100000 in
theorem cback_any (u:Nat) (h2:u<18446744073709551616) (w:World) :
  Calls Tryz.prog 125 #[.int .u64 u] w fun e w'=>e=.returned (.int .i64 (Cd.un u))∧w'=w:=by
 have HE:Hid (bits .xor .i64 ((u:Int) / 2) (wrap64 (-wrap64 (bits .and .u64 (u:Int) 1)))=Cd.un u):=Lib.hid (by
  have e:∀ n,wrap64 n=IntKind.i64.wrap n:=fun n=>by first | (rw [IntKind.wrap_i64];rfl) | (rw [IntKind.wrap_i64];unfold wrap64;rfl) | simp [wrap64,IntKind.wrap,IntKind.bits,IntKind.signed]
  rw [e,e]
  exact Cd.back_eq h2)
 go_enter Tryz.func125,Tryz.ntmps125
 go_wp2_with fail
 go_ret
 exact ⟨by rw [←HE.out];rfl,rfl⟩
end Go.Proofs.YtogijkhenihaaaaGreatDoor
set_option linter.unusedVariables false
set_option linter.unusedSimpArgs false
namespace Go.Proofs.YtogijkhenihaaaaGreatDoor
open Go.RowKit Go.BigFrame
namespace Cd
open Go.Proofs.YtogijkhenihaaaaGreatDoor.Id Go.Proofs.YtogijkhenihaaaaGreatDoor.Chk Go.Proofs.YtogijkhenihaaaaGreatDoor.Vl Go.Proofs.YtogijkhenihaaaaGreatDoor.Ev
/-- Nothing but one block, and cells of parts from a base on, was written; memory may have grown. -/
structure OnlyB (B g:Nat) (w w':World):Prop where
 os:w'.os=w.os
 tape:w'.tape=w.tape
 output:w'.output=w.output
 size:w.heap.size≤w'.heap.size
 block:∀ (i:Nat) (o:Obj),w.heap[i]?=some o→i≠g→(i<B∨∀ (cs:Array Value) (fr:Nat × Nat),o≠Obj.cells cs 92 fr)→w'.heap[i]?=some o
theorem OnlyB.refl (B g:Nat) (w:World):OnlyB B g w w:=⟨rfl,rfl,rfl,Nat.le_refl _,fun _ _ h _ _=>h⟩
theorem OnlyB.trans {B g:Nat} {a b c:World} (h:OnlyB B g a b) (k:OnlyB B g b c):OnlyB B g a c:=⟨k.os.trans h.os,k.tape.trans h.tape,k.output.trans h.output,Nat.le_trans h.size k.size,fun i o hg hi hn=>k.block i o (h.block i o hg hi hn) hi hn⟩
theorem OnlyB.gb {B g:Nat} {w w':World} (h:w.grownBy w' (some g)):OnlyB B g w w':=⟨h.os,h.tape,h.output,h.size,fun i o hg hi _=>(h.block i (Array.getElem?_eq_some_iff.1 hg).1 (by intro e;injection e with e;exact hi e)).trans hg⟩
theorem OnlyB.below {B g:Nat} {w w':World} (h:Below w.heap.size w w'):OnlyB B g w w':=⟨h.os,h.tape,h.output,h.size,fun i o hg _ _=>(h.block i (Array.getElem?_eq_some_iff.1 hg).1).trans hg⟩
theorem OnlyB.only {B g:Nat} {w w':World} (hb:Below B w w') (h:Only 92 w w'):OnlyB B g w w':=⟨h.os,h.tape,h.output,h.size,fun i o hg _ hn=>by
 rcases hn with hn | hn
 ·exact (hb.block i hn).trans hg
 ·exact h.block i o hg hn⟩
theorem OnlyB.bk {B g i:Nat} {w w':World} {t:TypeId} {cs:Array Value} (h:OnlyB B g w w') (hb:Bk w i t cs) (hi:i≠g) (ht:t≠92):Bk w' i t cs:=h.block i _ hb hi (.inr fun cs' fr' e'=>by injection e' with _ e2;exact ht e2)
theorem OnlyB.bel {B g:Nat} {w w':World} (h:OnlyB B g w w') (hg:B≤g) (hB:B≤w.heap.size):Below B w w' :=
 ⟨h.os,h.tape,h.output,h.size,fun i hi=>by
  have hl:i<w.heap.size:=Nat.lt_of_lt_of_le hi hB
  rw [Array.getElem?_eq_getElem hl]
  exact h.block i _ (Array.getElem?_eq_getElem hl) (by omega) (.inl hi)⟩
theorem OnlyB.kp {B g base:Nat} {T:List TypeId} {w w':World} {cs:Array Value} (h:OnlyB B g w w') (hg:Bk w g 118 cs) (h1:118 ∉ T) (h2:92 ∉ T):Kp base T w w':=fun i cs' t _ ht hi=>h.block i _ hi (by
  rintro rfl
  have e:=(show w.heap[i]?=some (.cells cs 118 (0,0)) from hg).symm.trans hi
  injection e with e
  injection e with _ e
  exact h1 (e ▸ ht)) (.inr fun cs'' fr e=>by injection e with _ e;exact h2 (e ▸ ht))
/-- A fault that a reader gives up with. -/
def pan (at_ e:Nat):Ending:=.panicked [{ v:=.iface 114 (.agg #[.int .i64 (at_:Nat),.int .i64 (e:Nat)]),recovered:=false }]
abbrev rcells (q0 q1 q2 q3:Value) (bb:ByteArray) (x:S) (vv:Value):Array Value:=#[q0,q1,q2,q3,.string bb,.int .i64 (x.at_:Nat),vv,.int .i64 (x.sz:Nat)]
structure Rdr (q0 q1 q2 q3:Value) (bb:ByteArray) (w0 w:World) (g:Nat) (x:S) (vv:Value):Prop where
 bel:Below w0.heap.size w0 w
 lo:w0.heap.size≤g
 box:Bk w g 118 (rcells q0 q1 q2 q3 bb x vv)
 row:Vl.ValR w (some w0.heap.size) vv x.v
 ha:x.at_≤bb.size
 hv:x.v.length≤4096
 hz:x.sz≤4096
section
variable {q0 q1 q2 q3 vv : Value} {bb : ByteArray} {w0 w w' : World} {g : Nat} {x : S}
theorem valR_below {b:Nat} {l:List Vl.Node} (h:Vl.ValR w (some b) vv l) (hb:Below w.heap.size w w'):Vl.ValR w' (some b) vv l:=ERow.below (show ERow w (some b) 92 4 Vl.NodE vv l from h) hb (fun _ _ h=>h)
theorem Rdr.below (h:Rdr q0 q1 q2 q3 bb w0 w g x vv) (hb:Below w.heap.size w w'):Rdr q0 q1 q2 q3 bb w0 w' g x vv :=
 ⟨h.bel.trans (hb.mono h.bel.size),h.lo,h.box.below hb h.box.lt,valR_below h.row hb,h.ha,h.hv,h.hz⟩
theorem valR_set {b:Nat} {l:List Vl.Node} {cs:Array Value} (h:Vl.ValR w (some b) vv l) (hg:Bk w g 118 cs) (j:Nat) (u:Value):Vl.ValR (w.setCell ⟨g,j,none⟩ u) (some b) vv l :=
 ERow.kp (T:=[92]) (show ERow w (some b) 92 4 Vl.NodE vv l from h) (Only.kp (Only.set hg j u) b (by decide)) (Nat.le_refl _) (by decide) (fun _ _ h=>h)
theorem Rdr.at_ (h:Rdr q0 q1 q2 q3 bb w0 w g x vv) (p:Nat) (hp:p≤bb.size):Rdr q0 q1 q2 q3 bb w0 (w.setCell ⟨g,5,none⟩ (.int .i64 (p:Nat))) g ⟨p,x.v,x.sz⟩ vv :=
 ⟨h.bel.setCell (p:=⟨g,5,none⟩) h.lo _,h.lo,h.box.set_ 5 _,valR_set h.row h.box 5 _,hp,h.hv,h.hz⟩
theorem Rdr.size_ (h:Rdr q0 q1 q2 q3 bb w0 w g x vv) (z:Nat) (hz:z≤4096):Rdr q0 q1 q2 q3 bb w0 (w.setCell ⟨g,7,none⟩ (.int .i64 (z:Nat))) g ⟨x.at_,x.v,z⟩ vv :=
 ⟨h.bel.setCell (p:=⟨g,7,none⟩) h.lo _,h.lo,h.box.set_ 7 _,valR_set h.row h.box 7 _,h.ha,h.hv,hz⟩
theorem Rdr.drew (h:Rdr q0 q1 q2 q3 bb w0 w g x vv):Rdr q0 q1 q2 q3 bb w0 w.drew g x vv:=h.below (Below.drew (Below.refl _ _))
/-- A part appended, then laid into the block. -/
theorem Rdr.row_ (h:Rdr q0 q1 q2 q3 bb w0 w g x vv) {w':World} {v':Value} {l:List Vl.Node} (hb:Below w0.heap.size w w') (ho:Only 92 w w') (hr:Vl.ValR w' (some w0.heap.size) v' l) (hl:l.length≤4096) :
  Rdr q0 q1 q2 q3 bb w0 (w'.setCell ⟨g,6,none⟩ v') g ⟨x.at_,l,x.sz⟩ v':=by
 have hbx:=ho.bk h.box (by decide)
 exact ⟨(h.bel.trans hb).setCell (p:=⟨g,6,none⟩) h.lo _,h.lo,hbx.set_ 6 _,valR_set hr hbx 6 _,h.ha,hl,h.hz⟩
/-- A type's row that no reading changes. -/
def Sts (B g:Nat) (w:World) (tv:Value) (t:List Srt):Prop:=∀ w',OnlyB B g w w'→SortsR w' none tv t
theorem Sts.now {B:Nat} {tv:Value} {t:List Srt} (h:Sts B g w tv t):SortsR w none tv t:=h w (OnlyB.refl _ _ _)
theorem Sts.next {B:Nat} {tv:Value} {t:List Srt} (h:Sts B g w tv t) (k:OnlyB B g w w'):Sts B g w' tv t:=fun w2 h2=>h w2 (k.trans h2)
theorem Sts.old {tv:Value} {t:List Srt} (h:SortsR w0 none tv t) (hb:Below w0.heap.size w0 w) (hg:w0.heap.size≤g):Sts w0.heap.size g w tv t:=fun w' k=>ERow.below h (hb.trans (k.bel hg hb.size)) (fun _ _ h=>h)
theorem Sts.own {B b:Nat} {tv:Value} {t:List Srt} {cs:Array Value} (h:SortsR w (some b) tv t) (hg:Bk w g 118 cs):Sts B g w tv t:=fun w' k =>
 ERow.mono (ERow.kp (T:=[44]) h (k.kp hg (by decide) (by decide)) (Nat.le_refl _) (by decide) (fun _ _ h=>h)) (fun _ _ hr=>hr.weak (wk_none _)) (fun _ _ h=>h)
theorem flds_only {B b:Nat} {u:Value} {l:List Fld} {cs:Array Value} (h:FldsR w (some b) u l) (k:OnlyB B g w w') (hg:Bk w g 118 cs):FldsR w' (some b) u l:=by
 have hk:Kp b [176,44] w w':=k.kp hg (by decide) (by decide)
 refine ERow.kp h hk (Nat.le_refl _) (by decide) (fun cs x he=>?_)
 obtain ⟨u',e,hs⟩:=he
 exact ⟨u',e,ERow.kp hs hk (Nat.le_refl _) (by decide) (fun _ _ h=>h)⟩
end
end Cd
end Go.Proofs.YtogijkhenihaaaaGreatDoor
set_option linter.unusedVariables false
namespace Go.Proofs.YtogijkhenihaaaaGreatDoor
open Go.RowKit
namespace Ev
theorem and127 (c:Nat) (hc:c<256):bits .and .u8 (c:Int) 127=((c % 128:Nat):Int):=by
 have h:=u8_and_nat c 127 hc (by omega)
 have e:∀ z,z<256→z &&& 127=z % 128:=by decide +kernel
 rw [e c hc] at h
 exact h
theorem acc_or {a c k:Nat} (ha:a<18446744073709551616) (hc:c<256) :
  bits .or .u64 (a:Int) (IntKind.u64.wrap (IntKind.u64.wrap (bits .and .u8 (c:Int) 127) * 2 ^ (7 * k)))=((a ||| (c % 128 * 2 ^ (7 * k) % 18446744073709551616):Nat):Int):=by
 rw [and127 c hc]
 have e1:IntKind.u64.wrap ((c % 128:Nat):Int)=((c % 128:Nat):Int):=by rw [IntKind.wrap_u64];omega
 have e2:IntKind.u64.wrap (((c % 128:Nat):Int) * 2 ^ (7 * k))=((c % 128 * 2 ^ (7 * k) % 18446744073709551616:Nat):Int):=by
  rw [IntKind.wrap_u64,show ((2:Int) ^ (7 * k))=((2 ^ (7 * k):Nat):Int) from by rw [Int.natCast_pow];rfl,←Int.natCast_mul]
  rfl
 rw [e1,e2]
 exact u64_or_nat a _ ha (Nat.mod_lt _ (by decide))
end Ev
end Go.Proofs.YtogijkhenihaaaaGreatDoor
