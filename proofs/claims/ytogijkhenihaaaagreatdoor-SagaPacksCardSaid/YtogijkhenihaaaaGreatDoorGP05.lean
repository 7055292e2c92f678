/- Rows of strings; a whole row put behind a row of the call's own. No condition. -/
import Derived.Test.YtogijkhenihaaaaGreatDoorGP01
import Derived.Test.YtogijkhenihaaaaGreatDoorGP03
import Derived.Test.YtogijkhenihaaaaGreatDoorGP04
import Derived.Laws.ResultCell
set_option linter.unusedVariables false
set_option linter.unusedSimpArgs false
namespace Go.Proofs.YtogijkhenihaaaaGreatDoor
open Go.RowKit
/-- A row of strings. -/
def StrE (w:World) (cs:List Value) (x:ByteArray):Prop:=cs=[.string x]
def StrsR (w:World) (B:Option Nat) (v:Value) (l:List ByteArray):Prop:=ERow w B 9 1 StrE v l
theorem info_strs:(Tryz.prog.info? 9).map (fun i=>(i.zero,i.size,i.bytes))=some (some (.string ByteArray.empty),1,16):=by kernel_rfl
/-- A whole row put behind a row of the call's own. -/
theorem wpList_append_rowsS {P:Program} {ops:Array Oper} {rest:List Oper} {o:Oper} {a:Act} {Q:Exit→Act→World→Prop} {w:World} (hgd:o.guard=none) (s y:Operand) (t:TypeId)
  (ho:o.op=.call { callee:=.builtin .append,args:=#[s,y],argTypes:=#[t,t] })
  (base:Nat) (e:TypeId) (z:Value) (size bytes:Nat) (ht:P.underlying t=some (.slice e)) (hi:(P.info? e).map (fun i=>(i.zero,i.size,i.bytes))=some (some z,size,bytes)) (hzs:z.cells.size=size) (hpos:0<size)
  {α:Type} (E:World→List Value→α→Prop) (v:Value) (l:List α) (hs:a.eval s=v) (hown:ERow w (some base) e size E v l)
  (A:Option Addr) (m c:Nat) (l2:List α) (hx:a.eval y=.slice A m c) (hrow:ERow w (some base) e size E (.slice A m c) l2)
  (hone:∀ cs x,E w cs x→∀ u∈cs,u.oneCell'=true) (hE:∀ w',Only e w w'→∀ cs x,E w cs x→E w' cs x)
  (h63:l.length+l2.length≤maxLen) (hbytes:(l.length+l2.length) * bytes≤140737488355328) (hbase:base≤w.heap.size)
  (h:∀ v' w',ERow w' (some base) e size E v' (l++l2)→Below base w w'→Only e w w'→w.grownBy w' v.ownBlock→wpList P ops Q rest (a.put o.dst v') w') :
  wpList P ops Q (o::rest) a w:=by
 obtain ⟨css,k1,k2,k3,k4⟩:=hown
 obtain ⟨ds,j1,j2,j3,j4⟩:=hrow
 have hrow':w.ownsRow base e size v l.length css.flatten:=k3
 obtain ⟨A',c',e',g1,g2,g3,g4⟩:=j3.slice
 injection e' with e1 e2 e3
 subst e1 e2 e3
 refine wpList_append_src (by simp [Region.wanted,hgd]) s y t ho base e z size bytes ht hi hzs hpos v l.length css.flatten hs hrow' A l2.length c ds.flatten hx g3 (by rw [flatten_len j2,j1]) (fun ad had j u hu=>?_) (fun u hu=>?_) h63 hbytes hbase ?_
 ·have hj:j<ds.flatten.length:=(List.getElem?_eq_some_iff.1 hu).1
  obtain ⟨g,off,e4,hc⟩:=g4 (by omega)
  rw [had] at e4
  injection e4 with e4
  subst e4
  have ha:(⟨g,off,none⟩:Addr).add j=⟨g,off+j,none⟩:=by simp [Addr.add]
  rw [ha]
  exact hc j u hu
 ·obtain ⟨cs,hcs,hu'⟩:=List.mem_flatten.1 hu
  obtain ⟨i,hi',rfl⟩:=List.getElem_of_mem hcs
  exact hone _ _ (j4 i hi' (by omega)) u hu'
 ·intro v' w' hr' hg' hb'
  have ho':=Only.row hg' hrow'
  refine h v' w' ⟨css++ds,by simp [k1,j1],fun cs hc=>?_,?_,fun i ha hb=>?_⟩ hb' ho' hg'
  ·rcases List.mem_append.1 hc with h | h
   ·exact k2 cs h
   ·exact j2 cs h
  ·show w'.ownsRow base e size v' (l++l2).length (css++ds).flatten
   rw [List.length_append,List.flatten_append]
   exact hr'
  ·rcases Nat.lt_or_ge i css.length with hi | hi
   ·rw [List.getElem_append_left hi,List.getElem_append_left (by omega)]
    exact hE _ ho' _ _ (k4 i hi (by omega))
   ·rw [List.getElem_append_right hi,List.getElem_append_right (by omega)]
    have hd:i - css.length<ds.length:=by simp at ha;omega
    have e5:l2[i - l.length]'(by simp at hb;omega)=l2[i - css.length]'(by omega):=by congr 1;omega
    rw [e5]
    exact hE _ ho' _ _ (j4 _ hd (by omega))
end Go.Proofs.YtogijkhenihaaaaGreatDoor
set_option linter.unusedVariables false
namespace Go.Proofs.YtogijkhenihaaaaGreatDoor
open Go.RowKit
namespace Tk
/-- A token's block. -/
def Blk (w:World) (g:Nat) (c0 c1 c2 c3:Value):Prop:=w.heap[g]?=some (.cells #[c0,c1,c2,c3] 171 (0,0))
theorem Blk.lt {w:World} {g:Nat} {c0 c1 c2 c3:Value} (h:Blk w g c0 c1 c2 c3):g<w.heap.size:=lt_of_block h
theorem Blk.grown {w w':World} {g:Nat} {c0 c1 c2 c3:Value} (h:Blk w g c0 c1 c2 c3) {r:Option Nat} (hg:w.grownBy w' r) (hne:some g≠r):Blk w' g c0 c1 c2 c3:=by
 unfold Blk;rw [hg.block g h.lt hne];exact h
theorem Blk.new (w:World) (c0 c1 c2 c3:Value):Blk (w.alloc (.cells #[c0,c1,c2,c3] 171)) w.heap.size c0 c1 c2 c3:=heap_alloc_new w _
theorem Rd.other {w:World} {b:Nat} {s:ByteArray} {k:Nat} (h:Rd w b s k) {g:Nat} (hne:g≠b) (j:Nat) (v:Value):Rd (w.setCell ⟨g,j,none⟩ v) b s k:=by
 unfold Rd;rw [Below.heap_setCell _ _ _ _ (by intro e;exact hne e.symm)];exact h
theorem Rd.alloc {w:World} {b:Nat} {s:ByteArray} {k:Nat} (h:Rd w b s k) (o:Obj):Rd (w.alloc o) b s k :=
 h.below ((Below.refl _ _).alloc (Nat.le_refl _) _)
end Tk
end Go.Proofs.YtogijkhenihaaaaGreatDoor
set_option linter.unusedVariables false
namespace Go.Proofs.YtogijkhenihaaaaGreatDoor
open Go.RowKit
end Go.Proofs.YtogijkhenihaaaaGreatDoor
set_option linter.unusedVariables false
namespace Go.Proofs.YtogijkhenihaaaaGreatDoor
open Go.RowKit
namespace Tk
theorem bytesRow_get (t:ByteArray) (cap i:Nat) (h:i<t.size):(bytesRow t cap)[i]?=some (.int .u8 (byte t i)):=by
 unfold bytesRow
 rw [Array.getElem?_append_left (by simpa using h)]
 rw [Array.getElem?_map]
 have:t.data[i]?=some t.data[i]:=Array.getElem?_eq_getElem (by simpa using h)
 rw [this,byte_eq h]
 rfl
theorem Blk.other {w:World} {g:Nat} {c0 c1 c2 c3:Value} (h:Blk w g c0 c1 c2 c3) {g':Nat} (hne:g'≠g) (j:Nat) (v:Value):Blk (w.setCell ⟨g',j,none⟩ v) g c0 c1 c2 c3:=by
 unfold Blk;rw [Below.heap_setCell _ _ _ _ (by intro e;exact hne e.symm)];exact h
/-- Bytes that lie in a block. -/
def Lies (w:World) (g:Nat) (t:ByteArray):Prop:=∀ i,i<t.size→w.cell? ⟨g,i,none⟩=some (.int .u8 (byte t i))
theorem Lies.new (w:World) (t:ByteArray) (cap:Nat) (e:TypeId) (fr:Nat × Nat) (g:Nat) (hg:g=w.heap.size):Lies (w.alloc (.cells (bytesRow t cap) e fr)) g t:=by
 subst hg
 intro i hi
 rw [cell_of_row _ w.heap.size i _ _ _ (heap_alloc_new w _)]
 exact bytesRow_get t cap i hi
theorem Lies.other {w:World} {g:Nat} {t:ByteArray} (h:Lies w g t) {g':Nat} (hne:g'≠g) (j:Nat) (v:Value):Lies (w.setCell ⟨g',j,none⟩ v) g t:=by
 intro i hi
 have e:(w.setCell ⟨g',j,none⟩ v).heap[g]?=w.heap[g]?:=Below.heap_setCell _ _ _ _ (by intro e;exact hne e.symm)
 rw [World.cell?_of_block (w:=w) (a:=⟨g,i,none⟩) e]
 exact h i hi
end Tk
set_option linter.unusedSimpArgs false
end Go.Proofs.YtogijkhenihaaaaGreatDoor
set_option linter.unusedVariables false
namespace Go.Proofs.YtogijkhenihaaaaGreatDoor
open Go.RowKit
namespace Tk
def signs:ByteArray:=⟨#[123,125,40,41,59,58,44,46]⟩
end Tk
end Go.Proofs.YtogijkhenihaaaaGreatDoor
set_option linter.unusedVariables false
namespace Go.Proofs.YtogijkhenihaaaaGreatDoor
open Go.RowKit
end Go.Proofs.YtogijkhenihaaaaGreatDoor
set_option linter.unusedVariables false
namespace Go.Proofs.YtogijkhenihaaaaGreatDoor
open Go.RowKit
end Go.Proofs.YtogijkhenihaaaaGreatDoor
set_option linter.unusedVariables false
namespace Go.Proofs.YtogijkhenihaaaaGreatDoor
open Go.RowKit
namespace Tk
theorem scan_end {s:ByteArray} {k f d:Nat} {acc:List Tok} (h:¬k<s.size):scan d s f k acc=(acc,0,0):=by
 cases f with
 | zero=>rfl
 | succ f=>rw [scan,if_neg h]
end Tk
end Go.Proofs.YtogijkhenihaaaaGreatDoor
set_option linter.unusedVariables false
set_option linter.unusedSimpArgs false
namespace Go.Proofs.YtogijkhenihaaaaGreatDoor
open Go.RowKit
end Go.Proofs.YtogijkhenihaaaaGreatDoor
set_option linter.unusedVariables false
set_option linter.unusedSimpArgs false
namespace Go.Proofs.YtogijkhenihaaaaGreatDoor
open Go.RowKit
theorem Tk.scan_len (d:Nat) (s:ByteArray):∀ (f k:Nat) (acc:List Tk.Tok),k≤s.size→acc.length≤k→(Tk.scan d s f k acc).1.length≤s.size
 | 0,k,acc,hk,ha=>by unfold Tk.scan;exact Nat.le_trans ha hk
 | f+1,k,acc,hk,ha=>by
  unfold Tk.scan
  split
  ·rename_i hlt
   split
   ·simp
   ·rename_i he
    have hok:=Tk.oneAt_ok (d:=d) (s:=s) (k:=k) hlt (by simpa using he)
    refine Tk.scan_len d s f _ _ (Tk.gapEnd_le false hok.2) ?_
    rw [List.length_append,List.length_singleton]
    have:=Tk.gapEnd_ge false s (k+(Tk.oneAt d s k).1.text.size)
    omega
  ·exact Nat.le_trans ha hk
theorem Tk.all_len (s:ByteArray):(Tk.all s).1.length≤65536:=by
 unfold Tk.all
 split
 ·simp
 ·rename_i h
  have:=Tk.scan_len 3 s (s.size+1) (Tk.gapEnd false s 0) [] (Tk.gapEnd_le false (by omega)) (by simp)
  omega
theorem Tk.ReadT.only {w w':World} {A:Option Addr} {ls:List Tk.Tok} {e:TypeId} (h:Tk.ReadT w A ls) (ho:Only e w w') (ht:∀ g off,A=some ⟨g,off,none⟩→Id.Typed w g) (he:171≠e):Tk.ReadT w' A ls:=fun h0=>by
 obtain ⟨g,off,e1,hc⟩:=h h0
 obtain ⟨cs,fr,hh⟩:=ht g off e1
 have kc:∀ o,w'.cell? ⟨g,o,none⟩=w.cell? ⟨g,o,none⟩:=fun o=>World.cell?_of_block (a:=⟨g,o,none⟩) ((ho.typed hh he).trans hh.symm)
 exact ⟨g,off,e1,fun j hj=>by rw [kc,kc,kc,kc];exact hc j hj⟩
namespace Id
def whole {α:Type} (zero:α) (read:St→α × St) (s:ByteArray):α × Nat × Nat :=
 if (Tk.all s).2.2≠0 then (zero,(Tk.all s).2.1,(Tk.all s).2.2) else
 match (read ((Tk.all s).1,false)).2.1 with
 | []=>if (read ((Tk.all s).1,false)).2.2 then (zero,s.size,120) else ((read ((Tk.all s).1,false)).1,0,0)
 | t::_=>(zero,t.at_,120)
def Sch.zero:Sch:=⟨⟨#[]⟩,[],[],[]⟩
def parse (s:ByteArray):Sch × Nat × Nat:=whole Sch.zero schema s
def type (s:ByteArray):List Srt × Nat × Nat:=whole [] sorts s
/-- A schema as it is handed on. -/
def SchV (w:World) (B:Option Nat) (v:Value) (x:Sch):Prop:=∃ A1 n1 c1 A2 n2 c2 A3 n3 c3,v=.agg #[.string x.name,.slice A1 n1 c1,.slice A2 n2 c2,.slice A3 n3 c3]∧RecsR w B (.slice A1 n1 c1) x.records∧SvcsR w B (.slice A2 n2 c2) x.services∧SagsR w B (.slice A3 n3 c3) x.sagas
theorem FldE.below {B:Option Nat} {w w':World} (h:Below w.heap.size w w') (cs:List Value) (x:Fld) (he:FldE B w cs x):FldE B w' cs x:=by
 obtain ⟨u,e,hs⟩:=he
 exact ⟨u,e,ERow.below hs h (fun _ _ h=>h)⟩
theorem RecE.below {B:Option Nat} {w w':World} (h:Below w.heap.size w w') (cs:List Value) (x:Rec) (he:RecE B w cs x):RecE B w' cs x:=by
 obtain ⟨u,e,hs⟩:=he
 exact ⟨u,e,ERow.below hs h (FldE.below h)⟩
theorem SvcE.below {B:Option Nat} {w w':World} (h:Below w.heap.size w w') (cs:List Value) (x:Svc) (he:SvcE B w cs x):SvcE B w' cs x:=by
 obtain ⟨u,e,hs⟩:=he
 exact ⟨u,e,ERow.below hs h (fun _ _ h=>h)⟩
theorem SagE.below {B:Option Nat} {w w':World} (h:Below w.heap.size w w') (cs:List Value) (x:Sag) (he:SagE B w cs x):SagE B w' cs x:=by
 obtain ⟨u,e,hs⟩:=he
 exact ⟨u,e,ERow.below hs h (fun _ _ h=>h)⟩
theorem SchV.below {B:Option Nat} {w w':World} {v:Value} {x:Sch} (hb:Below w.heap.size w w') (h:SchV w B v x):SchV w' B v x:=by
 obtain ⟨A1,n1,c1,A2,n2,c2,A3,n3,c3,e,h1,h2,h3⟩:=h
 exact ⟨A1,n1,c1,A2,n2,c2,A3,n3,c3,e,ERow.below h1 hb (RecE.below hb),ERow.below h2 hb (SvcE.below hb),ERow.below h3 hb (SagE.below hb)⟩
theorem SchV.only {b:Nat} {w w':World} {v:Value} {x:Sch} (h:SchV w (some b) v x) {e:TypeId} (ho:Only e w w') (he:e ∉ schT):SchV w' (some b) v x:=by
 have hk:=ho.kp b he
 obtain ⟨A1,n1,c1,A2,n2,c2,A3,n3,c3,e,h1,h2,h3⟩:=h
 exact ⟨A1,n1,c1,A2,n2,c2,A3,n3,c3,e,h1.kp hk (Nat.le_refl _) (by decide) (by decide) (by decide),h2.kp hk (Nat.le_refl _) (by decide) (by decide),h3.kp hk (Nat.le_refl _) (by decide) (by decide)⟩
def wkB (B B':Option Nat):Prop:=∀ b',B'=some b'→∃ b,B=some b∧b'≤b
theorem FldE.weak {B B':Option Nat} {w:World} (h:wkB B B') (cs:List Value) (x:Fld) (he:FldE B w cs x):FldE B' w cs x:=by
 obtain ⟨u,e,hs⟩:=he
 exact ⟨u,e,ERow.mono hs (fun _ _ hr=>hr.weak h) (fun _ _ h=>h)⟩
theorem RecE.weak {B B':Option Nat} {w:World} (h:wkB B B') (cs:List Value) (x:Rec) (he:RecE B w cs x):RecE B' w cs x:=by
 obtain ⟨u,e,hs⟩:=he
 exact ⟨u,e,ERow.mono hs (fun _ _ hr=>hr.weak h) (FldE.weak h)⟩
theorem SvcE.weak {B B':Option Nat} {w:World} (h:wkB B B') (cs:List Value) (x:Svc) (he:SvcE B w cs x):SvcE B' w cs x:=by
 obtain ⟨u,e,hs⟩:=he
 exact ⟨u,e,ERow.mono hs (fun _ _ hr=>hr.weak h) (fun _ _ h=>h)⟩
theorem SagE.weak {B B':Option Nat} {w:World} (h:wkB B B') (cs:List Value) (x:Sag) (he:SagE B w cs x):SagE B' w cs x:=by
 obtain ⟨u,e,hs⟩:=he
 exact ⟨u,e,ERow.mono hs (fun _ _ hr=>hr.weak h) (fun _ _ h=>h)⟩
theorem SchV.weak {B B':Option Nat} {w:World} {v:Value} {x:Sch} (hb:wkB B B') (h:SchV w B v x):SchV w B' v x:=by
 obtain ⟨A1,n1,c1,A2,n2,c2,A3,n3,c3,e,h1,h2,h3⟩:=h
 exact ⟨A1,n1,c1,A2,n2,c2,A3,n3,c3,e,ERow.mono h1 (fun _ _ hr=>hr.weak hb) (RecE.weak hb),ERow.mono h2 (fun _ _ hr=>hr.weak hb) (SvcE.weak hb),ERow.mono h3 (fun _ _ hr=>hr.weak hb) (SagE.weak hb)⟩
theorem wk_le {b b':Nat} (h:b'≤b):wkB (some b) (some b'):=fun _ e=>⟨b,rfl,by injection e with e;omega⟩
theorem wk_none (B:Option Nat):wkB B none:=fun _ e=>by cases e
theorem SchV.zero (w:World) (b:Nat):SchV w (some b) (.agg #[.string ⟨#[]⟩,.slice none 0 0,.slice none 0 0,.slice none 0 0]) Sch.zero:=⟨_,_,_,_,_,_,_,_,_,rfl,ERow.nil _ _ _ _ _,ERow.nil _ _ _ _ _,ERow.nil _ _ _ _ _⟩
end Id
end Go.Proofs.YtogijkhenihaaaaGreatDoor
set_option linter.unusedVariables false
set_option linter.unusedSimpArgs false
namespace Go.Proofs.YtogijkhenihaaaaGreatDoor
open Go.RowKit
namespace Id
end Id
end Go.Proofs.YtogijkhenihaaaaGreatDoor
