/- Words that every walk of this seat leans on: 'nothing that lay there has changed', regions that draw their order over such worlds, one element appended to a row of the call's own. No condition. Cells that lie one behind the other, whatever the elements: read by element and field, kept where what lay there stays, had of a row of the call's own. No condition. A block that is known whole; writes to one block alone. No condition. What a function returns where results lie in cells. An append of a whole slice, nil or not, guarded or not, to a row of the call's own; a cell of such a row written. Rows of structs that hold rows: what lies there, element by element, and what keeps it. No condition. An argument that is a slice of structs (fields of one cell each), opened to the cells that lie there. No condition. Regions that draw their order, whose calls leave what lay there and whose own operations read whole blocks. No condition. A region that draws its order, whose last operation waits for all others, the others being quiet in a class of worlds: one walk in the order of the text, then the last one. No condition. A region that draws its order, walked in an order of one's own: reads first, as long as nothing that waits for them writes. No condition. A region that draws its order, whose last operation waits for all others, walked in an order of one's own: reads first, for what they read stays till the last one. No condition. (merged by merge.py: XBase XLie XBlk XRes XAppend XRep XOpen XQL XLast XDrawn XLast2). No condition but the ones the theorems state. -/
import Derived.Test.YtogijkhenihaaaaGreatDoorRows
import Derived.WalkKit
import Derived.WalkSpells
import Derived.WalkLawsBesides
import Derived.BigQuiet
import Derived.Handy
import Derived.Deep.OwnRows
import Derived.Deep.LoopGhost
import Derived.Deep.DeepCutAuto
import Derived.Lib.Hide
import Derived.Lib.Strings
import Derived.Deep.AppendLies
import Derived.Lib.SmallJoins
import Derived.Maps.AppendAt
import Derived.Laws.ResultCell
import Derived.Laws.AppendOwnNone
import Derived.Deep.Slices
import Derived.Deep.Fields
import Derived.ChangeSame
import Derived.Laws.Rows
import Derived.Laws.Tables
import Derived.Deep.RegionHeld3
set_option linter.unusedVariables false
namespace Go.Proofs.YtogijkhenihaaaaGreatDoor
open Go.RowKit Go.BigFrame
/-- What lay there lies there unchanged. -/
def Bl (W w':World):Prop:=Below W.heap.size W w'
theorem Bl.refl (W:World):Bl W W:=Below.refl _ _
theorem Bl.trans {a b c:World} (h:Bl a b) (k:Below b.heap.size b c):Bl a c:=Below.trans h (k.mono h.size)
theorem Bl.drewN {a b:World} (h:Bl a b) (n:Nat):Bl a (b.drewN n):=below_drewN h n
theorem calls_bl {P:Program} {f:FuncId} {args:Array Value} {W w':World} {v:Value} (hb:Bl W w')
  (h:Calls P f args w' fun e w''=>e=.returned v∧Below w'.heap.size w' w''):Calls P f args w' fun e w''=>e=.returned v∧Bl W w'' :=
 h.mono fun _ _ ⟨he,hk⟩=>⟨he,hb.trans hk⟩
/-- A region that draws its order, no operation of which reads memory, its calls leaving what lay there: one walk in the order of the text. -/
theorem wp_region_bl {P:Program} {id:Nat} {Q:Exit→Act→World→Prop} {a:Act} {w:World} {l:List Oper} (W:World) (hm:P.follows .mixedOrders=true) (hB:Region.lexB .any l.toArray=true)
  (hC:Bl W w) (h:wpQuiet P l.toArray (Bl W) (fun a'=>∀ w',Bl W w'→Q .normal a' w') l a):(Code.region id l.toArray true).wp P Q a w :=
 wp_region_quiet (C:=Bl W) hm hB (hC.drewN 1) (by simpa using h)
end Go.Proofs.YtogijkhenihaaaaGreatDoor
set_option linter.unusedVariables false
namespace Go.Proofs.YtogijkhenihaaaaGreatDoor
open Go.RowKit
/-- The cells lie there. -/
def Lie (w:World) (A:Option Addr) (vs:List Value):Prop:=0<vs.length→∃ g off,A=some ⟨g,off,none⟩∧∀ j u,vs[j]?=some u→w.cell? ⟨g,off+j,none⟩=some u
namespace Lie
section
variable {w w' : World} {A : Option Addr} {vs : List Value}
theorem nil (w:World) (A:Option Addr):Lie w A []:=fun h=>absurd h (by simp)
theorem keep (h:Lie w A vs) (hk:∀ p:Addr,p.block<w.heap.size→w'.cell? p=w.cell? p):Lie w' A vs:=fun h0=>by
 obtain ⟨g,off,e,hc⟩:=h h0
 exact ⟨g,off,e,fun j u hu=>(hk _ (World.block_lt_of_cell? w _ (hc j u hu))).trans (hc j u hu)⟩
theorem below (h:Lie w A vs) (hb:Below w.heap.size w w'):Lie w' A vs:=h.keep fun _ hp=>hb.cell hp
theorem drewN (h:Lie w A vs) (n:Nat):Lie (w.drewN n) A vs:=h
theorem alloc (h:Lie w A vs) (o:Obj):Lie (w.alloc o) A vs:=h.below ((Below.refl _ _).alloc (Nat.le_refl _) _)
theorem grown (h:Lie w A vs) {row:Option Nat} (hg:w.grownBy w' row) (hr:∀ ad,A=some ad→some ad.block≠row):Lie w' A vs:=fun h0=>by
 obtain ⟨g,off,e,hc⟩:=h h0
 exact ⟨g,off,e,fun j u hu=>(World.cell?_of_block (hg.block g (World.block_lt_of_cell? w _ (hc j u hu)) (hr _ e))).trans (hc j u hu)⟩
theorem of_own {base:Nat} {e:TypeId} {size n:Nat} {v:Value} (h:w.ownsRow base e size v n vs):∃ A c,v=.slice A n c∧Lie w A vs∧n≤9223372036854775807∧n≤c∧(A=none→n=0∧c=0)∧(∀ ad,A=some ad→base≤ad.block∧ad.block<w.heap.size∧ad.off=0):=by
 rcases h.2 with ⟨rfl,h0⟩ | ⟨g,cap,cur,rfl,hbs,hgg,hn,hc,_⟩
 ·exact ⟨none,0,by rw [h0],fun e=>by have:=h.1;simp [h0] at this;simp [this] at e,by omega,by omega,fun _=>⟨h0,rfl⟩,fun _ e=>by cases e⟩
 ·refine ⟨some ⟨g,0,none⟩,cap,rfl,fun _=>⟨g,0,rfl,fun j u hu=>?_⟩,by unfold maxLen at hc;omega,hn,fun e=>by (cases e),fun ad e=>by injection e with e;subst e;exact ⟨hbs,(Array.getElem?_eq_some_iff.1 hgg).1,rfl⟩⟩
  have:=h.cells (g:=g) rfl j u hu
  have hadd:(⟨g,0,none⟩:Addr).add j=⟨g,0+j,none⟩:=by unfold Addr.add;split <;> simp_all
  rw [hadd] at this
  exact this
/-- A part of a slice. -/
theorem drop {k:Nat} (h:Lie w A vs) (hk:k<vs.length):∃ g off,A=some ⟨g,off,none⟩∧Lie w (some ⟨g,off+k,none⟩) (vs.drop k):=by
 obtain ⟨g,off,e,hc⟩:=h (by omega)
 exact ⟨g,off,e,fun _=>⟨g,off+k,rfl,fun j u hu=>by rw [Nat.add_assoc];exact hc _ u (by rw [←hu,List.getElem?_drop])⟩⟩
theorem take {k:Nat} (h:Lie w A vs):Lie w A (vs.take k):=fun h0=>by
 obtain ⟨g,off,e,hc⟩:=h (by rw [List.length_take] at h0;omega)
 refine ⟨g,off,e,fun j u hu=>hc j u ?_⟩
 rw [List.getElem?_take] at hu
 split at hu
 ·exact hu
 ·cases hu
end
end Lie
end Go.Proofs.YtogijkhenihaaaaGreatDoor
set_option linter.unusedVariables false
namespace Go.Proofs.YtogijkhenihaaaaGreatDoor
open Go.RowKit
/-- Block g is just these cells of that type, none frozen. -/
def Bk (w:World) (g:Nat) (t:TypeId) (cs:Array Value):Prop:=w.heap[g]?=some (.cells cs t (0,0))
section
variable {w w' : World} {g : Nat} {t : TypeId} {cs : Array Value}
theorem Bk.lt (h:Bk w g t cs):g<w.heap.size:=by
 rcases Nat.lt_or_ge g w.heap.size with hlt | hge
 ·exact hlt
 ·unfold Bk at h;rw [Array.getElem?_eq_none hge] at h;cases h
theorem Bk.cell (h:Bk w g t cs) (i:Nat):w.cell? ⟨g,i,none⟩=cs[i]?:=cell_of_row w g i cs t (0,0) h
theorem Bk.frozen (h:Bk w g t cs) (i:Nat):w.frozen? ⟨g,i,none⟩=false:=by
 unfold Bk at h
 simp [World.frozen?,h]
theorem Bk.new (w:World) (t:TypeId) (cs:Array Value):Bk (w.alloc (.cells cs t)) w.heap.size t cs:=heap_alloc_new w _
theorem Bk.drew (h:Bk w g t cs):Bk w.drew g t cs:=h
theorem Bk.drewN (h:Bk w g t cs) (n:Nat):Bk (w.drewN n) g t cs:=h
theorem Bk.alloc (h:Bk w g t cs) (o:Obj):Bk (w.alloc o) g t cs:=(Below.heap_alloc w o g h.lt).trans h
theorem Bk.set_ (h:Bk w g t cs) (i:Nat) (u:Value):Bk (w.setCell ⟨g,i,none⟩ u) g t (cs.setIfInBounds i u):=by
 unfold Bk at h ⊢
 simp [World.setCell,Array.getElem?_modify,h]
theorem Bk.far (h:Bk w g t cs) {p:Addr} (hp:g≠p.block) (u:Value):Bk (w.setCell p u) g t cs:=(Below.heap_setCell w p u g hp).trans h
theorem Bk.below {B:Nat} (h:Bk w g t cs) (hb:Below B w w') (hg:g<B):Bk w' g t cs:=(hb.block g hg).trans h
theorem Bk.grown {row:Option Nat} (h:Bk w g t cs) (hb:w.grownBy w' row) (hg:some g≠row):Bk w' g t cs:=(hb.block g h.lt hg).trans h
theorem gb_refl (w:World) (r:Option Nat):w.grownBy w r:=⟨rfl,rfl,rfl,Nat.le_refl _,fun _ _ _=>rfl⟩
theorem gb_trans {a b c:World} {r:Option Nat} (h:a.grownBy b r) (k:b.grownBy c r):a.grownBy c r :=
 ⟨k.os.trans h.os,k.tape.trans h.tape,k.output.trans h.output,Nat.le_trans h.size k.size,fun i hi hn=>(k.block i (Nat.lt_of_lt_of_le hi h.size) hn).trans (h.block i hi hn)⟩
theorem gb_drew {a w:World} {row:Option Nat} (h:a.grownBy w row):a.grownBy w.drew row:=⟨h.os,h.tape,h.output,h.size,h.block⟩
theorem gb_drewN {a w:World} {row:Option Nat} (h:a.grownBy w row) (n:Nat):a.grownBy (w.drewN n) row:=⟨h.os,h.tape,h.output,h.size,h.block⟩
theorem gb_set {a w:World} {g:Nat} (h:a.grownBy w (some g)) {p:Addr} (hp:p.block=g∨a.heap.size≤p.block) (u:Value):a.grownBy (w.setCell p u) (some g) :=
 ⟨h.os,h.tape,h.output,by simpa [World.setCell] using h.size,fun i hi hne=>(Below.heap_setCell w p u i (by
  rintro rfl
  rcases hp with hp | hp
  ·exact hne (by rw [hp])
  ·omega)).trans (h.block i hi hne)⟩
theorem gb_below {a w:World} (h:Below a.heap.size a w) (row:Option Nat):a.grownBy w row:=⟨h.os,h.tape,h.output,h.size,fun i hi _=>h.block i hi⟩
/-- Writes to a block of the call's own leave what lay there. -/
theorem below_gb {B:Nat} {a w w':World} {g:Nat} (h:Below B a w) (hg:w.grownBy w' (some g)) (hB:B≤g) (hw:B≤w.heap.size):Below B a w' :=
 h.trans ⟨hg.os,hg.tape,hg.output,hg.size,fun i hi=>hg.block i (by omega) (by intro e;injection e with e;omega)⟩
end
end Go.Proofs.YtogijkhenihaaaaGreatDoor
set_option linter.unusedVariables false
namespace Go.Proofs.YtogijkhenihaaaaGreatDoor
open Go.RowKit
theorem res_c {fn:Func} {p:Tmp} {ty:TypeId} (h:fn.results=#[.cell p ty]) (tmps:Array Value) (P:Program) (w:World) :
  (results fn tmps).run P w=((asAddr (tmps.getD p undef)).run P w).andThen fun a w₁=>(loadVar ty a).run P w₁:=by
 simp only [results,h]
 simp [Sem.run_bind,Result.andThen]
theorem res_ctt {fn:Func} {p u v:Tmp} {ty:TypeId} (h:fn.results=#[.cell p ty,.tmp u,.tmp v]) (tmps:Array Value) (P:Program) (w:World) :
  (results fn tmps).run P w=((asAddr (tmps.getD p undef)).run P w).andThen fun a w₁=>((loadVar ty a).run P w₁).andThen fun x w₂=>.ok (.tuple #[x,tmps.getD u undef,tmps.getD v undef]) w₂:=by
 simp only [results,h]
 simp [Sem.run_bind,Result.andThen]
theorem Bk.k1 {w:World} {g:Nat} {t:TypeId} {x0:Value} (h:Bk w g t #[x0]):(w.cell? ⟨g,0,none⟩=some x0)∧w.frozen? ⟨g,0,none⟩=false :=
 ⟨h.cell 0,h.frozen 0⟩
theorem Bk.k2 {w:World} {g:Nat} {t:TypeId} {x0 x1:Value} (h:Bk w g t #[x0,x1]):(w.cell? ⟨g,0,none⟩=some x0∧w.cell? ⟨g,1,none⟩=some x1)∧w.frozen? ⟨g,0,none⟩=false∧w.frozen? ⟨g,1,none⟩=false :=
 ⟨⟨h.cell 0,h.cell 1⟩,h.frozen 0,h.frozen 1⟩
theorem Bk.k3 {w:World} {g:Nat} {t:TypeId} {x0 x1 x2:Value} (h:Bk w g t #[x0,x1,x2]):(w.cell? ⟨g,0,none⟩=some x0∧w.cell? ⟨g,1,none⟩=some x1∧w.cell? ⟨g,2,none⟩=some x2)∧w.frozen? ⟨g,0,none⟩=false∧w.frozen? ⟨g,1,none⟩=false∧w.frozen? ⟨g,2,none⟩=false :=
 ⟨⟨h.cell 0,h.cell 1,h.cell 2⟩,h.frozen 0,h.frozen 1,h.frozen 2⟩
theorem Bk.k4 {w:World} {g:Nat} {t:TypeId} {x0 x1 x2 x3:Value} (h:Bk w g t #[x0,x1,x2,x3]):(w.cell? ⟨g,0,none⟩=some x0∧w.cell? ⟨g,1,none⟩=some x1∧w.cell? ⟨g,2,none⟩=some x2∧w.cell? ⟨g,3,none⟩=some x3)∧w.frozen? ⟨g,0,none⟩=false∧w.frozen? ⟨g,1,none⟩=false∧w.frozen? ⟨g,2,none⟩=false∧w.frozen? ⟨g,3,none⟩=false :=
 ⟨⟨h.cell 0,h.cell 1,h.cell 2,h.cell 3⟩,h.frozen 0,h.frozen 1,h.frozen 2,h.frozen 3⟩
theorem Bk.k5 {w:World} {g:Nat} {t:TypeId} {x0 x1 x2 x3 x4:Value} (h:Bk w g t #[x0,x1,x2,x3,x4]):(w.cell? ⟨g,0,none⟩=some x0∧w.cell? ⟨g,1,none⟩=some x1∧w.cell? ⟨g,2,none⟩=some x2∧w.cell? ⟨g,3,none⟩=some x3∧w.cell? ⟨g,4,none⟩=some x4)∧w.frozen? ⟨g,0,none⟩=false∧w.frozen? ⟨g,1,none⟩=false∧w.frozen? ⟨g,2,none⟩=false∧w.frozen? ⟨g,3,none⟩=false∧w.frozen? ⟨g,4,none⟩=false :=
 ⟨⟨h.cell 0,h.cell 1,h.cell 2,h.cell 3,h.cell 4⟩,h.frozen 0,h.frozen 1,h.frozen 2,h.frozen 3,h.frozen 4⟩
theorem Bk.k6 {w:World} {g:Nat} {t:TypeId} {x0 x1 x2 x3 x4 x5:Value} (h:Bk w g t #[x0,x1,x2,x3,x4,x5]):(w.cell? ⟨g,0,none⟩=some x0∧w.cell? ⟨g,1,none⟩=some x1∧w.cell? ⟨g,2,none⟩=some x2∧w.cell? ⟨g,3,none⟩=some x3∧w.cell? ⟨g,4,none⟩=some x4∧w.cell? ⟨g,5,none⟩=some x5)∧w.frozen? ⟨g,0,none⟩=false∧w.frozen? ⟨g,1,none⟩=false∧w.frozen? ⟨g,2,none⟩=false∧w.frozen? ⟨g,3,none⟩=false∧w.frozen? ⟨g,4,none⟩=false∧w.frozen? ⟨g,5,none⟩=false :=
 ⟨⟨h.cell 0,h.cell 1,h.cell 2,h.cell 3,h.cell 4,h.cell 5⟩,h.frozen 0,h.frozen 1,h.frozen 2,h.frozen 3,h.frozen 4,h.frozen 5⟩
theorem Bk.k7 {w:World} {g:Nat} {t:TypeId} {x0 x1 x2 x3 x4 x5 x6:Value} (h:Bk w g t #[x0,x1,x2,x3,x4,x5,x6]):(w.cell? ⟨g,0,none⟩=some x0∧w.cell? ⟨g,1,none⟩=some x1∧w.cell? ⟨g,2,none⟩=some x2∧w.cell? ⟨g,3,none⟩=some x3∧w.cell? ⟨g,4,none⟩=some x4∧w.cell? ⟨g,5,none⟩=some x5∧w.cell? ⟨g,6,none⟩=some x6)∧w.frozen? ⟨g,0,none⟩=false∧w.frozen? ⟨g,1,none⟩=false∧w.frozen? ⟨g,2,none⟩=false∧w.frozen? ⟨g,3,none⟩=false∧w.frozen? ⟨g,4,none⟩=false∧w.frozen? ⟨g,5,none⟩=false∧w.frozen? ⟨g,6,none⟩=false :=
 ⟨⟨h.cell 0,h.cell 1,h.cell 2,h.cell 3,h.cell 4,h.cell 5,h.cell 6⟩,h.frozen 0,h.frozen 1,h.frozen 2,h.frozen 3,h.frozen 4,h.frozen 5,h.frozen 6⟩
theorem Bk.k8 {w:World} {g:Nat} {t:TypeId} {x0 x1 x2 x3 x4 x5 x6 x7:Value} (h:Bk w g t #[x0,x1,x2,x3,x4,x5,x6,x7]):(w.cell? ⟨g,0,none⟩=some x0∧w.cell? ⟨g,1,none⟩=some x1∧w.cell? ⟨g,2,none⟩=some x2∧w.cell? ⟨g,3,none⟩=some x3∧w.cell? ⟨g,4,none⟩=some x4∧w.cell? ⟨g,5,none⟩=some x5∧w.cell? ⟨g,6,none⟩=some x6∧w.cell? ⟨g,7,none⟩=some x7)∧w.frozen? ⟨g,0,none⟩=false∧w.frozen? ⟨g,1,none⟩=false∧w.frozen? ⟨g,2,none⟩=false∧w.frozen? ⟨g,3,none⟩=false∧w.frozen? ⟨g,4,none⟩=false∧w.frozen? ⟨g,5,none⟩=false∧w.frozen? ⟨g,6,none⟩=false∧w.frozen? ⟨g,7,none⟩=false :=
 ⟨⟨h.cell 0,h.cell 1,h.cell 2,h.cell 3,h.cell 4,h.cell 5,h.cell 6,h.cell 7⟩,h.frozen 0,h.frozen 1,h.frozen 2,h.frozen 3,h.frozen 4,h.frozen 5,h.frozen 6,h.frozen 7⟩
theorem Bk.k9 {w:World} {g:Nat} {t:TypeId} {x0 x1 x2 x3 x4 x5 x6 x7 x8:Value} (h:Bk w g t #[x0,x1,x2,x3,x4,x5,x6,x7,x8]):(w.cell? ⟨g,0,none⟩=some x0∧w.cell? ⟨g,1,none⟩=some x1∧w.cell? ⟨g,2,none⟩=some x2∧w.cell? ⟨g,3,none⟩=some x3∧w.cell? ⟨g,4,none⟩=some x4∧w.cell? ⟨g,5,none⟩=some x5∧w.cell? ⟨g,6,none⟩=some x6∧w.cell? ⟨g,7,none⟩=some x7∧w.cell? ⟨g,8,none⟩=some x8)∧w.frozen? ⟨g,0,none⟩=false∧w.frozen? ⟨g,1,none⟩=false∧w.frozen? ⟨g,2,none⟩=false∧w.frozen? ⟨g,3,none⟩=false∧w.frozen? ⟨g,4,none⟩=false∧w.frozen? ⟨g,5,none⟩=false∧w.frozen? ⟨g,6,none⟩=false∧w.frozen? ⟨g,7,none⟩=false∧w.frozen? ⟨g,8,none⟩=false :=
 ⟨⟨h.cell 0,h.cell 1,h.cell 2,h.cell 3,h.cell 4,h.cell 5,h.cell 6,h.cell 7,h.cell 8⟩,h.frozen 0,h.frozen 1,h.frozen 2,h.frozen 3,h.frozen 4,h.frozen 5,h.frozen 6,h.frozen 7,h.frozen 8⟩
end Go.Proofs.YtogijkhenihaaaaGreatDoor
set_option linter.unusedVariables false
namespace Go.Proofs.YtogijkhenihaaaaGreatDoor
open Go.RowKit
theorem wpList_append_src {P:Program} {ops:Array Oper} {rest:List Oper} {o:Oper} {a:Act} {Q:Exit→Act→World→Prop} {w:World} (hgd:Region.wanted o (yielded ops a.tmps)=true) (s x:Operand) (t:TypeId)
  (ho:o.op=.call { callee:=.builtin .append,args:=#[s,x],argTypes:=#[t,t] })
  (base:Nat) (e:TypeId) (z:Value) (size bytes:Nat) (ht:P.underlying t=some (.slice e)) (hi:(P.info? e).map (fun i=>(i.zero,i.size,i.bytes))=some (some z,size,bytes)) (hzs:z.cells.size=size) (hsz:0<size)
  (v:Value) (n:Nat) (xs:List Value) (hs:a.eval s=v) (hown:w.ownsRow base e size v n xs)
  (A:Option Addr) (m c:Nat) (news:List Value) (hx:a.eval x=.slice A m c) (hA:A=none→m=0∧c=0) (hl:news.length=m * size)
  (hnews:∀ ad,A=some ad→∀ j u,news[j]?=some u→w.cell? (ad.add j)=some u) (h1:∀ u∈news,u.oneCell'=true)
  (h63:n+m≤maxLen) (hbytes:(n+m) * bytes≤140737488355328) (hbase:base≤w.heap.size)
  (h:∀ v' w',w'.ownsRow base e size v' (n+m) (xs++news)→w.grownBy w' v.ownBlock→Below base w w'→wpList P ops Q rest (a.put o.dst v') w'):wpList P ops Q (o::rest) a w:=by
 obtain ⟨i,hi0,hz0,hz1,hz2⟩:=info_parts hi
 refine wpList_step fun K hK=>?_
 rw [if_pos hgd]
 cases A with
 | none =>
  obtain ⟨rfl,rfl⟩:=hA rfl
  have hn0:news=[]:=by simpa using hl
  subst hn0
  have hrun:=run_append_owned_none (P:=P) (w:=w) base t o.type e i size ht hi0 v n xs hown
  unfold Oper.wp
  simp [execOp,ho,resolve,invoke,builtin,hs,hx,hrun,Result.andThen]
  exact hK _ _ (h v w (by simpa using hown) ⟨rfl,rfl,rfl,Nat.le_refl _,fun _ _ _=>rfl⟩ (Below.refl _ _))
 | some ad =>
  exact wp_append_own w s x t ho base e i z size bytes ht hi0 hz0 hz1 hz2 hzs hsz v n xs hs hown ad m c news hx hl (hnews ad rfl) h1 h63 hbytes hbase fun v' w' h2 h3 _=>hK _ _ (h v' w' h2 h3 ((Below.refl base w).grown h3 hbase (fun k hk=>(hown.lt k hk).1)))
/-- A cell of a row of the call's own is written. -/
theorem row_set {w:World} {base:Nat} {e:TypeId} {size:Nat} {n:Nat} {xs:List Value} {g cap:Nat} (h:w.ownsRow base e size (.slice (some ⟨g,0,none⟩) n cap) n xs) (j:Nat) (hj:j<n * size) (u:Value) :
  (w.setCell ⟨g,j,none⟩ u).ownsRow base e size (.slice (some ⟨g,0,none⟩) n cap) n (xs.set j u)∧w.frozen? ⟨g,j,none⟩=false∧(∃ u0,w.cell? ⟨g,j,none⟩=some u0)∧base≤g:=by
 obtain ⟨h1,h2⟩:=h
 rcases h2 with ⟨hv,_⟩ | ⟨g',cap',cur,hv,hb,hg,hn,hc,hcs,ht⟩
 ·cases hv
 ·injection hv with hv1 hv2 hv3
  injection hv1 with hv1
  injection hv1 with hv1
  subst hv1 hv3
  have hlt:g<w.heap.size:=(Array.getElem?_eq_some_iff.1 hg).1
  have hjc:j<cur.size:=by rw [hcs];exact Nat.lt_of_lt_of_le hj (Nat.mul_le_mul_right _ hn)
  refine ⟨⟨by rw [List.length_set];exact h1,.inr ⟨g,cap,cur.setIfInBounds j u,rfl,hb,?_,hn,hc,by simpa using hcs,?_⟩⟩,frozen_of_row w g j _ _ hg,⟨cur[j],by rw [cell_of_row w g j _ _ _ hg];exact Array.getElem?_eq_getElem hjc⟩,hb⟩
  ·have hg':w.heap[g]=.cells cur e (0,0):=by simpa [Array.getElem?_eq_getElem hlt] using hg
   show (w.heap.modify g _)[g]?=_
   rw [Array.getElem?_eq_getElem (by simpa using hlt),Array.getElem_modify_self,hg']
   rfl
  ·rw [Array.toList_setIfInBounds,List.take_set,ht]
end Go.Proofs.YtogijkhenihaaaaGreatDoor
set_option linter.unusedVariables false
namespace Go.Proofs.YtogijkhenihaaaaGreatDoor
open Go.RowKit
/-- Blocks from base on, of some types, stay as they were. -/
def Kp (base:Nat) (T:List TypeId) (w w':World):Prop:=∀ (g:Nat) (cs:Array Value) (t:TypeId),base≤g→t∈T→w.heap[g]?=some (.cells cs t (0,0))→w'.heap[g]?=some (.cells cs t (0,0))
theorem Kp.refl (base:Nat) (T:List TypeId) (w:World):Kp base T w w:=fun _ _ _ _ _ h=>h
theorem Kp.trans {base:Nat} {T:List TypeId} {a b c:World} (h:Kp base T a b) (k:Kp base T b c):Kp base T a c:=fun g cs t hb ht hg=>k g cs t hb ht (h g cs t hb ht hg)
theorem Kp.below {base:Nat} {T:List TypeId} {w w':World} (h:Below w.heap.size w w'):Kp base T w w':=fun g cs t _ _ hg=>(h.block g (Array.getElem?_eq_some_iff.1 hg).1).trans hg
/-- Writes to a block below. -/
theorem Kp.grown {base b:Nat} {T:List TypeId} {w w':World} (h:w.grownBy w' (some b)) (hb:b<base):Kp base T w w':=fun g cs t hg _ hc=>(h.block g (Array.getElem?_eq_some_iff.1 hc).1 (by intro e;injection e with e;omega)).trans hc
/-- Writes to a block of another type. -/
theorem Kp.other {base b:Nat} {T:List TypeId} {w w':World} {cs:Array Value} {t:TypeId} {fr:Nat × Nat} (h:w.grownBy w' (some b)) (hb:w.heap[b]?=some (.cells cs t fr)) (ht:t ∉ T):Kp base T w w':=fun g cs' t' hg ht' hc=>(h.block g (Array.getElem?_eq_some_iff.1 hc).1 (by
 intro e
 injection e with e
 subst e
 rw [hb] at hc
 injection hc with hc
 injection hc with _ h2
 exact ht (h2 ▸ ht'))).trans hc
/-- An append to a row of another type. -/
theorem Kp.row {base b0:Nat} {T:List TypeId} {w w':World} {t:TypeId} {size n:Nat} {v:Value} {xs:List Value} (h:w.grownBy w' v.ownBlock) (hr:w.ownsRow b0 t size v n xs) (ht:t ∉ T):Kp base T w w':=by
 rcases hr.2 with ⟨rfl,_⟩ | ⟨g,cap,cur,rfl,_,hg,_⟩
 ·exact fun g cs t' _ _ hc=>(h.block g (Array.getElem?_eq_some_iff.1 hc).1 (by intro e;cases e)).trans hc
 ·exact Kp.other h hg ht
/-- A row as it lies: of the call's own from a base on, or not. -/
def RowR (w:World) (B:Option Nat) (t:TypeId) (size:Nat) (v:Value) (n:Nat) (xs:List Value):Prop :=
 match B with
 | none=>xs.length=n * size∧∃ A c,v=.slice A n c∧n≤c∧c≤9223372036854775807∧(A=none→n=0∧c=0)∧Lie w A xs
 | some base=>w.ownsRow base t size v n xs
section
variable {w w' : World} {B : Option Nat} {t : TypeId} {size n : Nat} {v : Value} {xs : List Value}
theorem RowR.slice (h:RowR w B t size v n xs):∃ A c,v=.slice A n c∧n≤c∧c≤9223372036854775807∧(A=none→n=0∧c=0)∧Lie w A xs:=by
 cases B with
 | none=>exact h.2
 | some base =>
  obtain ⟨A,c,rfl,hl,_,hnc,hA,_⟩:=Lie.of_own (show w.ownsRow base t size v n xs from h)
  refine ⟨A,c,rfl,hnc,?_,hA,hl⟩
  rcases (show w.ownsRow base t size _ n xs from h).2 with ⟨e,_⟩ | ⟨g,cap,cur,e,_,_,_,hc,_⟩
  ·injection e with _ _ e;omega
  ·injection e with _ _ e;unfold maxLen at hc;omega
theorem RowR.len (h:RowR w B t size v n xs):xs.length=n * size:=by
 cases B with
 | none=>exact h.1
 | some base=>exact World.ownsRow.lt (show w.ownsRow base t size v n xs from h) |> fun _=>(show w.ownsRow base t size v n xs from h).1
theorem RowR.weak {B':Option Nat} (h:RowR w B t size v n xs) (hB:∀ b',B'=some b'→∃ b,B=some b∧b'≤b):RowR w B' t size v n xs:=by
 cases B' with
 | none=>exact ⟨h.len,h.slice⟩
 | some b' =>
  obtain ⟨b,rfl,hb⟩:=hB b' rfl
  refine ⟨(show w.ownsRow b t size v n xs from h).1,?_⟩
  rcases (show w.ownsRow b t size v n xs from h).2 with hn | ⟨g,cap,cur,rfl,hbs,rest⟩
  ·exact .inl hn
  ·exact .inr ⟨g,cap,cur,rfl,by omega,rest⟩
theorem RowR.below (h:RowR w B t size v n xs) (hb:Below w.heap.size w w'):RowR w' B t size v n xs:=by
 cases B with
 | none =>
  obtain ⟨h1,A,c,e,h2,h3,h4,h5⟩:=h
  exact ⟨h1,A,c,e,h2,h3,h4,h5.below hb⟩
 | some base =>
  refine ⟨(show w.ownsRow base t size v n xs from h).1,?_⟩
  rcases (show w.ownsRow base t size v n xs from h).2 with hn | ⟨g,cap,cur,rfl,hbs,hg,rest⟩
  ·exact .inl hn
  ·exact .inr ⟨g,cap,cur,rfl,hbs,(hb.block g (Array.getElem?_eq_some_iff.1 hg).1).trans hg,rest⟩
theorem RowR.kp {base b:Nat} {T:List TypeId} (h:RowR w (some b) t size v n xs) (hk:Kp base T w w') (hb:base≤b) (ht:t∈T):RowR w' (some b) t size v n xs:=by
 refine ⟨(show w.ownsRow b t size v n xs from h).1,?_⟩
 rcases (show w.ownsRow b t size v n xs from h).2 with hn | ⟨g,cap,cur,rfl,hbs,hg,rest⟩
 ·exact .inl hn
 ·exact .inr ⟨g,cap,cur,rfl,hbs,hk g cur t (by omega) ht hg,rest⟩
end
theorem flatten_len {size:Nat} {css:List (List Value)} (h:∀ cs∈css,cs.length=size):css.flatten.length=css.length * size:=by
 induction css with
 | nil=>simp
 | cons a l ih=>rw [List.flatten_cons,List.length_append,ih (fun c hc=>h c (by simp [hc])),h a (by simp),List.length_cons,Nat.succ_mul,Nat.add_comm]
theorem flatten_get {size:Nat}:∀ {css:List (List Value)} (_:∀ cs∈css,cs.length=size) {j:Nat} (hj:j<css.length) (i:Nat),i<size→css.flatten[j * size+i]?=css[j][i]?
 | [],_,j,hj,_,_=>by simp at hj
 | a::l,h,0,_,i,hi=>by
  rw [List.flatten_cons,Nat.zero_mul,Nat.zero_add,List.getElem?_append_left (by rw [h a (by simp)];exact hi)]
  rfl
 | a::l,h,j+1,hj,i,hi=>by
  have ha:=h a (by simp)
  rw [List.flatten_cons,List.getElem?_append_right (by rw [ha,Nat.succ_mul];omega),ha,show (j+1) * size+i - size=j * size+i from by rw [Nat.succ_mul];omega]
  exact flatten_get (fun c hc=>h c (by simp [hc])) (by simpa using hj) i hi
/-- A row of structs: E tells what an element's cells mean. -/
def ERow {α:Type} (w:World) (B:Option Nat) (t:TypeId) (size:Nat) (E:World→List Value→α→Prop) (v:Value) (l:List α):Prop :=
 ∃ css:List (List Value),css.length=l.length∧(∀ cs∈css,cs.length=size)∧RowR w B t size v l.length css.flatten∧∀ i (h:i<css.length) (h':i<l.length),E w css[i] l[i]
section
variable {α : Type} {w w' : World} {B : Option Nat} {t : TypeId} {size : Nat} {E : World → List Value → α → Prop} {v : Value} {l : List α}
theorem ERow.mono {B':Option Nat} {E':World→List Value→α→Prop} (h:ERow w B t size E v l) (hr:∀ n xs,RowR w B t size v n xs→RowR w' B' t size v n xs) (hE:∀ cs x,E w cs x→E' w' cs x):ERow w' B' t size E' v l:=by
 obtain ⟨css,h1,h2,h3,h4⟩:=h
 exact ⟨css,h1,h2,hr _ _ h3,fun i a b=>hE _ _ (h4 i a b)⟩
theorem ERow.below (h:ERow w B t size E v l) (hb:Below w.heap.size w w') (hE:∀ cs x,E w cs x→E w' cs x):ERow w' B t size E v l:=h.mono (fun _ _ hr=>hr.below hb) hE
theorem ERow.kp {base b:Nat} {T:List TypeId} (h:ERow w (some b) t size E v l) (hk:Kp base T w w') (hb:base≤b) (ht:t∈T) (hE:∀ cs x,E w cs x→E w' cs x):ERow w' (some b) t size E v l:=h.mono (fun _ _ hr=>hr.kp hk hb ht) hE
theorem ERow.nil (w:World) (b:Nat) (t:TypeId) (size:Nat) (E:World→List Value→α→Prop):ERow w (some b) t size E (.slice none 0 0) [] :=
 ⟨[],rfl,(fun _ h=>absurd h List.not_mem_nil),World.ownsRow_nil w b t size,fun i h=>absurd h (Nat.not_lt_zero i)⟩
theorem ERow.slice (h:ERow w B t size E v l):∃ A c,v=.slice A l.length c∧l.length≤c∧c≤9223372036854775807∧(A=none→l.length=0∧c=0):=by
 obtain ⟨css,h1,h2,h3,h4⟩:=h
 obtain ⟨A,c,e,h5,h6,h7,_⟩:=h3.slice
 exact ⟨A,c,e,h5,h6,h7⟩
theorem ERow.is (h:ERow w B t size E v l):∃ A n c,v=.slice A n c:=by
 obtain ⟨A,c,e,_⟩:=h.slice
 exact ⟨A,_,c,e⟩
theorem ERow.get {A:Option Addr} {n c:Nat} (h:ERow w B t size E (.slice A n c) l) {i:Nat} (hi:i<l.length) (hs:0<size):∃ g off cs,A=some ⟨g,off,none⟩∧cs.length=size∧E w cs l[i]∧(∀ j u,cs[j]?=some u→w.cell? ⟨g,off+i * size+j,none⟩=some u):=by
 obtain ⟨css,h1,h2,h3,h4⟩:=h
 obtain ⟨A',c',e,h5,h6,h7,h8⟩:=h3.slice
 injection e with e1 e2 e3
 subst e1
 obtain ⟨g,off,rfl,hc⟩:=h8 (by rw [h3.len];exact Nat.mul_pos (by omega) hs)
 have hi':i<css.length:=by omega
 refine ⟨g,off,css[i],rfl,h2 _ (List.getElem_mem _),h4 i hi' hi,fun j u hu=>?_⟩
 have hj:j<size:=by rw [←h2 _ (List.getElem_mem hi')];exact (List.getElem?_eq_some_iff.1 hu).1
 rw [Nat.add_assoc]
 exact hc _ u (by rw [flatten_get h2 hi' j hj];exact hu)
/-- One element more. -/
theorem ERow.snoc {b:Nat} {v':Value} {x:α} {css:List (List Value)} {cs:List Value} (h1:css.length=l.length) (h2:∀ cs∈css,cs.length=size) (h4:∀ i (h:i<css.length) (h':i<l.length),E w' css[i] l[i])
  (hc:cs.length=size) (hx:E w' cs x) (h:w'.ownsRow b t size v' (l.length+1) (css.flatten++cs)):ERow w' (some b) t size E v' (l++[x]):=by
 refine ⟨css++[cs],by simp [h1],fun c hc'=>?_,?_,fun i ha hb=>?_⟩
 ·rcases List.mem_append.1 hc' with h | h
  ·exact h2 c h
  ·simp at h;subst h;exact hc
 ·show w'.ownsRow b t size v' (l++[x]).length (css++[cs]).flatten
  rw [List.length_append,List.length_singleton,List.flatten_append,List.flatten_singleton]
  exact h
 ·rcases Nat.lt_or_ge i css.length with hi | hi
  ·rw [List.getElem_append_left hi,List.getElem_append_left (by omega)]
   exact h4 i hi (by omega)
  ·have e:i=css.length:=by simp at ha;omega
   subst e
   rw [List.getElem_append_right (Nat.le_refl _),List.getElem_append_right (by omega)]
   simpa using hx
end
/-- Nothing but cells of blocks of one type was written; memory may have grown. -/
structure Only (e:TypeId) (w w':World):Prop where
 os:w'.os=w.os
 tape:w'.tape=w.tape
 output:w'.output=w.output
 size:w.heap.size≤w'.heap.size
 block:∀ (g:Nat) (o:Obj),w.heap[g]?=some o→(∀ (cs:Array Value) (fr:Nat × Nat),o≠Obj.cells cs e fr)→w'.heap[g]?=some o
theorem Only.below {e:TypeId} {w w':World} (h:Below w.heap.size w w'):Only e w w':=⟨h.os,h.tape,h.output,h.size,fun g o hg _=>(h.block g (Array.getElem?_eq_some_iff.1 hg).1).trans hg⟩
theorem Only.refl (e:TypeId) (w:World):Only e w w:=⟨rfl,rfl,rfl,Nat.le_refl _,fun _ _ h _=>h⟩
theorem Only.trans {e:TypeId} {a b c:World} (h:Only e a b) (k:Only e b c):Only e a c:=⟨k.os.trans h.os,k.tape.trans h.tape,k.output.trans h.output,Nat.le_trans h.size k.size,fun g o hg hn=>k.block g o (h.block g o hg hn) hn⟩
theorem Only.kp {e:TypeId} {w w':World} (h:Only e w w') (base:Nat) {T:List TypeId} (hT:e ∉ T):Kp base T w w':=fun g cs t _ ht hg=>h.block g _ hg (fun cs' fr' e'=>by injection e' with _ e2;exact hT (e2 ▸ ht))
theorem Only.bk {e:TypeId} {w w':World} (h:Only e w w') {g:Nat} {t:TypeId} {cs:Array Value} (hg:Bk w g t cs) (ht:t≠e):Bk w' g t cs:=h.block g _ hg (fun cs' fr' e'=>by injection e' with _ e2;exact ht e2)
theorem Only.row {w w':World} {b0:Nat} {t:TypeId} {size n:Nat} {v:Value} {xs:List Value} (h:w.grownBy w' v.ownBlock) (hr:w.ownsRow b0 t size v n xs):Only t w w' :=
 ⟨h.os,h.tape,h.output,h.size,fun g o hg hn=>(h.block g (Array.getElem?_eq_some_iff.1 hg).1 (by
  intro e
  rcases hr.2 with ⟨rfl,_⟩ | ⟨g',cap,cur,rfl,_,hg',_⟩
  ·cases e
  ·simp [Value.ownBlock] at e
   subst e
   rw [hg] at hg'
   injection hg' with hg'
   exact hn _ _ hg')).trans hg⟩
theorem Only.set {w:World} {g:Nat} {e:TypeId} {cs:Array Value} {fr:Nat × Nat} (hg:w.heap[g]?=some (.cells cs e fr)) (j:Nat) (u:Value):Only e w (w.setCell ⟨g,j,none⟩ u) :=
 ⟨rfl,rfl,rfl,by simp,fun g' o ho hn=>(Below.heap_setCell w ⟨g,j,none⟩ u g' (by
  rintro rfl
  rw [hg] at ho
  injection ho with ho
  exact hn _ _ ho.symm)).trans ho⟩
theorem Only.typed {e:TypeId} {w w':World} (h:Only e w w') {g:Nat} {t:TypeId} {cs:Array Value} {fr:Nat × Nat} (hg:w.heap[g]?=some (.cells cs t fr)) (ht:t≠e):w'.heap[g]?=some (.cells cs t fr):=h.block g _ hg (fun cs' fr' e'=>by injection e' with _ e2;exact ht e2)
theorem gb_join {a w w':World} {row:Option Nat} (h:a.grownBy w row) (k:Below a.heap.size w w'):a.grownBy w' row :=
 ⟨k.os.trans h.os,k.tape.trans h.tape,k.output.trans h.output,Nat.le_trans h.size k.size,fun i hi hn=>(k.block i hi).trans (h.block i hi hn)⟩
/-- An element appended to a row of the call's own. -/
theorem wpList_append_el {P:Program} {ops:Array Oper} {rest:List Oper} {o:Oper} {a:Act} {Q:Exit→Act→World→Prop} {w0:World} (hgd:o.guard=none) (s y:Operand) (t:TypeId)
  (ho:o.op=.call { callee:=.builtin .append,args:=#[s,y],argTypes:=#[t,t] })
  (base:Nat) (e:TypeId) (z:Value) (size bytes:Nat) (ht:P.underlying t=some (.slice e)) (hi:(P.info? e).map (fun i=>(i.zero,i.size,i.bytes))=some (some z,size,bytes)) (hzs:z.cells.size=size) (hpos:0<size)
  {α:Type} (E:World→List Value→α→Prop) (v:Value) (l:List α) (hs:a.eval s=v) (hown:ERow w0 (some base) e size E v l)
  (cs:List Value) (hcs:cs.length=size) (g:Nat) (hx:a.eval y=.slice (some ⟨g,0,none⟩) 1 1) (hg0:g=w0.heap.size) (h1:∀ u∈cs,u.oneCell'=true)
  (h63:l.length+1≤maxLen) (hbytes:(l.length+1) * bytes≤140737488355328) (hbase:base≤w0.heap.size)
  (h:∀ v' w',(∀ x,(∀ cs x,E w0 cs x→E w' cs x)→E w' cs x→ERow w' (some base) e size E v' (l++[x]))→Below base w0 w'→Only e w0 w'→wpList P ops Q rest (a.put o.dst v') w') :
  wpList P ops Q (o::rest) a (w0.alloc (.cells cs.toArray e)):=by
 subst hg0
 obtain ⟨css,k1,k2,k3,k4⟩:=hown
 obtain ⟨i,hi0,hz0,hz1,hz2⟩:=info_parts hi
 have hown:w0.ownsRow base e size v l.length css.flatten:=k3
 refine wpList_append_own_at _ hgd s y t ho base e i z size bytes ht hi0 hz0 hz1 hz2 hzs hpos v l.length css.flatten hs (hown.alloc _) ⟨w0.heap.size,0,none⟩ 1 1 cs hx (by rw [hcs];omega) (fun j u hu=>?_) h1 h63 hbytes (by simp;omega) ?_
 ·have e':((⟨w0.heap.size,0,none⟩:Addr).add j)=⟨w0.heap.size,j,none⟩:=by simp [Addr.add];omega
  rw [e',World.cell?_alloc_mark]
  simpa using hu
 intro v' w' hown' hg _ hv
 refine h v' w' (fun x hE hx'=>ERow.snoc k1 k2 (fun i a b=>hE _ _ (k4 i a b)) hcs hx' hown') (((Below.refl base w0).alloc hbase _).grown hg (by simp;omega) (fun k hk=>(hown.lt k hk).1)) ?_
 exact (Only.below ((Below.refl _ _).alloc (Nat.le_refl _) _)).trans (Only.row hg (hown.alloc _))
end Go.Proofs.YtogijkhenihaaaaGreatDoor
set_option linter.unusedVariables false
namespace Go.Proofs.YtogijkhenihaaaaGreatDoor
open Go.RowKit Go.ChangeShapes Go.WideShapes Go.Deep
section
variable {H : Type} {enc : TypeId × Value → H} {P : Program} {w : World} {base : Nat} {spare : Nat → Bool} {held : Bool}
end
end Go.Proofs.YtogijkhenihaaaaGreatDoor
set_option linter.unusedVariables false
namespace Go.Proofs.YtogijkhenihaaaaGreatDoor
open Go.RowKit Go.BigFrame
theorem quiet_load_row {P:Program} {C:World→Prop} {K:Act→Prop} {a:Act} {o:Oper} (ty:TypeId) (x:Operand) (ho:o.op=.load ty x) (g:Nat) (hx:a.eval x=.pointer (some ⟨g,0,none⟩))
  (t:TypeId) (cs:Array Value) (d:TypeDesc) (hg:∀ w,C w→Bk w g t cs) (hu:P.underlying ty=some d) (hd:(match d with | .struct _ | .array _ _=>true | _=>false)=true) (hi:(P.info? ty).map (·.size)=some cs.size)
  (h:K (a.put o.dst (.agg cs))):o.quiet P a C K :=
 ⟨_,fun w hw=>by
  unfold Oper.quietAt execOp
  simp only [ho,hx,Instr.loadAt,Instr.sureAddr,Sem.run_bind,Sem.run_pure,Result.andThen_ok,run_loadVar_row w g t ty cs (0,0) d (hg w hw) hu hd hi]
  exact ⟨rfl,rfl⟩,h⟩
theorem Bk.row {w:World} {g:Nat} {t:TypeId} {old:Array Value} (h:Bk w g t old) (cs:Array Value):Bk (w.setRow g cs) g t cs:=by
 unfold Bk at h ⊢
 simp [World.setRow,Array.getElem?_modify,h]
theorem Bk.row_far {w:World} {g g':Nat} {t:TypeId} {cs:Array Value} (h:Bk w g t cs) (hg:g≠g') (cs':Array Value):Bk (w.setRow g' cs') g t cs:=by
 unfold Bk at h ⊢
 have h':¬g'=g:=fun e=>hg e.symm
 simp [World.setRow,Array.getElem?_modify,h',h]
theorem below_row {B:Nat} {a w:World} {g:Nat} (h:Below B a w) (hg:B≤g) (cs:Array Value):Below B a (w.setRow g cs) :=
 ⟨h.os,h.tape,h.output,by simpa [World.setRow] using h.size,fun i hi=>by
  rw [←h.block i hi]
  have:¬g=i:=by omega
  simp [World.setRow,Array.getElem?_modify,this]⟩
end Go.Proofs.YtogijkhenihaaaaGreatDoor
set_option linter.unusedVariables false
set_option linter.unusedSimpArgs false
namespace Go.Proofs.YtogijkhenihaaaaGreatDoor
open Go.RowKit Go.BigFrame
namespace Lst
section
variable {P : Program} {ops : Array Oper} {md : Region.Mode} {C : World → Prop} {K : Act → Prop} {z : Nat}
/-- Each but the last has one behind it that waits for it. -/
def lastB (md:Region.Mode) (ops:Array Oper) (z:Nat):Bool :=
 decide (z+1=ops.size)&&(List.range z).all fun i=>(List.range ops.size).any fun j=>decide (i<j)&&match ops[j]? with
  | none=>false
  | some o=>o.after.any fun e=>Region.binds md e&&e.on==i
/-- What has come up had all that it waits for. -/
def Shut (md:Region.Mode) (ops:Array Oper) (listed:Array Bool):Prop :=
 listed.size=ops.size∧∀ j o,ops[j]?=some o→listed.getD j false=true→∀ e∈o.after,Region.binds md e=true→listed.getD e.on false=true
theorem Shut.start:Shut md ops (Array.replicate ops.size false):=by
 refine ⟨by simp,fun j o _ h=>?_⟩
 rw [Array.getD_eq_getD_getElem?,Array.getElem?_replicate] at h
 split at h <;> simp at h
theorem Shut.next {listed:Array Bool} (h:Shut md ops listed) {i:Nat} (hi:i∈Region.ready md ops listed):Shut md ops (listed.setIfInBounds i true):=by
 refine ⟨by simpa using h.1,fun j o ho hj e he hb=>?_⟩
 by_cases hji:j=i
 ·subst hji
  obtain ⟨_,o',ho',hall⟩:=mem_ready.1 hi
  rw [ho] at ho'
  injection ho' with ho'
  subst ho'
  exact getD_set_true (hall e he hb)
 ·rw [getD_set_ne false (Ne.symm hji)] at hj
  exact getD_set_true (h.2 j o ho hj e he hb)
theorem Shut.all {listed:Array Bool} (h:Shut md ops listed) (hL:lastB md ops z=true) (hz:z∈Region.ready md ops listed):∀ i,i<z→listed.getD i false=true:=by
 simp only [lastB,Bool.and_eq_true,decide_eq_true_eq] at hL
 obtain ⟨hs,hL⟩:=hL
 have key:∀ n i,z - i=n→i<z→listed.getD i false=true:=by
  intro n
  induction n using Nat.strongRecOn with
  | _ n ih =>
   intro i hn hi
   obtain ⟨j,hj,hjj⟩:=List.any_eq_true.1 (List.all_eq_true.1 hL i (List.mem_range.2 hi))
   simp only [Bool.and_eq_true,decide_eq_true_eq] at hjj
   obtain ⟨hij,hjj⟩:=hjj
   have hjs:j<ops.size:=List.mem_range.1 hj
   rw [Array.getElem?_eq_getElem hjs] at hjj
   simp only at hjj
   obtain ⟨m,hm,hmm⟩:=Array.any_eq_true.1 hjj
   simp only [Bool.and_eq_true,beq_iff_eq] at hmm
   have hjo:ops[j]?=some ops[j]:=Array.getElem?_eq_getElem hjs
   rw [←hmm.2]
   by_cases hjz:j=z
   ·subst hjz
    obtain ⟨_,o',ho',hall⟩:=mem_ready.1 hz
    rw [hjo] at ho'
    injection ho' with ho'
    subst ho'
    exact hall _ (Array.getElem_mem hm) hmm.1
   ·exact h.2 j _ hjo (ih (z - j) (by omega) j rfl (by omega)) _ (Array.getElem_mem hm) hmm.1
 exact fun i hi=>key _ i rfl hi
/-- Whatever order is picked, up to the last. -/
def wpAnyZ (P:Program) (md:Region.Mode) (ops:Array Oper) (C:World→Prop) (z:Nat) (K:Act→Prop):Nat→Array Bool→Act→Prop
 | 0,_,_=>False
 | fuel+1,listed,a=>Region.ready md ops listed≠[]∧∀ i∈Region.ready md ops listed,if i=z then K a else qOp P ops C i (wpAnyZ P md ops C z K fuel (listed.setIfInBounds i true)) a
theorem done_of {listed:Array Bool} (hs:listed.size=ops.size) (hL:lastB md ops z=true) (h:∀ i,i<z→listed.getD i false=true):Region.ready md ops (listed.setIfInBounds z true)=[]:=by
 simp only [lastB,Bool.and_eq_true,decide_eq_true_eq] at hL
 rcases hq:Region.ready md ops (listed.setIfInBounds z true) with _ | ⟨i,r⟩
 ·rfl
 ·exfalso
  have hi:i∈Region.ready md ops (listed.setIfInBounds z true):=by rw [hq];simp
  obtain ⟨h0,o,ho,_⟩:=mem_ready.1 hi
  have hio:i<ops.size:=(Array.getElem?_eq_some_iff.1 ho).1
  by_cases hiz:i=z
  ·subst hiz
   rw [Array.getD_eq_getD_getElem?,Array.getElem?_setIfInBounds_self_of_lt (by omega)] at h0
   simp at h0
  ·rw [getD_set_ne true (Ne.symm hiz)] at h0
   have h1:=h i (by omega)
   have hls:i<listed.size:=by omega
   simp [hls] at h0 h1
   rw [h0] at h1
   cases h1
theorem wpAny_of_Z {Q:Exit→Act→World→Prop} (hL:lastB md ops z=true) (hK:∀ a w,C w→K a→wpOp P ops Q z (fun a' w'=>Q .normal a' w') a w) :
  ∀ (fuel:Nat) (listed:Array Bool) (a:Act) (w:World),Shut md ops listed→C w→wpAnyZ P md ops C z K fuel listed a→wpAny P md ops Q fuel listed a w
 | 0,_,_,_,_,_,h=>h.elim
 | fuel+1,listed,a,w,hs,hw,h=>⟨fun h0=>(h.1 h0).elim,fun i hi=>by
  have h1:=h.2 i hi
  by_cases hiz:i=z
  ·subst hiz
   rw [if_pos rfl] at h1
   have hr:=done_of hs.1 hL (hs.all hL hi)
   refine wpOp_mono (fun a' w' hq=>?_) (hK a w hw h1)
   cases fuel with
   | zero=>exact ⟨hr,hq⟩
   | succ f=>exact ⟨fun _=>hq,by rw [hr];simp⟩
  ·rw [if_neg hiz] at h1
   exact wpOp_of_qOp hw (fun a' w' hw'=>wpAny_of_Z hL hK fuel _ a' w' (hs.next hi) hw') h1⟩
theorem wpAnyZ_first {i:Nat} {oi:Oper} {v:Value} (hL:lastB md ops z=true) (hiz:i<z) (hi:ops[i]?=some oi) (hsel:∀ (j:Nat) (o:Oper) cs b,ops[j]?=some o→o.op≠.select cs b) :
  ∀ (fuel:Nat) (listed:Array Bool) (a:Act),Shut md ops listed →
   (∀ j oj,ops[j]?=some oj→j≠i→listed.getD j true=false→(∀ e∈oj.after,Region.binds md e=true→e.on≠i)→oi.apart ops oj=true) →
   i∈Region.ready md ops listed→YieldsIn P ops C oi v a →
   wpAnyZ P md ops C z K fuel (listed.setIfInBounds i true) (a.put oi.dst v)→wpAnyZ P md ops C z K (fuel+1) listed a:=by
 have notz:∀ (listed:Array Bool),Shut md ops listed→i∈Region.ready md ops listed→z ∉ Region.ready md ops listed:=fun listed hs hr hz=>by
  have h1:=hs.all hL hz i hiz
  have h0:=(mem_ready.1 hr).1
  have hls:i<listed.size:=by rw [hs.1];exact (Array.getElem?_eq_some_iff.1 hi).1
  simp [hls] at h0 h1
  rw [h0] at h1
  cases h1
 intro fuel
 induction fuel with
 | zero=>intro listed a _ _ _ _ H;exact H.elim
 | succ fuel ih =>
  intro listed a hs hfree hr hy H
  refine ⟨fun h=>(by rw [h] at hr;cases hr),fun j hj=>?_⟩
  have hjz:j≠z:=fun e=>notz listed hs hr (e ▸ hj)
  rw [if_neg hjz]
  by_cases hji:j=i
  ·subst hji;exact hy.qOp hi H
  ·have h1:=H.2 j (ready_mono hj hji)
   rw [if_neg hjz] at h1
   obtain ⟨hjun,oj,hoj,hall⟩:=mem_ready.1 hj
   have hnot:∀ e∈oj.after,Region.binds md e=true→e.on≠i:=fun e he hb heq=>by
    have h1:=hall e he hb
    have h0:=(mem_ready.1 hr).1
    rw [heq] at h1
    rcases Nat.lt_or_ge i listed.size with h' | h'
    ·simp [h'] at h0 h1;rw [h0] at h1;cases h1
    ·simp [Array.getElem?_eq_none h'] at h1
   have h2:=qOp_put hoj (hfree j oj hoj hji hjun hnot) (fun cs b=>hsel i oi cs b hi) (fun cs b=>hsel j oj cs b hoj) hy h1
   have hfree':∀ k ok,ops[k]?=some ok→k≠i→(listed.setIfInBounds j true).getD k true=false →
     (∀ e∈ok.after,Region.binds md e=true→e.on≠i)→oi.apart ops ok=true:=fun k ok hk hki hun hno=>by
    refine hfree k ok hk hki ?_ hno
    by_cases hjk:j=k
    ·subst hjk;exact hjun
    ·rw [getD_set_ne true hjk] at hun;exact hun
   refine qOp_mono (fun a' h3=>ih (listed.setIfInBounds j true) a' (hs.next hj) hfree' (ready_mono hr (Ne.symm hji)) h3.1 ?_) h2
   rw [Array.setIfInBounds_comm _ _ hji]
   exact h3.2
theorem wpAnyZ_lex (hL:lastB md ops z=true) (hs:Region.noSelect ops=true):∀ (l:List Oper) (k:Nat) (listed:Array Bool) (a:Act),(∀ j,j<l.length→l[j]?=ops[k+j]?)→k+l.length=z→Shut md ops listed →
  Region.lexFrom md ops (l.length+1) k listed=true→wpQuiet P ops C K l a→wpAnyZ P md ops C z K (l.length+1) listed a
 | [],k,listed,a,_,hk,hsh,hB,h=>by
  simp only [List.length_nil,Nat.add_zero] at hk
  subst hk
  simp only [List.length_nil,Nat.zero_add,Region.lexFrom,Bool.and_eq_true] at hB
  have hz:k∈Region.ready md ops listed:=by simpa using hB.1.1
  refine ⟨fun e=>(by rw [e] at hz;cases hz),fun i hi=>?_⟩
  have hik:i=k:=by
   obtain ⟨h0,o,ho,_⟩:=mem_ready.1 hi
   have hio:i<ops.size:=(Array.getElem?_eq_some_iff.1 ho).1
   have hsz:k+1=ops.size:=by
    have h:=hL
    simp only [lastB,Bool.and_eq_true,decide_eq_true_eq] at h
    exact h.1
   rcases Nat.lt_or_ge i k with hlt | hge
   ·have h1:=hsh.all hL hz i hlt
    have hls:i<listed.size:=by rw [hsh.1];exact hio
    simp [hls] at h0 h1
    rw [h0] at h1
    cases h1
   ·omega
  rw [if_pos hik]
  exact h
 | o::l,k,listed,a,hl,hk,hsh,hB,h=>by
  have h0:ops[k]?=some o:=by simpa using (hl 0 (by simp)).symm
  simp only [List.length_cons] at hk hB ⊢
  rw [Region.lexFrom] at hB
  simp only [Bool.and_eq_true] at hB
  obtain ⟨⟨hr,hf⟩,hB'⟩:=hB
  have hst:qOp P ops C k (wpQuiet P ops C K l) a:=by unfold qOp;simp only [h0];exact h
  obtain ⟨v,hy,hK⟩:=yieldsIn_of_qOp h0 hst
  have hr':k∈Region.ready md ops listed:=by simpa using hr
  exact wpAnyZ_first hL (by omega) h0 (Region.noSelect_spec hs) (l.length+1) listed a hsh (Region.free_spec h0 hf) hr' hy
   (wpAnyZ_lex hL hs l (k+1) _ _ (fun j hj=>by have:=hl (j+1) (by simpa using hj);simpa [Nat.add_assoc,Nat.add_comm 1 j] using this) (by omega) (hsh.next hr') hB' hK)
end
/-- One walk of the text's order, the last one apart. -/
theorem region {P:Program} {C:World→Prop} {id:Nat} {Q:Exit→Act→World→Prop} {a:Act} {w:World} {l:List Oper} {o:Oper} (hm:P.follows .mixedOrders=true) (hB:Region.lexB .any (l++[o]).toArray=true) (hL:lastB .any (l++[o]).toArray l.length=true)
  (hC:C w.drew) (hg:o.guard=none) (h:wpQuiet P (l++[o]).toArray C (fun a'=>∀ w',C w'→∀ K:Act→World→Prop,(∀ a w,Q .normal a w→K a w)→Oper.wp P o a' w' K Q) l a):(Code.region id (l++[o]).toArray true).wp P Q a w:=by
 simp only [Region.lexB,Bool.and_eq_true] at hB
 refine wp_region_any hm (wpAny_of_Z (C:=C) (z:=l.length) (K:=fun a'=>∀ w',C w'→∀ K:Act→World→Prop,(∀ a w,Q .normal a w→K a w)→Oper.wp P o a' w' K Q) hL (fun a w hw hK=>?_) _ _ _ _ Shut.start hC ?_)
 ·refine wpOp_step (o:=o) (by simp) (fun K' hK'=>?_)
  rw [if_pos (by unfold Region.wanted;rw [hg])]
  exact hK w hw K' hK'
 ·have e:(l++[o]).toArray.size=l.length+1:=by simp
  rw [e]
  exact wpAnyZ_lex hL hB.1 l 0 _ _ (fun j hj=>by simp [List.getElem?_append_left hj]) (by simp) (by rw [←e];exact Shut.start) (by have:=hB.2;rwa [e] at this) h
theorem load_cell {P:Program} {C:World→Prop} {K:Act→Prop} {a:Act} {o:Oper} (ty:TypeId) (x:Operand) (ho:o.op=.load ty x) (p:Addr) (hx:a.eval x=.pointer (some p))
  (v:Value) (hg:∀ w,C w→w.cell? p=some v) (d:TypeDesc) (hu:P.underlying ty=some d) (hd:(match d with | .struct _ | .array _ _=>true | _=>false)=false)
  (h:K (a.put o.dst v)):o.quiet P a C K :=
 ⟨_,fun w hw=>by
  have hag:(isAgg ty).run P w=.ok false w:=by
   unfold isAgg
   rw [Sem.run_bind,run_underlying hu w]
   cases d <;> simp_all
  have hl:(loadVar ty p).run P w=.ok v w:=by
   have hc:=hg w hw
   simp [loadVar,Sem.run_bind,hag,go_sem,hc]
  unfold Oper.quietAt execOp
  simp only [ho,hx,Instr.loadAt,Instr.sureAddr,Sem.run_bind,Sem.run_pure,Result.andThen_ok,hl]
  exact ⟨rfl,rfl⟩,h⟩
theorem region_lit {P:Program} {id:Nat} {Q:Exit→Act→World→Prop} {a:Act} {w:World} {l:List Oper} {o:Oper} (W:World) (hC:Bl W w) (ho:l.getLast?=some o) (hm:P.follows .mixedOrders=true) (hB:Region.lexB .any l.toArray=true) (hL:lastB .any l.toArray (l.length - 1)=true)
  (hg:o.guard=none) (h:wpQuiet P l.toArray (Bl W) (fun a'=>∀ w',Bl W w'→∀ K:Act→World→Prop,(∀ a w,Q .normal a w→K a w)→Oper.wp P o a' w' K Q) l.dropLast a):(Code.region id l.toArray true).wp P Q a w:=by
 have e:l=l.dropLast++[o]:=by
  have hne:l≠[]:=by rintro rfl;simp at ho
  have h2:=List.dropLast_concat_getLast hne
  rw [List.getLast?_eq_some_getLast hne] at ho
  injection ho with ho
  rw [ho] at h2
  exact h2.symm
 have e2:l.dropLast.length=l.length - 1:=List.length_dropLast
 generalize l.dropLast=l0 at *
 subst e
 exact region hm hB (by rw [e2];exact hL) (hC.drewN 1) hg h
end Lst
end Go.Proofs.YtogijkhenihaaaaGreatDoor
set_option linter.unusedVariables false
set_option linter.unusedSimpArgs false
namespace Go.Proofs.YtogijkhenihaaaaGreatDoor
open Go.RowKit
section
variable {P : Program} {ops : Array Oper} {Q : Exit → Act → World → Prop} {md : Region.Mode} {S : World → Prop} {D : List Nat}
/-- None of D has come up. -/
def noneOf (D:List Nat) (listed:Array Bool):Bool:=D.all fun k=>!listed.getD k true
theorem noneOf_spec {listed:Array Bool} (h:noneOf D listed=true) (k:Nat) (hk:k∈D):listed.getD k true=false:=by
 have:=List.all_eq_true.1 h k hk
 simpa using this
theorem noneOf_mk {listed:Array Bool} (h:∀ k∈D,listed.getD k true=false):noneOf D listed=true:=List.all_eq_true.2 fun k hk=>by rw [h k hk];rfl
theorem noneOf_set {listed:Array Bool} {i:Nat} (h:noneOf D listed=true) (hi:i ∉ D):noneOf D (listed.setIfInBounds i true)=true:=noneOf_mk fun k hk=>by
 rw [getD_set_ne true (by rintro rfl;exact hi hk)]
 exact noneOf_spec h k hk
/-- Whatever order is picked, and S holds behind each operation till one of D comes up. -/
def wpAnyL (P:Program) (md:Region.Mode) (ops:Array Oper) (Q:Exit→Act→World→Prop) (S:World→Prop) (D:List Nat):Nat→Array Bool→Act→World→Prop
 | 0,listed,a,w=>Region.ready md ops listed=[]∧Q .normal a w
 | fuel+1,listed,a,w =>
  (Region.ready md ops listed=[]→Q .normal a w) ∧
  ∀ i∈Region.ready md ops listed,wpOp P ops Q i (fun a' w'=>(noneOf D (listed.setIfInBounds i true)=true→S w')∧wpAnyL P md ops Q S D fuel (listed.setIfInBounds i true) a' w') a w
theorem wpAny_of_L:∀ (fuel:Nat) (listed:Array Bool) (a:Act) (w:World),wpAnyL P md ops Q S D fuel listed a w→wpAny P md ops Q fuel listed a w
 | 0,_,_,_,h=>h
 | fuel+1,_,_,_,h=>⟨h.1,fun i hi=>wpOp_mono (fun a' w' h'=>wpAny_of_L fuel _ a' w' h'.2) (h.2 i hi)⟩
theorem wpAnyL_first0 {i:Nat} {oi:Oper} {v:Value} (hi:ops[i]?=some oi) (hsel:∀ (j:Nat) (o:Oper) cs b,ops[j]?=some o→o.op≠.select cs b)
  (hQ:∀ c a w,Q (.panic c) (a.put oi.dst v) w→Q (.panic c) a w) (hiD:i ∉ D) :
  ∀ (fuel:Nat) (listed:Array Bool) (a:Act) (w:World),
   (∀ j oj,ops[j]?=some oj→j≠i→listed.getD j true=false→(∀ e∈oj.after,Region.binds md e=true→e.on≠i)→oi.apart ops oj=true) →
   i∈Region.ready md ops listed→YieldsIf P ops (fun _=>True) oi v a→(noneOf D (listed.setIfInBounds i true)=true→S w) →
   wpAnyL P md ops Q S D fuel (listed.setIfInBounds i true) (a.put oi.dst v) w→wpAnyL P md ops Q S D (fuel+1) listed a w:=by
 intro fuel
 induction fuel with
 | zero =>
  intro listed a w _ hr hy hS H
  refine ⟨fun h=>(by rw [h] at hr;cases hr),fun j hj=>?_⟩
  by_cases hji:j=i
  ·subst hji;exact hy.wpOp hi trivial ⟨hS,H⟩
  ·have:=ready_mono hj hji
   rw [H.1] at this
   cases this
 | succ fuel ih =>
  intro listed a w hfree hr hy hS H
  refine ⟨fun h=>(by rw [h] at hr;cases hr),fun j hj=>?_⟩
  by_cases hji:j=i
  ·subst hji;exact hy.wpOp hi trivial ⟨hS,H⟩
  ·have h1:=H.2 j (ready_mono hj hji)
   obtain ⟨hjun,oj,hoj,hall⟩:=mem_ready.1 hj
   have hnot:∀ e∈oj.after,Region.binds md e=true→e.on≠i:=fun e he hb heq=>by
    have h1:=hall e he hb
    have h0:=(mem_ready.1 hr).1
    rw [heq] at h1
    rcases Nat.lt_or_ge i listed.size with h' | h'
    ·simp [h'] at h0 h1;rw [h0] at h1;cases h1
    ·simp [Array.getElem?_eq_none h'] at h1
   have h2:=wpOp_putIf hoj (hfree j oj hoj hji hjun hnot) (fun cs b=>hsel i oi cs b hi) (fun cs b=>hsel j oj cs b hoj) hQ hy h1
   have hfree':∀ k ok,ops[k]?=some ok→k≠i→(listed.setIfInBounds j true).getD k true=false →
     (∀ e∈ok.after,Region.binds md e=true→e.on≠i)→oi.apart ops ok=true:=fun k ok hk hki hun hno=>by
    refine hfree k ok hk hki ?_ hno
    by_cases hjk:j=k
    ·subst hjk;exact hjun
    ·rw [getD_set_ne true hjk] at hun;exact hun
   refine wpOp_mono (fun a' w' h3=>⟨fun hn=>h3.2.1 (noneOf_mk fun k hk=>?_),ih (listed.setIfInBounds j true) a' w' hfree' (ready_mono hr (Ne.symm hji)) h3.1 (fun hn=>h3.2.1 (by rw [Array.setIfInBounds_comm _ _ (Ne.symm hji)];exact hn)) ?_⟩) h2
   ·rw [Array.setIfInBounds_comm _ _ hji]
    exact h3.2.2
   ·have hik:i≠k:=by rintro rfl;exact hiD hk
    rw [Array.setIfInBounds_comm _ _ (Ne.symm hji),getD_set_ne true hik]
    exact noneOf_spec hn k hk
/-- Number i first: it looks at no memory. -/
theorem wpAnyL_take0 (i:Nat) {oi:Oper} {v:Value} {fuel:Nat} {listed:Array Bool} {a:Act} {w:World} (hi:ops[i]?=some oi)
  (hs:Region.noSelect ops=true) (hf:Region.free md ops listed i=true) (hr:(Region.ready md ops listed).contains i=true) (hiD:D.contains i=false)
  (hQ:∀ c a w,Q (.panic c) (a.put oi.dst v) w→Q (.panic c) a w) (hS:noneOf D (listed.setIfInBounds i true)=true→S w) (hw:Region.wanted oi (yielded ops a.tmps)=true) (hy:∀ w,(execOp a.eval oi).run P w=.ok (.value v) w)
  (h:wpAnyL P md ops Q S D fuel (listed.setIfInBounds i true) (a.put oi.dst v) w):wpAnyL P md ops Q S D (fuel+1) listed a w :=
 wpAnyL_first0 hi (Region.noSelect_spec hs) hQ (fun hm=>by rw [List.contains_iff_mem.2 hm] at hiD;cases hiD) fuel listed a w (Region.free_spec hi hf) (by simpa using hr) (.inl ⟨hw,fun w _=>hy w⟩) hS h
/-- The only one that may come up. -/
theorem wpAnyL_step (i:Nat) {o:Oper} {fuel:Nat} {listed:Array Bool} {a:Act} {w:World} (hr:Region.ready md ops listed=[i]) (ho:ops[i]?=some o)
  (h:∀ K':Act→World→Prop,Shut (∀ a w,(noneOf D (listed.setIfInBounds i true)=true→S w)→wpAnyL P md ops Q S D fuel (listed.setIfInBounds i true) a w→K' a w)→if Region.wanted o (yielded ops a.tmps)=true then Oper.wp P o a w K' Q else K' (a.put o.dst undef) w) :
  wpAnyL P md ops Q S D (fuel+1) listed a w :=
 ⟨(fun h0=>by rw [hr] at h0;cases h0),fun j hj=>by
  rw [hr] at hj
  obtain rfl:=List.mem_singleton.1 hj
  exact wpOp_step ho (fun K' hK=>h K' (fun a w hS hW=>hK a w ⟨hS,hW⟩))⟩
theorem wpAnyL_done {listed:Array Bool} {a:Act} {w:World} (hr:Region.ready md ops listed=[]) (h:Q .normal a w):∀ fuel,wpAnyL P md ops Q S D fuel listed a w
 | 0=>⟨hr,h⟩
 | _+1=>⟨fun _=>h,by rw [hr];simp⟩
theorem wp_region_L_calm (S:World→Prop) (D:List Nat) {id:Nat} {a:Act} {w:World} (hm:P.follows .mixedOrders=true) (hS:S w.drew)
  (h:S w.drew→wpAnyL P .any ops (NoPanic Q) S D ops.size (Array.replicate ops.size false) a w.drew):(Code.region id ops true).wp P Q a w :=
 wp_region_noPanic (wp_region_any hm (wpAny_of_L _ _ _ _ (h hS)))
end
end Go.Proofs.YtogijkhenihaaaaGreatDoor
set_option linter.unusedVariables false
set_option linter.unusedSimpArgs false
namespace Go.Proofs.YtogijkhenihaaaaGreatDoor
open Go.RowKit Go.BigFrame
namespace Lst
section
variable {P : Program} {ops : Array Oper} {Q : Exit → Act → World → Prop} {md : Region.Mode} {S : World → Prop}
theorem firstZ {z i:Nat} {oi:Oper} {v:Value} (hi:ops[i]?=some oi) (hsel:∀ (j:Nat) (o:Oper) cs b,ops[j]?=some o→o.op≠.select cs b)
  (hQ:∀ c a w,Q (.panic c) (a.put oi.dst v) w→Q (.panic c) a w) (hL:lastB md ops z=true) (hiz:i<z) :
  ∀ (fuel:Nat) (listed:Array Bool) (a:Act) (w:World),
   Shut md ops listed→noneOf [z] listed=true →
   (∀ j oj,ops[j]?=some oj→j≠i→listed.getD j true=false→(∀ e∈oj.after,Region.binds md e=true→e.on≠i)→oi.apart ops oj=true) →
   i∈Region.ready md ops listed→YieldsIf P ops S oi v a→S w →
   wpAnyL P md ops Q S [z] fuel (listed.setIfInBounds i true) (a.put oi.dst v) w→wpAnyL P md ops Q S [z] (fuel+1) listed a w:=by
 intro fuel
 induction fuel with
 | zero =>
  intro listed a w hs hD _ hr hy hS H
  refine ⟨fun h=>(by rw [h] at hr;cases hr),fun j hj=>?_⟩
  by_cases hji:j=i
  ·subst hji;exact hy.wpOp hi hS ⟨fun _=>hS,H⟩
  ·have:=ready_mono hj hji
   rw [H.1] at this
   cases this
 | succ fuel ih =>
  intro listed a w hs hD hfree hr hy hS H
  refine ⟨fun h=>(by rw [h] at hr;cases hr),fun j hj=>?_⟩
  by_cases hji:j=i
  ·subst hji;exact hy.wpOp hi hS ⟨fun _=>hS,H⟩
  ·have h1:=H.2 j (ready_mono hj hji)
   obtain ⟨hjun,oj,hoj,hall⟩:=mem_ready.1 hj
   have hnot:∀ e∈oj.after,Region.binds md e=true→e.on≠i:=fun e he hb heq=>by
    have h1:=hall e he hb
    have h0:=(mem_ready.1 hr).1
    rw [heq] at h1
    rcases Nat.lt_or_ge i listed.size with h' | h'
    ·simp [h'] at h0 h1;rw [h0] at h1;cases h1
    ·simp [Array.getElem?_eq_none h'] at h1
   have h2:=wpOp_putIf hoj (hfree j oj hoj hji hjun hnot) (fun cs b=>hsel i oi cs b hi) (fun cs b=>hsel j oj cs b hoj) hQ hy h1
   have hfree':∀ k ok,ops[k]?=some ok→k≠i→(listed.setIfInBounds j true).getD k true=false →
     (∀ e∈ok.after,Region.binds md e=true→e.on≠i)→oi.apart ops ok=true:=fun k ok hk hki hun hno=>by
    refine hfree k ok hk hki ?_ hno
    by_cases hjk:j=k
    ·subst hjk;exact hjun
    ·rw [getD_set_ne true hjk] at hun;exact hun
   have hiD:i ∉ [z]:=by simp;omega
   have hjD:j ∉ [z]:=by
    intro hjz
    simp at hjz
    subst hjz
    have h1:=hs.all hL hj i hiz
    have h0:=(mem_ready.1 hr).1
    have hls:i<listed.size:=by rw [hs.1];exact (Array.getElem?_eq_some_iff.1 hi).1
    simp [hls] at h0 h1
    rw [h0] at h1
    cases h1
   have hD':=noneOf_set hD hjD
   refine wpOp_mono (fun a' w' h3=>⟨fun _=>h3.2.1 (noneOf_set (noneOf_set hD hiD) hjD),ih (listed.setIfInBounds j true) a' w' (hs.next hj) hD' hfree' (ready_mono hr (Ne.symm hji)) h3.1 (h3.2.1 (noneOf_set (noneOf_set hD hiD) hjD)) ?_⟩) h2
   rw [Array.setIfInBounds_comm _ _ hji]
   exact h3.2.2
def shutB (md:Region.Mode) (ops:Array Oper) (listed:Array Bool):Bool:=decide (listed.size=ops.size)&&(List.range ops.size).all fun j=>!listed.getD j false||match ops[j]? with
 | none=>true
 | some o=>o.after.all fun e=>!Region.binds md e||listed.getD e.on false
theorem shut_of {listed:Array Bool} (h:shutB md ops listed=true):Shut md ops listed:=by
 simp only [shutB,Bool.and_eq_true,decide_eq_true_eq] at h
 refine ⟨h.1,fun j o ho hj e he hb=>?_⟩
 have h1:=List.all_eq_true.1 h.2 j (List.mem_range.2 (Array.getElem?_eq_some_iff.1 ho).1)
 rw [ho,hj] at h1
 simp only [Bool.not_true,Bool.false_or] at h1
 rw [Array.all_eq_true_iff_forall_mem] at h1
 have h2:=h1 e he
 rw [hb] at h2
 simpa using h2
theorem takeZ (z i:Nat) {oi:Oper} {v:Value} {fuel:Nat} {listed:Array Bool} {a:Act} {w:World} (hi:ops[i]?=some oi)
  (hs:Region.noSelect ops=true) (hf:Region.free md ops listed i=true) (hr:(Region.ready md ops listed).contains i=true) (hL:lastB md ops z=true) (hz:(decide (i<z)&&noneOf [z] listed)=true) (hsh:shutB md ops listed=true)
  (hQ:∀ c a w,Q (.panic c) (a.put oi.dst v) w→Q (.panic c) a w) (hS:S w) (hw:Region.wanted oi (yielded ops a.tmps)=true) (hy:∀ w,S w→(execOp a.eval oi).run P w=.ok (.value v) w)
  (h:wpAnyL P md ops Q S [z] fuel (listed.setIfInBounds i true) (a.put oi.dst v) w):wpAnyL P md ops Q S [z] (fuel+1) listed a w:=by
 simp only [Bool.and_eq_true,decide_eq_true_eq] at hz
 exact firstZ hi (Region.noSelect_spec hs) hQ hL hz.1 fuel listed a w (shut_of hsh) hz.2 (Region.free_spec hi hf) (by simpa using hr) (.inl ⟨hw,hy⟩) hS h
/-- Two may come up. -/
theorem two (i j:Nat) {oi oj:Oper} {D:List Nat} {fuel:Nat} {listed:Array Bool} {a:Act} {w:World} (hr:Region.ready md ops listed=[i,j]) (hoi:ops[i]?=some oi) (hoj:ops[j]?=some oj)
  (h1:∀ K':Act→World→Prop,Go.Shut (∀ a w,(noneOf D (listed.setIfInBounds i true)=true→S w)→wpAnyL P md ops Q S D fuel (listed.setIfInBounds i true) a w→K' a w)→if Region.wanted oi (yielded ops a.tmps)=true then Oper.wp P oi a w K' Q else K' (a.put oi.dst undef) w)
  (h2:∀ K':Act→World→Prop,Go.Shut (∀ a w,(noneOf D (listed.setIfInBounds j true)=true→S w)→wpAnyL P md ops Q S D fuel (listed.setIfInBounds j true) a w→K' a w)→if Region.wanted oj (yielded ops a.tmps)=true then Oper.wp P oj a w K' Q else K' (a.put oj.dst undef) w) :
  wpAnyL P md ops Q S D (fuel+1) listed a w :=
 ⟨(fun h0=>by rw [hr] at h0;cases h0),fun k hk=>by
  rw [hr] at hk
  rcases List.mem_cons.1 hk with rfl | hk
  ·exact wpOp_step hoi (fun K' hK=>h1 K' (fun a w hS hW=>hK a w ⟨hS,hW⟩))
  ·obtain rfl:=List.mem_singleton.1 hk
   exact wpOp_step hoj (fun K' hK=>h2 K' (fun a w hS hW=>hK a w ⟨hS,hW⟩))⟩
end
end Lst
end Go.Proofs.YtogijkhenihaaaaGreatDoor
