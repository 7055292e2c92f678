/- value's cursor: next, bare, one. No condition but the ones the theorems state. -/
import Derived.Test.YtjfdohhdkdjifaaGreatDoorPE17
set_option linter.unusedVariables false
set_option linter.unusedSimpArgs false
namespace Go.Proofs.YtjfdohhdkdjifaaGreatDoor
open Go.RowKit Go.BigFrame
namespace Vl
def zeroN:Node:=⟨0,0,⟨#[]⟩,0⟩
def Node.val (n:Node):Value:=.agg #[.int .u8 n.kind,.int .i64 n.int,.string n.text,.int .i64 n.kids]
def nxt (r:List Node) (k:Nat):Option Node:=match r with
 | []=>none
 | n::_=>if n.kind=k then some n else none
def nxtTo (r:List Node) (k a:Nat):Nat:=if (nxt r k).isSome=true then a+1 else a
def Cur (w:World) (b:Nat) (vs:Value) (a:Nat) (f:Value):Prop:=Bk w b 106 #[vs,.int .i64 a,f]
def bare (n:Node) (number text kids:Bool):Bool:=(number||n.int==0)&&(text||n.text.toList.isEmpty)&&(kids||n.kids==0)
end Vl
set_option maxRecDepth 100000 in
set_option maxHeartbeats 8000000 in
theorem vone_any (b:Bool) (w:World):Calls Tryz.prog 113 #[.bool b] w fun e w'=>e=.returned (.int .i64 (if b=true then 1 else 0))∧w'=w:=by
 cases b
 ·go_enter Tryz.func113,Tryz.ntmps113
  go_wp2_with fail
  go_ret
  exact ⟨rfl,rfl⟩
 ·go_enter Tryz.func113,Tryz.ntmps113
  go_wp2_with fail
  go_ret
  exact ⟨rfl,rfl⟩
set_option maxRecDepth 100000 in
set_option maxHeartbeats 8000000 in
theorem vbare_any (n:Vl.Node) (b1 b2 b3:Bool) (w:World):Calls Tryz.prog 114 #[n.val,.bool b1,.bool b2,.bool b3] w fun e w'=>e=.returned (.bool (Vl.bare n b1 b2 b3))∧Below w.heap.size w w':=by
 obtain ⟨R,HR⟩:∃ R,Hid (Vl.bare n b1 b2 b3=R):=⟨_,Lib.hid rfl⟩
 rw [HR.out]
 obtain ⟨n0,n1,n2,n3⟩:=n
 unfold Vl.Node.val
 unfold Vl.bare at HR
 simp only at HR ⊢
 cases h1:(n1==0) <;> cases h2:n2.toList.isEmpty <;> cases h3:(n3==0) <;> cases b1 <;> cases b2 <;> cases b3 <;>
 (rw [h1,h2,h3] at HR
  simp only [Bool.or_true,Bool.or_false,Bool.and_true,Bool.and_false] at HR
  go_enter Tryz.func114,Tryz.ntmps114
  go_wp2_with fail
  go_ret
  refine ⟨by rw [←HR.out];rfl,?_⟩
  exact (Below.refl _ _).alloc (Nat.le_refl _) _)
set_option maxRecDepth 100000 in
set_option maxHeartbeats 8000000 in
theorem vnext_any (b a:Nat) (vs f:Value) (v:List Vl.Node) (k:Nat) (w0 w:World) (hv:Vl.ValR w0 none vs v) (hbel:Below w0.heap.size w0 w) (hb0:w0.heap.size≤b) (hc:Vl.Cur w b vs a f) (ha:a≤v.length) (hl:v.length≤100000) :
  Calls Tryz.prog 112 #[.pointer (some ⟨b,0,none⟩),.int .u8 k] w fun e w'=>e=.returned (.tuple #[((Vl.nxt (v.drop a) k).getD Vl.zeroN).val,.bool (Vl.nxt (v.drop a) k).isSome])∧w.grownBy w' (some b)∧Vl.Cur w' b vs (Vl.nxtTo (v.drop a) k a) f:=by
 obtain ⟨R,HR⟩:∃ R,Hid (Vl.nxt (v.drop a) k=R):=⟨_,Lib.hid rfl⟩
 unfold Vl.nxtTo
 rw [HR.out]
 obtain ⟨A,n,c,rfl⟩:=ERow.is hv
 have HN:Hid (n=v.length):=Lib.hid (by obtain ⟨_,_,e,_⟩:=ERow.slice hv;injection e)
 have hn:n≤100000:=by rw [HN.out];exact hl
 have han:a≤n:=by rw [HN.out];exact ha
 have HV:=Lib.hid hv
 have HB:=Lib.hid hbel
 have HC:=Lib.hid hc
 obtain ⟨⟨c0,c1,c2⟩,f0,f1,f2⟩:=(show Bk w b 106 #[.slice A n c,.int .i64 a,f] from hc).k3
 have hblt:b<w.heap.size:=hc.lt
 have hbne:¬b=w.heap.size:=by omega
 have hbne2:¬w.heap.size=b:=by omega
 have ia0:(0:Int)≤(a:Int):=by omega
 have fin:∀ W:World,w.grownBy W (some b)→Bk W w.heap.size 71 #[.int .u8 0,.int .i64 0,.string ⟨#[]⟩,.int .i64 0]→True:=fun _ _ _=>trivial
 clear hv hbel hc hl ha fin
 by_cases hlt:a<n
 case neg =>
  have h1:(n:Int)≤(a:Int):=by omega
  have h2:n≤a:=by omega
  have HE:Hid (R=none):=Lib.hid (by rw [←HR.out,List.drop_of_length_le (by rw [←HN.out];omega)];rfl)
  obtain rfl:=HE.out
  simp only [Option.getD_none,Option.isSome_none,Bool.false_eq_true,if_false,Vl.zeroN,Vl.Node.val]
  go_enter Tryz.func112,Tryz.ntmps112
  go_wp2_with fail
  go_quiet (fail)
  go_wp2_with fail
  have hq:=((((Bk.new w 71 #[.int .u8 0,.int .i64 0,.string ⟨#[]⟩,.int .i64 0]).drewN nq).set_ 0 (.int .u8 0)).set_ 1 (.int .i64 0)).set_ 2 (.string ⟨#[]⟩) |>.set_ 3 (.int .i64 0)
  have hb:=(((((below_drewN ((Below.refl w.heap.size w).alloc (Nat.le_refl _) (.cells #[.int .u8 0,.int .i64 0,.string ⟨#[]⟩,.int .i64 0] 71)) nq).setCell (p:=⟨w.heap.size,0,none⟩) (by simp) (.int .u8 0)).setCell (p:=⟨w.heap.size,1,none⟩) (by simp) (.int .i64 0)).setCell (p:=⟨w.heap.size,2,none⟩) (by simp) (.string ⟨#[]⟩)).setCell (p:=⟨w.heap.size,3,none⟩) (by simp) (.int .i64 0))
  obtain ⟨⟨y0,y1,y2,y3⟩,_⟩:=hq.k4
  refine bodyPost_ret (v:=.tuple #[.agg #[.int .u8 0,.int .i64 0,.string ⟨#[]⟩,.int .i64 0],.bool false]) ?_ rfl ⟨rfl,gb_below hb _,Bk.below HC.out hb hblt⟩
  rw [res_ct rfl]
  go_simp
  try rfl
 have hka:a<v.length:=by rw [←HN.out];exact hlt
 obtain ⟨g,off,cs,rfl,-,e1,hc⟩:=ERow.get HV.out hka (by omega)
 have hD:v.drop a=v[a]::v.drop (a+1):=List.drop_eq_getElem_cons hka
 rw [hD] at HR
 obtain ⟨⟨n0,n1,n2,n3⟩,Hx⟩:∃ y,Hid (v[a]=y):=⟨_,Lib.hid rfl⟩
 rw [Hx.out] at e1 HR
 unfold Vl.NodE Vl.Node.cells at e1
 subst e1
 have a0:=hc 0 _ rfl
 have a1:=hc 1 _ rfl
 have a2:=hc 2 _ rfl
 have a3:=hc 3 _ rfl
 simp only [Nat.add_zero] at a0
 have hgl:g<w0.heap.size:=World.block_lt_of_cell? w0 _ a0
 have a0:=(HB.out.cell hgl).trans a0
 have a1:=(HB.out.cell hgl).trans a1
 have a2:=(HB.out.cell hgl).trans a2
 have a3:=(HB.out.cell hgl).trans a3
 have hgw:g<w.heap.size:=by omega
 have hgne:¬g=w.heap.size:=by omega
 have hgb:¬g=b:=by omega
 have hbg:¬b=g:=by omega
 have ia1:(a:Int)<(n:Int):=by omega
 have ia2:¬(n:Int)≤(a:Int):=by omega
 have ia3:¬n≤a:=by omega
 clear hc hD Hx
 by_cases hk:n0=k
 case neg =>
  have HE:Hid (R=none):=Lib.hid (by rw [←HR.out];exact if_neg hk)
  have t0:((n0:Int) != (k:Int))=true:=by rw [bne_iff_ne];omega
  have t1:((n0:Int)==(k:Int))=false:=by rw [beq_eq_false_iff_ne];omega
  have t2:¬(n0:Int)=(k:Int):=by omega
  obtain rfl:=HE.out
  simp only [Option.getD_none,Option.isSome_none,Bool.false_eq_true,if_false,Vl.zeroN,Vl.Node.val]
  go_enter Tryz.func112,Tryz.ntmps112
  go_wp2_with fail
  go_quiet (fail)
  go_wp2_with fail
  have hq:=((((Bk.new w 71 #[.int .u8 0,.int .i64 0,.string ⟨#[]⟩,.int .i64 0]).drewN nq).set_ 0 (.int .u8 0)).set_ 1 (.int .i64 0)).set_ 2 (.string ⟨#[]⟩) |>.set_ 3 (.int .i64 0)
  have hb:=(((((below_drewN ((Below.refl w.heap.size w).alloc (Nat.le_refl _) (.cells #[.int .u8 0,.int .i64 0,.string ⟨#[]⟩,.int .i64 0] 71)) nq).setCell (p:=⟨w.heap.size,0,none⟩) (by simp) (.int .u8 0)).setCell (p:=⟨w.heap.size,1,none⟩) (by simp) (.int .i64 0)).setCell (p:=⟨w.heap.size,2,none⟩) (by simp) (.string ⟨#[]⟩)).setCell (p:=⟨w.heap.size,3,none⟩) (by simp) (.int .i64 0))
  obtain ⟨⟨y0,y1,y2,y3⟩,_⟩:=hq.k4
  refine bodyPost_ret (v:=.tuple #[.agg #[.int .u8 0,.int .i64 0,.string ⟨#[]⟩,.int .i64 0],.bool false]) ?_ rfl ⟨rfl,gb_below hb _,Bk.below HC.out hb hblt⟩
  rw [res_ct rfl]
  go_simp
  try rfl
 subst hk
 have HE:Hid (R=some ⟨n0,n1,n2,n3⟩):=Lib.hid (by rw [←HR.out];exact if_pos rfl)
 have t0:((n0:Int) != (n0:Int))=false:=by simp
 obtain rfl:=HE.out
 simp only [Option.getD_some,Option.isSome_some,if_true,Vl.Node.val]
 go_enter Tryz.func112,Tryz.ntmps112
 go_wp2_with fail
 go_quiet (fail)
 go_upto_region 4 with (fail)
 refine wp_named (fun V hV=>?_)
 have hq0:=((Bk.new w 71 #[.int .u8 0,.int .i64 0,.string ⟨#[]⟩,.int .i64 0]).drewN nq).far (p:=⟨b,1,none⟩) (by simp;omega) (.int .i64 ((a:Int)+1))
 have hg0:w.grownBy V (some b):=by
  rw [hV]
  exact gb_set (gb_below (below_drewN ((Below.refl w.heap.size w).alloc (Nat.le_refl _) _) nq) _) (.inl rfl) _
 have hc0:Bk V b 106 #[.slice (some ⟨g,off,none⟩) n c,.int .i64 ((a:Int)+1),f]:=by
  rw [hV]
  exact (Bk.drewN ((show Bk w b 106 #[.slice (some ⟨g,off,none⟩) n c,.int .i64 a,f] from HC.out).alloc _) nq).set_ 1 _
 rw [←hV] at hq0
 have b0:V.cell? _=_:=(World.cell?_of_block (a:=⟨g,off+a * 4,none⟩) (hg0.block g hgw (by intro e;injection e with e;exact hgb e))).trans a0
 have b1:V.cell? _=_:=(World.cell?_of_block (a:=⟨g,off+a * 4+1,none⟩) (hg0.block g hgw (by intro e;injection e with e;exact hgb e))).trans a1
 have b2:V.cell? _=_:=(World.cell?_of_block (a:=⟨g,off+a * 4+2,none⟩) (hg0.block g hgw (by intro e;injection e with e;exact hgb e))).trans a2
 have b3:V.cell? _=_:=(World.cell?_of_block (a:=⟨g,off+a * 4+3,none⟩) (hg0.block g hgw (by intro e;injection e with e;exact hgb e))).trans a3
 have HG0:=Lib.hid hg0
 have HC0:=Lib.hid hc0
 have HQ0:=Lib.hid hq0
 obtain ⟨⟨d0,d1,d2⟩,-⟩:=hc0.k3
 obtain ⟨⟨z0,z1,z2,z3⟩,z4,z5,z6,z7⟩:=hq0.k4
 clear hV hg0 hc0 hq0 a0 a1 a2 a3 c0 c1 c2 f0 f1 f2
 have j0:(a:Int)+1 - 1=(a:Int):=by omega
 go_region
 have hq1:=(((HQ0.out.set_ 0 (.int .u8 n0)).set_ 1 (.int .i64 n1)).set_ 2 (.string n2)).set_ 3 (.int .i64 n3)
 have hc1:=(((HC0.out.far (p:=⟨w.heap.size,0,none⟩) (by simp;omega) (.int .u8 n0)).far (p:=⟨w.heap.size,1,none⟩) (by simp;omega) (.int .i64 n1)).far (p:=⟨w.heap.size,2,none⟩) (by simp;omega) (.string n2)).far (p:=⟨w.heap.size,3,none⟩) (by simp;omega) (.int .i64 n3)
 have hg1:=gb_set (p:=⟨w.heap.size,3,none⟩) (gb_set (p:=⟨w.heap.size,2,none⟩) (gb_set (p:=⟨w.heap.size,1,none⟩) (gb_set (p:=⟨w.heap.size,0,none⟩) HG0.out (.inr (Nat.le_refl _)) (.int .u8 n0)) (.inr (Nat.le_refl _)) (.int .i64 n1)) (.inr (Nat.le_refl _)) (.string n2)) (.inr (Nat.le_refl _)) (.int .i64 n3)
 obtain ⟨⟨y0,y1,y2,y3⟩,_⟩:=hq1.k4
 go_wp2_with fail
 refine bodyPost_ret (v:=.tuple #[.agg #[.int .u8 n0,.int .i64 n1,.string n2,.int .i64 n3],.bool true]) ?_ rfl ⟨rfl,gb_drew hg1,hc1⟩
 rw [res_ct rfl]
 go_simp
 try rfl
end Go.Proofs.YtjfdohhdkdjifaaGreatDoor
set_option linter.unusedVariables false
set_option linter.unusedSimpArgs false
namespace Go.Proofs.YtjfdohhdkdjifaaGreatDoor
open Go.RowKit Go.BigFrame Go.Maps Go.WideMaps
/-- An element that is any value at all. -/
def heldR (v:Value):Option (DataW Value × List MemPlace):=some (.held v,[])
theorem wpList_lookup_held {P:Program} (w:World) {ops:Array Oper} {rest:List Oper} {o:Oper} {a:Act} {Q:Exit→Act→World→Prop}
  (hg:o.guard=none) (m x:Operand) (t:TypeId) (hop:o.op=Op.lookup t m x false)
  (k e:TypeId) (K:Keyed P k) (ht:P.underlying t=some (.map k e)) (z:Value) (hz:(zeroValue e).run P w=.ok z w) (b n:Nat) (D:DataW Value)
  (hm:a.eval m=.map (some b)) (hown:w.ownsMap P k heldR b n D) (key:Value) (kl:Lit) (hx:a.eval x=key) (hkey:keyOf P k key=some kl) (u:Value) (hat:D.atKey kl (.held z)=.held u)
  (hK:wpList P ops Q rest (a.put o.dst u) w) :
  wpList P ops Q (o::rest) a w:=by
 refine wpList_plain hg fun K' hK'=>?_
 obtain ⟨v,ps,hrun,hv⟩:=hown.lookup K ht hz rfl hkey
 have e2:v=u:=by
  rw [hat] at hv
  unfold heldR at hv
  injection hv with hv
  injection hv with hv
  injection hv
 subst e2
 unfold Oper.wp
 simp [execOp,hop,hm,hx,hrun,Result.andThen]
 exact hK' _ _ hK
theorem ownsMap_isMapV {w:World} {R:Value→Option (DataW Value × List MemPlace)} {b n:Nat} {D:DataW Value} (h:w.ownsMap Tryz.prog 9 R b n D):IsMap D:=by
 obtain ⟨es,clock,_,_,_,rfl⟩:=h
 exact ⟨_,rfl⟩
namespace Vl
open Go.Proofs.YtjfdohhdkdjifaaGreatDoor.Id Go.Proofs.YtjfdohhdkdjifaaGreatDoor.Chk
def recZV:Value:=.agg #[.string ⟨#[]⟩,.bool false,.slice none 0 0]
theorem zeroRec (w:World):(zeroValue 42).run Tryz.prog w=.ok recZV w:=by kernel_rfl
def FM (w0 w:World) (b:Nat) (rs:List Rec):Prop :=
 ∃ (D:DataW Value) (vl:ByteArray→Value),w.ownsMap Tryz.prog 9 heldR b rs.length D∧∀ s:ByteArray,D.atKey (.string s.data.toList) (.held recZV)=.held (vl s)∧RecV w0 none (vl s) (lastR rs s)
theorem recZ_ok (w0:World):RecV w0 none recZV recZ:=⟨_,rfl,ERow.nil_none _ _ _ _⟩
theorem FM.made (w0 w:World):FM w0 (w.alloc (.map #[] 0)) w.heap.size []:=⟨_,fun _=>recZV,World.ownsMap_made _ _ _ _,fun s=>⟨rfl,recZ_ok w0⟩⟩
theorem FM.kept {w0 w w':World} {row:Option Nat} {b:Nat} {rs:List Rec} (h:FM w0 w b rs) (hg:w.grownBy w' row) (hne:some b≠row):FM w0 w' b rs:=let ⟨D,vl,h1,h2⟩:=h;⟨D,vl,h1.kept hg hne,h2⟩
theorem FM.below {w0 w w':World} {b:Nat} {rs:List Rec} (h:FM w0 w b rs) (hg:Below w.heap.size w w'):FM w0 w' b rs:=h.kept (gb_below hg none) (by simp)
theorem FM.lt {w0 w:World} {b:Nat} {rs:List Rec} (h:FM w0 w b rs):b<w.heap.size:=let ⟨_,_,h1,_⟩:=h;h1.lt
/-- The map, and the box that the finder has of it. -/
structure Fnd (w0 w:World) (g m:Nat) (rs:List Rec):Prop where
 bx:Bk w g 175 #[.map (some m)]
 lo:w0.heap.size≤g
 lom:w0.heap.size≤m
 fm:FM w0 w m rs
theorem Fnd.kept {w0 w w':World} {b g m:Nat} {rs:List Rec} (h:Fnd w0 w g m rs) (hg:w.grownBy w' (some b)) (hb:b≠g) (hm:b≠m):Fnd w0 w' g m rs :=
 ⟨h.bx.grown hg (by intro e;injection e with e;exact hb e.symm),h.lo,h.lom,h.fm.kept hg (by intro e;injection e with e;exact hm e.symm)⟩
theorem Fnd.below {w0 w w':World} {g m:Nat} {rs:List Rec} (h:Fnd w0 w g m rs) (hb:Below w.heap.size w w'):Fnd w0 w' g m rs :=
 ⟨h.bx.below hb h.bx.lt,h.lo,h.lom,h.fm.below hb⟩
/-- While the map is filled. -/
structure FinW (w wr:World) (z:Value) (S:Array Value) (rs:List Rec):Prop where
 bel:Below w.heap.size w wr
 sch:Bk wr w.heap.size 28 S
 bx:Bk wr (w.heap.size+1+1) 175 #[.map (some (w.heap.size+1))]
 fm:FM w wr (w.heap.size+1) rs
theorem FinW.below {w wr w':World} {z:Value} {S:Array Value} {rs:List Rec} (h:FinW w wr z S rs) (hb:Below wr.heap.size wr w'):FinW w w' z S rs :=
 ⟨h.bel.trans (hb.mono h.bel.size),h.sch.below hb h.sch.lt,h.bx.below hb h.bx.lt,h.fm.below hb⟩
end Vl
set_option maxRecDepth 100000 in
set_option maxHeartbeats 8000000 in
theorem vfound_any (g m:Nat) (rs:List Id.Rec) (s:ByteArray) (hs:s.size≤1000) (w0 w:World) (hf:Vl.Fnd w0 w g m rs) :
  Calls Tryz.prog 111 #[.string s,.pointer (some ⟨g,0,none⟩)] w fun e w'=>∃ A n c,e=.returned (.agg #[.string (Vl.lastR rs s).name,.bool (Vl.lastR rs s).choice,.slice A n c])∧Id.FldsR w0 none (.slice A n c) (Vl.lastR rs s).fields∧Below w.heap.size w w':=by
 obtain ⟨D,vl,hown,hat⟩:=hf.fm
 have hbox:=hf.bx
 obtain ⟨p0,_⟩:=hbox.k1
 have hgl:=hbox.lt
 have hgne:¬g=w.heap.size:=by omega
 obtain ⟨hat1,u,hu,hfl⟩:=hat s
 obtain ⟨A,n,c,rfl⟩:=ERow.is hfl
 have HF:=Lib.hid hfl
 have hkey:keyOf Tryz.prog 9 (.string s)=some (.string s.data.toList):=key_of (by unfold maxLen;omega)
 have HO:=Lib.hid (hown.alloc (.cells #[.string ⟨#[]⟩,.bool false,.slice none 0 0] 42))
 have HA:=Lib.hid hat1
 have HU:=Lib.hid hu
 clear hf hat hown hat1 hfl hu hbox
 go_enter Tryz.func111,Tryz.ntmps111
 go_wp2_with (first
  | (at_lookup;refine wpList_lookup_held _ rfl _ _ 175 rfl 9 42 strKey Tryz.underlying175 Vl.recZV (Vl.zeroRec _) m rs.length D rfl HO.out _ _ rfl hkey _ (HA.out.trans (by rw [HU.out])) ?_)
  | go_in)
 have hq:=Bk.new w 42 #[.string (Vl.lastR rs s).name,.bool (Vl.lastR rs s).choice,.slice A n c]
 have hb:=(Below.refl w.heap.size w).alloc (Nat.le_refl _) (.cells #[.string (Vl.lastR rs s).name,.bool (Vl.lastR rs s).choice,.slice A n c] 42)
 obtain ⟨⟨y0,y1,y2⟩,_⟩:=hq.k3
 refine bodyPost_ret (v:=.agg #[.string (Vl.lastR rs s).name,.bool (Vl.lastR rs s).choice,.slice A n c]) ?_ rfl ⟨A,n,c,rfl,HF.out,hb⟩
 rw [res_c rfl]
 go_simp
 try rfl
set_option maxRecDepth 100000 in
set_option maxHeartbeats 8000000 in
theorem vfinder_any (v:Value) (x:Id.Sch) (hz:∀ r∈x.records,r.name.size≤1000) (hl:x.records.length≤1000) (w:World) (hv:Id.SchV w none v x) :
  Calls Tryz.prog 54 #[v] w fun e w'=>∃ g m,e=.returned (.func (.func 111) #[] #[.pointer (some ⟨g,0,none⟩)])∧Below w.heap.size w w'∧Vl.Fnd w w' g m x.records:=by
 obtain ⟨A1,n1,c1,A2,n2,c2,A3,n3,c3,rfl,r1,r2,r3⟩:=hv
 generalize x.records=rs at *
 generalize x.name=xn at *
 have HN:Hid (n1=rs.length):=Lib.hid (by obtain ⟨_,_,e,_⟩:=ERow.slice r1;injection e)
 have hn:n1≤1000:=by rw [HN.out];exact hl
 have H1:=Lib.hid r1
 have HZ:=Lib.hid hz
 clear r1 r2 r3 hz hl
 have hmm:=@run_makeMap Tryz.prog
 go_enter Tryz.func54,Tryz.ntmps54
 go_upto_region 2 with (fail)
 clear hmm
 refine wp_named (fun V hV=>?_)
 have HW:Hid (Vl.FinW w V (.agg #[.string xn,.slice A1 n1 c1,.slice A2 n2 c2,.slice A3 n3 c3]) #[.string xn,.slice A1 n1 c1,.slice A2 n2 c2,.slice A3 n3 c3] []):=Lib.hid (by
  subst hV
  have hb:=((((Below.refl w.heap.size w).alloc (Nat.le_refl _) (.cells #[.string xn,.slice A1 n1 c1,.slice A2 n2 c2,.slice A3 n3 c3] 28)).alloc (by simp) (.map #[] 0)).alloc (by simp;omega) (.cells #[.map (some (w.heap.size+1))] 175))
  have q2:=Bk.new ((w.alloc (.cells #[.string xn,.slice A1 n1 c1,.slice A2 n2 c2,.slice A3 n3 c3] 28)).alloc (.map #[] 0)) 175 #[.map (some (w.heap.size+1))]
  have q1:=Vl.FM.made w (w.alloc (.cells #[.string xn,.slice A1 n1 c1,.slice A2 n2 c2,.slice A3 n3 c3] 28))
  simp only [World.size_alloc] at q1 q2
  exact ⟨hb,((Bk.new w _ _).alloc _).alloc _,q2,q1.below ((Below.refl _ _).alloc (Nat.le_refl _) _)⟩)
 clear hV
 obtain ⟨⟨q0,q1,q2,q3⟩,-⟩:=HW.out.sch.k4
 go_wp2_with fail
 clear q0 q1 q2 q3
 go_loopw [10] (fun i wr=>∃ (k:Nat),k≤n1∧i=.int .i64 k∧Hid (Vl.FinW w wr (.agg #[.string xn,.slice A1 n1 c1,.slice A2 n2 c2,.slice A3 n3 c3]) #[.string xn,.slice A1 n1 c1,.slice A2 n2 c2,.slice A3 n3 c3] (rs.take k))) (fun i _=>n1 - (intOf i).toNat)
 case atStart=>exact ⟨0,by omega,rfl,HW⟩
 case round =>
  obtain ⟨k,hk,rfl,HK⟩:=hrel
  obtain ⟨U,rfl⟩:∃ w',w'=wr:=⟨_,rfl⟩
  have ik0:(0:Int)≤(k:Int):=by omega
  by_cases hlt:k<n1
  case neg =>
   have HE:Hid (rs.take k=rs):=Lib.hid (List.take_of_length_le (by rw [←HN.out];omega))
   go_wp2_with fail
   go_ret
   refine ⟨w.heap.size+1+1,w.heap.size+1,rfl,HK.out.bel,HK.out.bx,by omega,by omega,?_⟩
   have h:=HK.out.fm
   rw [HE.out] at h
   exact h
  have hka:k<rs.length:=by rw [←HN.out];exact hlt
  obtain ⟨g,off,cs,rfl,-,⟨u,he,HU⟩,hc⟩:=ERow.get H1.out hka (by omega)
  have hz:=HZ.out rs[k] (List.getElem_mem hka)
  have HT:Hid (rs.take (k+1)=rs.take k++[rs[k]]):=Lib.hid (List.take_succ_eq_append_getElem hka)
  have hlen:(rs.take k).length=k:=by rw [List.length_take];omega
  generalize rs[k]=r at *
  obtain ⟨rn,rc,rf⟩:=r
  simp only at he HU hz
  subst he
  obtain ⟨A5,n5,c5,rfl⟩:=ERow.is HU
  have HU2:=Lib.hid HU
  have a0:=hc 0 _ rfl
  have a1:=hc 1 _ rfl
  have a2:=hc 2 _ rfl
  simp only [Nat.add_zero] at a0
  have hgl:g<w.heap.size:=World.block_lt_of_cell? w _ a0
  have a0:=(HK.out.bel.cell hgl).trans a0
  have a1:=(HK.out.bel.cell hgl).trans a1
  have a2:=(HK.out.bel.cell hgl).trans a2
  have ik1:(k:Int)<(n1:Int):=by omega
  clear hc HU
  go_upto_region 5 with (fail)
  refine wp_named (fun V1 hV=>?_)
  obtain ⟨hb1,hq1,-⟩:=fresh_box hV
  clear hV
  have hUs:=HK.out.bx.lt
  have HK1:=Lib.hid (HK.out.below hb1)
  have HQ1:=Lib.hid hq1
  obtain ⟨⟨b0,b1,b2⟩,-⟩:=hq1.k3
  clear hb1 hq1 a0 a1 a2 HK
  obtain ⟨p0,-⟩:=HK1.out.bx.k1
  obtain ⟨D,vl,hown,hat⟩:=HK1.out.fm
  have hkey:keyOf Tryz.prog 9 (.string rn)=some (.string rn.data.toList):=key_of (by unfold maxLen;omega)
  have HAT:=Lib.hid hat
  have HIM:=Lib.hid (ownsMap_isMapV hown)
  clear hat
  go_upto_region 6 with (first
   | (at_mapUpdate;refine wpList_mapUpdate_own _ rfl _ _ _ 175 rfl 9 42 strKey Tryz.underlying175 _ (w.heap.size+1) (rs.take k).length _ rfl hown (by unfold maxLen;omega) _ _ _ rfl rfl hkey _ [] rfl ?_;intro V2 hown1 hgrow1)
   | go_in)
  have HK2:Hid (Vl.FinW w V2 (.agg #[.string xn,.slice (some ⟨g,off,none⟩) n1 c1,.slice A2 n2 c2,.slice A3 n3 c3]) #[.string xn,.slice (some ⟨g,off,none⟩) n1 c1,.slice A2 n2 c2,.slice A3 n3 c3] (rs.take (k+1))):=Lib.hid (by
   rw [HT.out]
   have hx:∀ R,Vl.FM w V2 (w.heap.size+1) R→Vl.FinW w V2 (.agg #[.string xn,.slice (some ⟨g,off,none⟩) n1 c1,.slice A2 n2 c2,.slice A3 n3 c3]) #[.string xn,.slice (some ⟨g,off,none⟩) n1 c1,.slice A2 n2 c2,.slice A3 n3 c3] R:=fun R hR=>⟨below_gb HK1.out.bel hgrow1 (by omega) HK1.out.bel.size,HK1.out.sch.grown hgrow1 (by simp),HK1.out.bx.grown hgrow1 (by simp),hR⟩
   refine hx _ ?_
   refine ⟨_,fun s=>if (rn.toList==s.toList)=true then .agg #[.string rn,.bool rc,.slice A5 n5 c5] else vl s,by rw [List.length_append];exact hown1,fun s=>?_⟩
   rw [Vl.lastR_snoc]
   simp only
   cases hs:(rn.toList==s.toList)
   ·rw [atKey_put_other (Chk.data_ne hs)]
    exact HAT.out s
   ·obtain rfl:=Chk.data_eq hs
    rw [atKey_put_same HIM.out (by unfold WideAt.IsKeyLit;trivial)]
    exact ⟨rfl,_,rfl,HU2.out⟩)
  clear hown hown1 hgrow1
  go_wp2_with fail
  go_roundw
  case rel=>exact ⟨k+1,by omega,by go_num,HK2⟩
  case measure=>simp [intOf];omega
end Go.Proofs.YtjfdohhdkdjifaaGreatDoor
set_option linter.unusedVariables false
set_option linter.unusedSimpArgs false
namespace Go.Proofs.YtjfdohhdkdjifaaGreatDoor
open Go.RowKit Go.BigFrame
namespace Vl
open Go.Proofs.YtjfdohhdkdjifaaGreatDoor.Id Go.Proofs.YtjfdohhdkdjifaaGreatDoor.Chk
theorem many_deep {f:List Srt→List Node→Option (Nat × List Node)} (hf:∀ t r d r',f t r=some (d,r')→d+r'.length≤r.length) :
  ∀ (ts:List (List Srt)) (d:Nat) (r:List Node) (e:Nat) (r':List Node),manyF f ts d r=some (e,r')→e≤max d (r.length - r'.length)∧r'.length≤r.length
 | [],d,r,e,r',h=>by
  injection h with h
  injection h with h1 h2
  subst h1 h2
  exact ⟨by omega,Nat.le_refl _⟩
 | t::ts,d,r,e,r',h=>by
  unfold manyF at h
  split at h
  ·cases h
  ·rename_i p hp
   obtain ⟨a,q⟩:=p
   have h1:=hf t r a q hp
   obtain ⟨h4,h5⟩:=many_deep hf ts (max d a) q e r' h
   exact ⟨by omega,by omega⟩
theorem of_deep {s:Sch} {lim:Option Nat}:∀ (k:Nat) (t:List Srt) (r:List Node) (d:Nat) (r':List Node),ofF s lim k t r=some (d,r')→d+r'.length≤r.length
 | 0,t,r,d,r',h=>by unfold ofF at h;cases h
 | k+1,[],r,d,r',h=>by unfold ofF at h;cases h
 | k+1,x::t,[],d,r',h=>by unfold ofF at h;cases h
 | k+1,x::t,n::r,d,r',h=>by
  simp only [List.length_cons]
  unfold ofF at h
  split at h
  ·split at h
   ·injection h with h
    injection h with h1 h2
    subst h1 h2
    omega
   ·cases h
  ·obtain ⟨ks,e,-,rfl,h2⟩:=stepK_some h
   obtain ⟨h3,h4⟩:=many_deep (of_deep k) ks 0 r e r' h2
   omega
/-- A part without others, as the program tests it. -/
def leafT (k:Nat) (n:Node):Bool :=
 if k=1 then bare n false false false else if k=2 then bare n true false false&&decide (0≤n.int)&&decide (n.int≤1) else if k=3 then bare n true false false else bare n false true false
theorem leaf_eq {k:Nat} (hk:k=1∨k=2∨k=3∨k=4) {n:Node} (hn:n.kind=k):leaf k n=leafT k n:=by
 unfold leaf leafT bare
 rw [hn]
 rcases hk with rfl | rfl | rfl | rfl
 ·cases h1:(n.kids==0) <;> cases h2:(n.int==0) <;> cases h3:n.text.toList.isEmpty <;> rfl
 ·have e:(decide (0≤n.int)&&decide (n.int≤1))=(n.int==0||n.int==1):=by
   rw [Bool.eq_iff_iff]
   simp only [Bool.and_eq_true,decide_eq_true_eq,Bool.or_eq_true,beq_iff_eq]
   omega
  rw [if_neg (by decide),if_pos rfl,Bool.and_assoc (_&&_&&_),e]
  cases h1:(n.kids==0) <;> cases h2:(n.int==0) <;> cases h3:n.text.toList.isEmpty <;> cases h4:(n.int==1) <;> rfl
 ·cases h1:(n.kids==0) <;> cases h2:(n.int==0) <;> cases h3:n.text.toList.isEmpty <;> rfl
 ·cases h1:(n.kids==0) <;> cases h2:(n.int==0) <;> cases h3:n.text.toList.isEmpty <;> rfl
def okLeaf (r:List Node) (k:Nat):Bool:=match nxt r k with
 | none=>false
 | some n=>leafT k n
theorem of_leafT {s:Sch} {lim:Option Nat} {k:Nat} {x:Srt} {t:List Srt} {r:List Node} (hx:x.kind=1∨x.kind=2∨x.kind=3∨x.kind=4):ofF s lim (k+1) (x::t) r=if okLeaf r x.kind=true then some (1,r.drop 1) else none:=by
 cases r with
 | nil=>rfl
 | cons n q =>
  have hok:okLeaf (n::q) x.kind=leaf x.kind n:=by
   by_cases hn:n.kind=x.kind
   ·have h1:nxt (n::q) x.kind=some n:=if_pos hn
    unfold okLeaf
    rw [h1]
    exact (leaf_eq hx hn).symm
   ·have h1:nxt (n::q) x.kind=none:=if_neg hn
    unfold okLeaf leaf
    rw [h1,show (n.kind==x.kind)=false from beq_eq_false_iff_ne.2 hn]
    rfl
  unfold ofF
  rw [if_pos hx,hok]
  rfl
def okWrap (r:List Node) (k:Nat):Option Nat:=match nxt r k with
 | none=>none
 | some n=>if bare n false false true=true∧0≤n.kids∧n.kids≤(if k=6 then 1 else ((r.length - 1:Nat):Int)) then some n.kids.toNat else none
theorem of_wrapT {s:Sch} {k:Nat} {x:Srt} {t:List Srt} {r:List Node} (hx:x.kind=5∨x.kind=6):ofF s none (k+1) (x::t) r=match okWrap r x.kind with
  | none=>none
  | some d=>up (manyF (ofF s none k) (List.replicate d t) 0 (r.drop 1)):=by
 cases r with
 | nil=>rfl
 | cons n q =>
  have hok:(okWrap (n::q) x.kind).map (fun d=>List.replicate d t)=kidsWrap q.length x.kind t n:=by
   have hw:(wlim q.length x.kind:Int)=if x.kind=6 then 1 else (q.length:Int):=by unfold wlim;split <;> rfl
   by_cases hn:n.kind=x.kind
   ·have h1:nxt (n::q) x.kind=some n:=if_pos hn
    have e:(bare n false false true=true∧0≤n.kids∧n.kids≤(if x.kind=6 then 1 else (((n::q).length - 1:Nat):Int)))↔(n.kind=x.kind∧n.int=0∧n.text.toList.isEmpty=true∧0≤n.kids∧n.kids≤(wlim q.length x.kind:Int)):=by
     rw [hw]
     unfold bare
     simp only [Bool.false_or,Bool.true_or,Bool.and_true,Bool.and_eq_true,beq_iff_eq,hn,true_and,and_assoc,List.length_cons,Nat.add_sub_cancel]
    unfold okWrap kidsWrap
    rw [h1]
    simp only
    by_cases hc:bare n false false true=true∧0≤n.kids∧n.kids≤(if x.kind=6 then 1 else (((n::q).length - 1:Nat):Int))
    ·rw [if_pos hc,if_pos (e.1 hc)]
     rfl
    ·rw [if_neg hc,if_neg (fun h=>hc (e.2 h))]
     rfl
   ·have h1:nxt (n::q) x.kind=none:=if_neg hn
    have h2:okWrap (n::q) x.kind=none:=by unfold okWrap;rw [h1]
    rw [h2]
    unfold kidsWrap
    rw [if_neg (fun h=>hn h.1)]
    rfl
  unfold ofF
  rw [if_neg (by omega)]
  unfold kidsOf
  rw [if_pos hx,Option.getD_none,←hok]
  cases okWrap (n::q) x.kind <;> rfl
/-- A record's value, or a choice's. -/
def recF (s:Sch) (k:Nat) (r:Rec) (l:List Node):Option (Nat × List Node):=match l with
 | []=>none
 | n::q=>match kidsRec r n with
  | none=>none
  | some ks=>up (manyF (ofF s none k) ks 0 q)
theorem of_recT {s:Sch} {k:Nat} {x:Srt} {t:List Srt} {r:List Node} (hx:x.kind=7):ofF s none (k+1) (x::t) r=recF s k ((find s x.name).getD recZ) r:=by
 cases r with
 | nil=>rfl
 | cons n q =>
  unfold ofF
  rw [if_neg (by omega)]
  unfold kidsOf
  rw [if_neg (by omega)]
  rfl
def okChoice (r:Rec) (l:List Node):Option Nat:=match nxt l 8 with
 | none=>none
 | some n=>if bare n true false true=true∧n.kids=1∧0≤n.int∧n.int<r.fields.length then some n.int.toNat else none
theorem rec_choice {s:Sch} {k:Nat} {r:Rec} {l:List Node} (hc:r.choice=true):recF s k r l=match okChoice r l with
  | none=>none
  | some i=>up (manyF (ofF s none k) [(r.fields.map (·.type)).getD i []] 0 (l.drop 1)):=by
 cases l with
 | nil=>rfl
 | cons n q =>
  unfold recF kidsRec okChoice nxt
  simp only [List.drop_succ_cons,List.drop_zero]
  rw [if_pos hc]
  by_cases hn:n.kind=8
  ·rw [if_pos hn]
   simp only
   have e:(bare n true false true=true∧n.kids=1∧0≤n.int∧n.int<r.fields.length)↔(n.kind=8∧n.text.toList.isEmpty=true∧n.kids=1∧0≤n.int∧n.int<r.fields.length):=by
    unfold bare
    simp only [Bool.false_or,Bool.true_or,Bool.and_true,Bool.true_and,hn,true_and]
   by_cases hcc:bare n true false true=true∧n.kids=1∧0≤n.int∧n.int<r.fields.length
   ·rw [if_pos hcc,if_pos (e.1 hcc)]
   ·rw [if_neg hcc,if_neg (fun h=>hcc (e.2 h))]
  ·rw [if_neg hn,if_neg (fun h=>hn h.1)]
def okRec (r:Rec) (l:List Node):Bool:=match nxt l 7 with
 | none=>false
 | some n=>bare n false false true&&n.kids==r.fields.length
theorem rec_fields {s:Sch} {k:Nat} {r:Rec} {l:List Node} (hc:r.choice=false):recF s k r l=if okRec r l=true then up (manyF (ofF s none k) (r.fields.map (·.type)) 0 (l.drop 1)) else none:=by
 cases l with
 | nil=>rfl
 | cons n q =>
  unfold recF kidsRec okRec nxt
  simp only [List.drop_succ_cons,List.drop_zero]
  rw [if_neg (by rw [hc];decide)]
  by_cases hn:n.kind=7
  ·rw [if_pos hn]
   simp only
   have e:((bare n false false true&&n.kids==r.fields.length)=true)↔(n.kind=7∧n.int=0∧n.text.toList.isEmpty=true∧n.kids=r.fields.length):=by
    unfold bare
    simp only [Bool.false_or,Bool.true_or,Bool.and_true,Bool.and_eq_true,beq_iff_eq,hn,true_and,and_assoc]
   by_cases hcc:(bare n false false true&&n.kids==r.fields.length)=true
   ·rw [if_pos hcc,if_pos (e.1 hcc)]
   ·rw [if_neg hcc,if_neg (fun h=>hcc (e.2 h))]
  ·rw [if_neg hn,if_neg (fun h=>hn h.1)]
   rfl
/-- What the calls share: the schema, the parts, the cursor. -/
structure Env (s:Sch) (w0 w:World) (b g m:Nat):Prop where
 bel:Below w0.heap.size w0 w
 fnd:Fnd w0 w g m s.records
 lo:w0.heap.size≤b
 ng:b≠g
 nm:b≠m
 lt:b<w.heap.size
def fndV (g:Nat):Value:=.func (.func 111) #[] #[.pointer (some ⟨g,0,none⟩)]
theorem Env.grown {s:Sch} {w0 w w':World} {b g m:Nat} (h:Env s w0 w b g m) (hg:w.grownBy w' (some b)):Env s w0 w' b g m :=
 ⟨below_gb h.bel hg h.lo (Nat.le_trans h.lo (Nat.le_of_lt h.lt)),h.fnd.kept hg h.ng h.nm,h.lo,h.ng,h.nm,Nat.lt_of_lt_of_le h.lt hg.size⟩
theorem Env.below {s:Sch} {w0 w w':World} {b g m:Nat} (h:Env s w0 w b g m) (hb:Below w.heap.size w w'):Env s w0 w' b g m:=h.grown (gb_below hb _)
theorem Cur.below {w w':World} {b a:Nat} {vs f:Value} (h:Cur w b vs a f) (hb:Below w.heap.size w w'):Cur w' b vs a f:=Bk.below h hb (Bk.lt h)
def OfP (w:World) (b:Nat) (vs f:Value) (v:List Node) (R:Option (Nat × List Node)) (e:Ending) (w':World):Prop :=
 ∃ a',e=.returned (.int .i64 (deep R))∧w.grownBy w' (some b)∧Cur w' b vs a' f∧a'≤v.length∧∀ p,R=some p→p.2=v.drop a'
theorem gb_trans {a b c:World} {r:Option Nat} (h:a.grownBy b r) (k:b.grownBy c r):a.grownBy c r :=
 ⟨k.os.trans h.os,k.tape.trans h.tape,k.output.trans h.output,Nat.le_trans h.size k.size,fun i hi hn=>(k.block i (Nat.lt_of_lt_of_le hi h.size) hn).trans (h.block i hi hn)⟩
theorem OfP.after {w w1 w':World} {b:Nat} {vs f:Value} {v:List Node} {R:Option (Nat × List Node)} {e:Ending} (h:OfP w1 b vs f v R e w') (hg:w.grownBy w1 (some b)):OfP w b vs f v R e w':=by
 obtain ⟨a',h1,h2,h3⟩:=h
 exact ⟨a',h1,gb_trans hg h2,h3⟩
end Vl
end Go.Proofs.YtjfdohhdkdjifaaGreatDoor
