/- What the six listed variables give: the keywords' cells, the powers of ten, the two errors. -/
import Derived.Test.YtogijkhenihaaaaGreatDoorGP03
import Derived.Test.YtogijkhenihaaaaGreatDoorGP19
import Derived.Test.YtogijkhenihaaaaGreatDoorGP26
import Derived.Test.YtogijkhenihaaaaGreatDoorGP02
import Derived.ProofKit
import Derived.LaidMore
import Derived.OpenShut
import Derived.Stop.Joined
import Derived.Lib.LaidTab
import Derived.Lib.SmallJoins
import Derived.Lib.ItoaMem
import Derived.Lib.AppendIntMem
set_option linter.unusedVariables false
namespace Go.Proofs.YtogijkhenihaaaaGreatDoor
open Go.ChangeShapes Go.WideShapes Go.ChangeAt Go.RowKit
namespace Kw
theorem gK : Tryz.prog.globalNamed "redress/token.keywords" = some 0 := by kernel_rfl
theorem tK:(Tryz.prog.globals[0]?).map (·.type)=some 267:=by kernel_rfl
theorem c9:Tryz.prog.cellsOf 9=1:=by kernel_rfl
/-- The list of what is laid. -/
abbrev laidL : List (String × DataW Unit) := [("math/bits.deBruijn32tab", Rows.laid_math_bits_deBruijn32tab), ("math/bits.deBruijn64tab", Rows.laid_math_bits_deBruijn64tab), ("internal/strconv.uint64pow10", Rows.laid_internal_strconv_uint64pow10), ("strconv.ErrRange", Rows.laid_strconv_ErrRange), ("strconv.ErrSyntax", Rows.laid_strconv_ErrSyntax), ("redress/token.keywords", Rows.laid_redress_token_keywords)]
/-- The door's own heap meets the condition. -/
theorem door_met (os:Os) (args:Array Value):laidMetH Tryz.prog laidL ((World.doorLaid Tryz.prog 400 os).forCall (fun _ _=>0) ⟨#[],args,[]⟩).memory :=
 laidMetH_of_parts3 (fuel:=8) (laidMet_of_run' 8 (by kernel_rfl) (by kernel_rfl)) (by kernel_rfl) (by kernel_rfl)
theorem data_eq:(Rows.laid_redress_token_keywords:DataW Unit)=.agg (Tk.words.map fun x=>.lit (.string x.data.toList)):=by kernel_rfl
theorem iface_of {H:Type} {enc:TypeId × Value→H} {P:Program} {w:World} {base:Nat} {sp:Nat→Bool} {held:Bool} {fuel:Nat} {t:TypeId} {ms:Array (String × TypeId)} {cs:List Value} {x:DataW H × List MemPlace}
  (ht:P.underlying t=some (.interface ms)) (h:DataW.trod enc P w base sp held fuel t cs=some x):∃ v,cs=[v]∧(v=.nilIface∨∃ u y,v=.iface u y):=by
 cases fuel with
 | zero=>simp [DataW.trod] at h
 | succ fuel =>
  unfold DataW.trod at h
  rw [ht] at h
  match cs,h with
  | [.nilIface],_=>exact ⟨_,rfl,.inl rfl⟩
  | [.iface u y],_=>exact ⟨_,rfl,.inr ⟨u,y,rfl⟩⟩
/-- What lies there. -/
structure L6 (w:World):Prop where
 kw:Tk.KW w
 tab : Lib.TabIs Tryz.prog w "internal/strconv.uint64pow10" .u64 Lib.pow10Tab
 es:∃ v,w.cell? ⟨2,0,none⟩=some v∧(v=.nilIface∨∃ u y,v=.iface u y)
 er:∃ v,w.cell? ⟨3,0,none⟩=some v∧(v=.nilIface∨∃ u y,v=.iface u y)
theorem gP : Tryz.prog.globalNamed "internal/strconv.uint64pow10" = some 4 := by kernel_rfl
theorem gS : Tryz.prog.globalNamed "strconv.ErrSyntax" = some 2 := by kernel_rfl
theorem gR : Tryz.prog.globalNamed "strconv.ErrRange" = some 3 := by kernel_rfl
theorem tP:(Tryz.prog.globals[4]?).map (·.type)=some 316:=by kernel_rfl
theorem tS:(Tryz.prog.globals[2]?).map (·.type)=some 158:=by kernel_rfl
theorem tR:(Tryz.prog.globals[3]?).map (·.type)=some 158:=by kernel_rfl
theorem pow_eq:(Rows.laid_internal_strconv_uint64pow10:DataW Unit)=Lib.tabData .u64 Lib.pow10Tab:=by kernel_rfl
theorem L6.below {w w':World} (h:L6 w) (hb:Below w.heap.size w w'):L6 w':=by
 obtain ⟨h1,h2,⟨v,h3,h4⟩,⟨u,h5,h6⟩⟩:=h
 exact ⟨h1.below hb,Go.Joins.tab_stays gP h2 hb (Nat.le_refl _),⟨v,(hb.cell (p:=⟨2,0,none⟩) (World.block_lt_of_cell? w _ h3)).trans h3,h4⟩,⟨u,(hb.cell (p:=⟨3,0,none⟩) (World.block_lt_of_cell? w _ h5)).trans h5,h6⟩⟩
theorem of_laid {W:World} (h:laidMetH Tryz.prog laidL W):L6 W:=by
 rw [MakeChecks.laidMetH_plain _ _ _ (by kernel_rfl)] at h
 obtain ⟨ps,hps,_,_⟩:=h
 obtain ⟨_,_,_,_,_,_,_,_,_,_,hps,_⟩:=hps
 obtain ⟨_,_,_,_,_,_,_,_,_,_,hps,_⟩:=hps
 obtain ⟨g1,t1,cs1,f1,p1,q1,hg1,ht1,hv1,hd1,hps,_⟩:=hps
 obtain ⟨g2,t2,cs2,f2,p2,q2,hg2,ht2,hv2,hd2,hps,_⟩:=hps
 obtain ⟨g3,t3,cs3,f3,p3,q3,hg3,ht3,hv3,hd3,hps,_⟩:=hps
 have hT : Lib.TabIs Tryz.prog W "internal/strconv.uint64pow10" .u64 Lib.pow10Tab := by
  obtain rfl:=Option.some.inj (gP.symm.trans hg1)
  obtain rfl:=Option.some.inj (tP.symm.trans ht1)
  unfold Lib.TabIs
  rw [hv1,←Lib.cells_of_tab Tryz.underlying316 Tryz.underlying36 (by kernel_rfl) (by kernel_rfl) (pow_eq ▸ hd1)]
 have hR:∃ v,W.cell? ⟨3,0,none⟩=some v∧(v=.nilIface∨∃ u y,v=.iface u y):=by
  obtain rfl:=Option.some.inj (gR.symm.trans hg2)
  obtain rfl:=Option.some.inj (tR.symm.trans ht2)
  obtain ⟨v,e,hv⟩:=iface_of Tryz.underlying158 hd2
  refine ⟨v,?_,hv⟩
  have:=World.var?_cell hg2 hv2 0
  rw [this]
  have h2:=congrArg (·[0]?) e
  simpa using h2
 have hS:∃ v,W.cell? ⟨2,0,none⟩=some v∧(v=.nilIface∨∃ u y,v=.iface u y):=by
  obtain rfl:=Option.some.inj (gS.symm.trans hg3)
  obtain rfl:=Option.some.inj (tS.symm.trans ht3)
  obtain ⟨v,e,hv⟩:=iface_of Tryz.underlying158 hd3
  refine ⟨v,?_,hv⟩
  have:=World.var?_cell hg3 hv3 0
  rw [this]
  have h2:=congrArg (·[0]?) e
  simpa using h2
 obtain ⟨g0,t0,cs0,f0,p0,q0,hg0,ht0,hv0,hd0,_⟩:=hps
 obtain rfl:=Option.some.inj (gK.symm.trans hg0)
 obtain rfl:=Option.some.inj (tK.symm.trans ht0)
 obtain ⟨xs,m1,rfl,hx1,hlen,hn,hel⟩:=DataW.trod_array Tryz.underlying267 hd0
 simp only [Prod.mk.injEq] at hx1
 have hx2:(Tk.words.map fun x=>(DataW.lit (.string x.data.toList):DataW Unit))=xs.map (·.1):=by
  have:=hx1.1
  rw [data_eq] at this
  injection this
 have key:∀ j,j<Tk.words.length→W.cell? ⟨0,0+j,none⟩=some (.string (Tk.words.getD j ByteArray.empty)):=by
  intro j hj
  have hj17:j<17:=hj
  have h1:=hel j hj17
  rw [c9] at h1
  have hjx:j<xs.length:=by omega
  rw [List.getElem?_eq_getElem hjx] at h1
  obtain ⟨s,e1,e2,_⟩:=DataW.trod_string Tryz.underlying9 h1
  have h3:(xs.map (·.1))[j]?=some (DataW.lit (.string Tk.words[j].data.toList)):=by
   rw [←hx2,List.getElem?_map,List.getElem?_eq_getElem hj]
   rfl
  rw [List.getElem?_map,List.getElem?_eq_getElem hjx,e2] at h3
  simp only [Option.map_some,Option.some.injEq,DataW.lit.injEq,Lit.string.injEq] at h3
  have hs:s=Tk.words[j]:=by
   cases s
   cases hw:Tk.words[j]
   rw [hw] at h3
   simp only at h3
   rw [Array.toList_inj.1 h3]
  have hc:=World.var?_cell hg0 hv0 j
  rw [Nat.zero_add,hc]
  have e4:cs0.toList[j]?=some (.string s):=by
   have:((cs0.toList.drop (j * 1)).take 1)[0]?=some (.string s):=by rw [e1];rfl
   rw [List.getElem?_take_of_lt (by omega),List.getElem?_drop] at this
   simpa using this
  have e5:Tk.words.getD j ByteArray.empty=s:=by rw [hs,List.getD_eq_getElem?_getD,List.getElem?_eq_getElem hj];rfl
  rw [e5]
  simpa using e4
 exact ⟨⟨World.block_lt_of_cell? W _ (key 0 (by decide)),key⟩,hT,hS,hR⟩
end Kw
end Go.Proofs.YtogijkhenihaaaaGreatDoor
set_option linter.unusedVariables false
set_option linter.unusedSimpArgs false
namespace Go.Proofs.YtogijkhenihaaaaGreatDoor
open Go.RowKit Go.BigFrame
theorem sgflag_any (b:Bool) (w:World):Calls Tryz.prog 89 #[.bool b] w fun e w'=>e=.returned (.int .i64 (Sg.flag b))∧w'=w:=by
 cases b
 ·go_enter Tryz.func89,Tryz.ntmps89
  go_wp2_with fail
  go_ret
  exact ⟨rfl,rfl⟩
 ·go_enter Tryz.func89,Tryz.ntmps89
  go_wp2_with fail
  go_ret
  exact ⟨rfl,rfl⟩
namespace Sg
theorem own_below {w w1:World} {base:Nat} {e:TypeId} {size:Nat} {v:Value} {n:Nat} {xs:List Value} (h:w.ownsRow base e size v n xs) (hb:Below w.heap.size w w1):w1.ownsRow base e size v n xs:=by
 refine ⟨h.1,?_⟩
 rcases h.2 with hn | ⟨g,cap,cur,rfl,hbs,hgg,rest⟩
 ·exact .inl hn
 ·exact .inr ⟨g,cap,cur,rfl,hbs,by rw [hb.block g (Array.getElem?_eq_some_iff.1 hgg).1];exact hgg,rest⟩
theorem bd_below {T e:TypeId} {B b:Nat} {bs:List Value} {w w':World} (h:Lib.IsBuilder T e B b bs w) (hb:Below w.heap.size w w'):Lib.IsBuilder T e B b bs w':=by
 rcases h with h | h
 ·obtain ⟨hB,v,hk,hown,hne⟩:=h
  have hlt:=Lib.BuilderAt.lt ⟨hB,v,hk,hown,hne⟩
  exact .inl ⟨hB,v,(hb.block b hlt).trans hk,Sg.own_below hown hb,hne⟩
 ·obtain ⟨hB,v,hk,hown,hne⟩:=h
  have hlt:=Lib.BuilderAt.lt ⟨hB,v,hk,hown,hne⟩
  exact .inr ⟨hB,v,(hb.block b hlt).trans hk,Sg.own_below hown hb,hne⟩
theorem bk_oth {e b:Nat} {w w':World} (h:Bd.Oth e b w w') {g:Nat} {T:TypeId} {cs:Array Value} (hb:Bk w g T cs) (hT:T≠e) (hg:g≠b):Bk w' g T cs:=h g cs T (0,0) hb hT hg
theorem oth_below {e b:Nat} {w w':World} (hb:Below w.heap.size w w'):Bd.Oth e b w w':=fun g cs T fr hg _ _=>(hb.block g (Bd.lt_heap hg)).trans hg
theorem cells_app (a b:List UInt8):Lib.byteCells a++Lib.strCells ⟨b.toArray⟩=Lib.byteCells (a++b):=by simp [Lib.byteCells,Lib.strCells]
theorem cells_len (l:List UInt8):(Lib.byteCells l).length=l.length:=by simp [Lib.byteCells]
theorem txts_take (ss:List ByteArray) (k:Nat):(txts (ss.take k)).length≤(txts ss).length:=by
 conv=>rhs;rw [←List.take_append_drop k ss]
 unfold txts
 rw [List.flatMap_append,List.length_append]
 omega
end Sg
set_option maxRecDepth 100000 in
set_option maxHeartbeats 4000000 in
theorem sgputs_any (W0 w:World) (b g:Nat) (ss:List ByteArray) (L:List UInt8) (hk:Kw.L6 W0) (hb:Below W0.heap.size W0 w)
  (hbd:Lib.IsBuilder 156 5 W0.heap.size b (Lib.byteCells L) w) (hrow:Bk w g 9 (ss.map Value.string).toArray) (hgb:g≠b)
  (hn:ss.length≤1000) (hz:∀ s∈ss,s.size≤1000000) (hlen:L.length+(Sg.txts ss).length≤1000000000) :
  Calls Tryz.prog 86 #[.slice (some ⟨g,0,none⟩) ss.length ss.length,.pointer (some ⟨b,0,none⟩)] w fun e w'=>e=.returned (.tuple #[])∧Lib.IsBuilder 156 5 W0.heap.size b (Lib.byteCells (L++Sg.txts ss)) w'∧Below W0.heap.size w w'∧Bd.Oth 5 b w w':=by
 have HK:=Lib.hid hk
 have HB:=Lib.hid hb
 have HBD:=Lib.hid hbd
 have HROW:=Lib.hid hrow
 have HGB:=Lib.hid hgb
 have HZ:=Lib.hid hz
 have HLEN:=Lib.hid hlen
 obtain ⟨n,Hn⟩:∃ n,Hid (ss.length=n):=⟨_,Lib.hid rfl⟩
 rw [Hn.out]
 have hn':n≤1000:=by rw [←Hn.out];exact hn
 clear hk hb hbd hrow hgb hz hlen hn
 go_enter Tryz.func86,Tryz.ntmps86
 go_wp2
 go_loopw [7] (fun i wr=>∃ k:Nat,k≤n∧i=.int .i64 k∧Hid (Lib.IsBuilder 156 5 W0.heap.size b (Lib.byteCells (L++Sg.txts (ss.take k))) wr)∧Hid (Below W0.heap.size w wr)∧Hid (Bd.Oth 5 b w wr)) (fun i _=>n - (intOf i).toNat)
 case atStart=>exact ⟨0,by omega,rfl,Lib.hid (by rw [List.take_zero];unfold Sg.txts;rw [List.flatMap_nil,List.append_nil];exact HBD.out),Lib.hid (Below.refl _ _),Lib.hid (Bd.Oth.refl _ _ _)⟩
 case round =>
  obtain ⟨k,hk,rfl,HI,HBl,HO⟩:=hrel
  obtain ⟨W1,rfl⟩:∃ w',w'=wr:=⟨_,rfl⟩
  by_cases hlt:k<n
  case neg =>
   have hi:¬(k:Int)<(n:Int):=by omega
   have HE:Hid (ss.take k=ss):=Lib.hid (List.take_of_length_le (by rw [Hn.out];omega))
   go_wp2_with fail
   go_end0
   exact ⟨rfl,by have h:=HI.out;rw [HE.out] at h;exact h,HBl.out,HO.out⟩
  have hi:(k:Int)<(n:Int):=by omega
  have i0:(0:Int)≤(k:Int):=by omega
  have hkl:k<ss.length:=by rw [Hn.out];exact hlt
  have HTX:=Lib.hid (Sg.txts_next hkl)
  have HTL:=Lib.hid (Sg.txts_take ss (k+1))
  have HMEM:=Lib.hid (List.getElem_mem hkl)
  have c0:W1.cell? ⟨g,k,none⟩=some (.string ss[k]):=by
   rw [(Sg.bk_oth HO.out HROW.out (by decide) HGB.out).cell k]
   simp [hkl]
  have hs:=HZ.out _ HMEM.out
  generalize ss[k]=s at *
  have hkl':=Lib.hid hkl
  clear hkl HMEM
  have HB1:Hid (Below W0.heap.size W0 W1):=Lib.hid (HB.out.trans HBl.out)
  have hsz:=HB1.out.size
  obtain ⟨S,HS⟩:∃ S,Hid ((⟨(Lib.itoa (s.size:Int)).toArray⟩:ByteArray)=S):=⟨_,Lib.hid rfl⟩
  have hS:S.size≤20:=by rw [←HS.out];show (Lib.itoa (s.size:Int)).toArray.size≤20;rw [List.size_toArray];exact Sg.itoa_len (by omega) (by omega)
  have z1:(9223372036854775807<S.size+1)=False:=by simp only [eq_iff_iff,iff_false];omega
  have z2:(9223372036854775807<S.size+1+s.size)=False:=by simp only [eq_iff_iff,iff_false];omega
  have HT:Hid (S++⟨#[58]⟩++s=⟨(Sg.txt s).toArray⟩):=Lib.hid (by rw [←HS.out];exact Sg.txt_str s)
  have hIT:=Tryz.strconv_Itoa (s.size:Int) (by omega) (by omega) W1 (HK.out.below HB1.out).tab
  rw [HS.out] at hIT
  have HIT:=Lib.hid hIT
  clear hIT
  go_wp2_with fail
  refine HIT.out.mono ?_
  rintro e w1 ⟨rfl,hw1⟩
  have hbg:Below W1.heap.size W1 w1:=by
   obtain ⟨q,os,rfl⟩:=hw1
   exact Lib.below_grow _ _ (Nat.le_refl _) q os
  clear hw1 HIT
  have HI2:=Lib.hid (Sg.bd_below HI.out hbg)
  have HB2:Hid (Below W0.heap.size w w1):=Lib.hid (HBl.out.trans (hbg.mono hsz))
  have HO2:Hid (Bd.Oth 5 b w w1):=Lib.hid (HO.out.trans (Sg.oth_below hbg))
  have hsz1:=hbg.size
  clear hbg c0
  go_wp2_with fail
  have h58:(⟨#[58]⟩:ByteArray).size=1:=rfl
  have hfit:(Lib.byteCells (L++Sg.txts (ss.take k))).length+(S++⟨#[58]⟩++s).size≤140737488355328:=by
   have h1:=HTL.out
   have h2:=HLEN.out
   rw [HTX.out,List.length_append] at h1
   rw [Sg.cells_len,List.length_append,ByteArray.size_append,ByteArray.size_append,h58]
   omega
  clear h58
  have hws:=Bd.writeString W0.heap.size b (Lib.byteCells (L++Sg.txts (ss.take k))) (S++⟨#[58]⟩++s) w1 HI2.out hfit (by omega)
  refine hws.mono ?_
  clear hws hfit
  rintro e w2 ⟨rfl,⟨hbd3,hb3⟩,ho3⟩
  have HI3:Hid (Lib.IsBuilder 156 5 W0.heap.size b (Lib.byteCells (L++Sg.txts (ss.take (k+1)))) w2):=Lib.hid (.inr (by
   rw [HT.out,Sg.cells_app,List.append_assoc,←HTX.out] at hbd3
   exact hbd3))
  have HB3:Hid (Below W0.heap.size w w2):=Lib.hid (HB2.out.trans hb3)
  have HO3:Hid (Bd.Oth 5 b w w2):=Lib.hid (HO2.out.trans ho3)
  clear hbd3 hb3 ho3
  go_wp2_with fail
  go_roundw
  case rel=>exact ⟨k+1,by omega,by go_num,HI3,HB3,HO3⟩
  case measure=>simp [intOf];omega
namespace Sg
theorem ix0 (x0 x1 x2 x3 x4:Value) (W:World):Sem.run Tryz.prog (Instr.index 163 (.agg #[x0,x1,x2,x3,x4]) (.int .i64 0)) W=.ok x0 W:=by kernel_rfl
theorem ix1 (x0 x1 x2 x3 x4:Value) (W:World):Sem.run Tryz.prog (Instr.index 163 (.agg #[x0,x1,x2,x3,x4]) (.int .i64 1)) W=.ok x1 W:=by kernel_rfl
theorem ix2 (x0 x1 x2 x3 x4:Value) (W:World):Sem.run Tryz.prog (Instr.index 163 (.agg #[x0,x1,x2,x3,x4]) (.int .i64 2)) W=.ok x2 W:=by kernel_rfl
theorem ix3 (x0 x1 x2 x3 x4:Value) (W:World):Sem.run Tryz.prog (Instr.index 163 (.agg #[x0,x1,x2,x3,x4]) (.int .i64 3)) W=.ok x3 W:=by kernel_rfl
theorem ix4 (x0 x1 x2 x3 x4:Value) (W:World):Sem.run Tryz.prog (Instr.index 163 (.agg #[x0,x1,x2,x3,x4]) (.int .i64 4)) W=.ok x4 W:=by kernel_rfl
theorem ix {n0 n1 n2 n3 n4:Int} {k:Nat} (h:k<[n0,n1,n2,n3,n4].length) (W:World) :
  Sem.run Tryz.prog (Instr.index 163 (.agg #[.int .i64 n0,.int .i64 n1,.int .i64 n2,.int .i64 n3,.int .i64 n4]) (.int .i64 (k:Nat))) W=.ok (.int .i64 ([n0,n1,n2,n3,n4][k])) W:=by
 have h5:k<5:=h
 rcases (show k=0∨k=1∨k=2∨k=3∨k=4 by omega) with rfl | rfl | rfl | rfl | rfl
 ·exact ix0 _ _ _ _ _ W
 ·exact ix1 _ _ _ _ _ W
 ·exact ix2 _ _ _ _ _ W
 ·exact ix3 _ _ _ _ _ W
 ·exact ix4 _ _ _ _ _ W
/-- What a packing knows: the run in its box, the builder. -/
structure PkI (cs:Array Value) (w:World) (L:List UInt8) (wr:World):Prop where
 bel:Below w.heap.size w wr
 bd:Lib.IsBuilder 156 5 w.heap.size (w.heap.size+1) (Lib.byteCells L) wr
 box:Bk wr w.heap.size 54 cs
theorem PkI.below {cs:Array Value} {w wr w':World} {L:List UInt8} (h:PkI cs w L wr) (hb:Below wr.heap.size wr w'):PkI cs w L w' :=
 ⟨h.bel.trans (hb.mono h.bel.size),bd_below h.bd hb,h.box.below hb h.box.lt⟩
theorem PkI.put {cs:Array Value} {w wr w':World} {L M:List UInt8} (h:PkI cs w L wr) (hb:Below w.heap.size wr w') (hd:Lib.IsBuilder 156 5 w.heap.size (w.heap.size+1) (Lib.byteCells M) w') (ho:Bd.Oth 5 (w.heap.size+1) wr w'):PkI cs w M w' :=
 ⟨h.bel.trans hb,hd,bk_oth ho h.box (by decide) (by omega)⟩
theorem PkI.start {cs:Array Value} {w V:World} (h:V=(w.alloc (.cells cs 54)).alloc (.cells #[.pointer none,.slice none 0 0] 156)):PkI cs w [] V∧V.heap.size=w.heap.size+2:=by
 subst h
 have h1:(w.alloc (.cells cs 54)).heap.size=w.heap.size+1:=by simp
 refine ⟨⟨((Below.refl _ _).alloc (Nat.le_refl _) _).alloc (by simp) _,.inl ⟨by omega,.slice none 0 0,?_,World.ownsRow_nil _ _ _ _,by simp [Value.ownBlock]⟩,?_⟩,by simp⟩
 ·have h:=heap_alloc_new (w.alloc (.cells cs 54)) (.cells #[.pointer none,.slice none 0 0] 156)
  rw [h1] at h
  exact h
 ·have h:=Bk.new w 54 cs
  exact h.below ((Below.refl _ _).alloc (Nat.le_refl _) _) h.lt
theorem nums_range {r:Run} (h:r.ok):∀ n∈nums r,-9223372036854775808≤n∧n≤9223372036854775807:=by
 have hf:-9223372036854775808≤flag r.stop∧flag r.stop≤9223372036854775807:=by unfold flag;split <;> decide
 have hp:=h.p
 intro n hn
 unfold nums at hn
 simp only [List.mem_cons,List.not_mem_nil,or_false] at hn
 rcases hn with rfl | rfl | rfl | rfl | rfl
 ·exact h.a
 ·omega
 ·exact h.t
 ·exact hf
 ·exact h.w
theorem semi_len:∀ (ns:List Int),(∀ n∈ns,-9223372036854775808≤n∧n≤9223372036854775807)→(semi ns).length≤21 * ns.length
 | [],_=>Nat.le_refl _
 | n::ns,h=>by
  have h1:=itoa_len (h n (by simp)).1 (h n (by simp)).2
  have h2:=semi_len ns fun m hm=>h m (by simp [hm])
  unfold semi at h2 ⊢
  rw [List.flatMap_cons]
  simp only [List.length_append,List.length_cons,List.length_nil]
  omega
end Sg
set_option maxRecDepth 100000 in
set_option maxHeartbeats 16000000 in
theorem sgpack_any (r:Sg.Run) (hr:r.ok) (hz:r.id.size≤1000000∧r.saga.size≤1000000∧r.arg.size≤1000000∧r.value.size≤1000000) (w:World) (hk:Kw.L6 w) :
  Calls Tryz.prog 34 #[r.val] w fun e w'=>e=.returned (.string ⟨(Sg.packL r).toArray⟩)∧Below w.heap.size w w':=by
 have HK:=Lib.hid hk
 obtain ⟨PL,HPL⟩:∃ L,Hid (Sg.packL r=L):=⟨_,Lib.hid rfl⟩
 rw [HPL.out]
 have HP:=Lib.hid ((Sg.packL_eq r).symm.trans HPL.out)
 have HNR:=Lib.hid (Sg.nums_range hr)
 have hp:=hr.p
 obtain ⟨id0,s,a,n,p,t,st,y,v⟩:=r
 simp only at hz hp
 obtain ⟨z0,z1,z2,z3⟩:=hz
 have HZ3:Hid (∀ x∈[id0,s,a],x.size≤1000000):=Lib.hid (by intro x hx;simp only [List.mem_cons,List.not_mem_nil,or_false] at hx;rcases hx with rfl | rfl | rfl <;> assumption)
 have HZ1:Hid (∀ x∈[v],x.size≤1000000):=Lib.hid (by intro x hx;simp only [List.mem_singleton] at hx;subst hx;assumption)
 have HL3:Hid ((Sg.txts [id0,s,a]).length≤3000060):=Lib.hid (by
  unfold Sg.txts
  simp only [List.flatMap_cons,List.flatMap_nil,List.append_nil,List.length_append]
  have h1:=Sg.txt_len id0 (by omega)
  have h2:=Sg.txt_len s (by omega)
  have h3:=Sg.txt_len a (by omega)
  omega)
 have HL1:Hid ((Sg.txts [v]).length≤1000020):=Lib.hid (by
  unfold Sg.txts
  simp only [List.flatMap_cons,List.flatMap_nil,List.append_nil]
  have h1:=Sg.txt_len v (by omega)
  omega)
 have HPQ:Hid (Sg.txts [id0,s,a]++Sg.semi [n,(p:Int),t,Sg.flag st,y]++Sg.txts [v]=PL):=Lib.hid HP.out
 have HNQ:Hid (∀ u∈[n,(p:Int),t,Sg.flag st,y],-9223372036854775808≤u∧u≤9223372036854775807):=Lib.hid HNR.out
 clear hk HP HNR hr HPL z0 z1 z2 z3
 have hflag:∀ W:World,Calls Tryz.prog 89 #[.bool st] W fun e w'=>e=.returned (.int .i64 (Sg.flag st))∧Below W.heap.size W w':=fun W=>(sgflag_any st W).mono (by rintro e w' ⟨rfl,rfl⟩;exact ⟨rfl,Below.refl _ _⟩)
 obtain ⟨F,HF⟩:∃ F,Hid (Sg.flag st=F):=⟨_,Lib.hid rfl⟩
 rw [HF.out] at hflag HPQ HNQ
 have HFL:=Lib.hid hflag
 clear hflag HF
 have hwp:IntKind.i64.wrap (p:Int)=(p:Int):=by rw [IntKind.wrap_i64];omega
 unfold Sg.Run.val Sg.Run.cells
 go_enter Tryz.func34,Tryz.ntmps34
 go_upto_region 2 with (fail)
 refine wp_named (fun V hV=>?_)
 obtain ⟨hI,hVz⟩:=Sg.PkI.start hV
 have HI:=Lib.hid hI
 have HVZ:=Lib.hid hVz
 clear hV hI hVz
 have hc:=HI.out.box
 obtain ⟨c0,c1,c2⟩:V.cell? ⟨w.heap.size,0,none⟩=some (.string id0)∧V.cell? ⟨w.heap.size,1,none⟩=some (.string s)∧V.cell? ⟨w.heap.size,2,none⟩=some (.string a):=⟨by rw [hc.cell];rfl,by rw [hc.cell];rfl,by rw [hc.cell];rfl⟩
 clear hc
 go_wp2_with fail
 have hba:Below V.heap.size V (V.alloc (.cells #[.string id0,.string s,.string a] 9)):=(Below.refl _ _).alloc (Nat.le_refl _) _
 have HI1:=Lib.hid (HI.out.below hba)
 have hput:Calls Tryz.prog 86 #[.slice (some ⟨V.heap.size,0,none⟩) 3 3,.pointer (some ⟨w.heap.size+1,0,none⟩)] (V.alloc (.cells #[.string id0,.string s,.string a] 9)) _:=sgputs_any w _ (w.heap.size+1) V.heap.size [id0,s,a] [] HK.out HI1.out.bel HI1.out.bd (Bk.new V 9 #[.string id0,.string s,.string a]) (by have:=HVZ.out;omega) (show 3≤1000 by decide) HZ3.out (by have:=HL3.out;simp only [List.length_nil];omega)
 refine hput.mono ?_
 rintro e W1 ⟨rfl,hd1,hb1,ho1⟩
 have HI2:=Lib.hid (HI1.out.put hb1 hd1 ho1)
 rw [List.nil_append] at HI2
 clear hd1 hb1 ho1 hba HI1 HI HVZ c0 c1 c2 hput
 go_wp2_with fail
 have d3:=fun (w':World) (hb:Bl W1 w')=>(HI2.out.box.below hb HI2.out.box.lt).cell 3
 have d4:=fun (w':World) (hb:Bl W1 w')=>(HI2.out.box.below hb HI2.out.box.lt).cell 4
 have d5:=fun (w':World) (hb:Bl W1 w')=>(HI2.out.box.below hb HI2.out.box.lt).cell 5
 have d6:=fun (w':World) (hb:Bl W1 w')=>(HI2.out.box.below hb HI2.out.box.lt).cell 6
 have d7:=fun (w':World) (hb:Bl W1 w')=>(HI2.out.box.below hb HI2.out.box.lt).cell 7
 simp only [List.getElem?_toArray,List.getElem?_cons_zero,List.getElem?_cons_succ] at d3 d4 d5 d6 d7
 refine wp_region_bl W1 (by kernel_rfl) (by kernel_rfl) (Bl.refl _) ?_
 repeat (first | go_big_quiet_step ((intro hb;exact calls_bl hb (HFL.out _))) | (refine wpQuiet_step (fun K hK=>?_);rw [if_pos (by rfl)];refine Lst.load_cell _ _ rfl _ rfl _ (by assumption) _ Tryz.underlying3 rfl ?_;go_simp;refine hK _ ?_;clear hK K) | (refine wpQuiet_step (fun K hK=>?_);rw [if_pos (by rfl)];refine Lst.load_cell _ _ rfl _ rfl _ (by assumption) _ Tryz.underlying5 rfl ?_;go_simp;refine hK _ ?_;clear hK K) | (refine wpQuiet_step (fun K hK=>?_);rw [if_pos (by rfl)];refine Lst.load_cell _ _ rfl _ rfl _ (by assumption) _ Tryz.underlying4 rfl ?_;go_simp;refine hK _ ?_;clear hK K) | (refine wpQuiet_step (fun K hK=>?_);go_simp;refine ⟨_,fun _ _=>rfl,hK _ ?_⟩;clear hK K))
 refine wpQuiet_nil ?_
 intro W2 hW2
 have HI3:=Lib.hid (HI2.out.below hW2)
 clear d3 d4 d5 d6 d7 HI2 hW2 HFL
 go_wp2_with fail
 have HSM:=Lib.hid (Sg.semi_len _ HNQ.out)
 obtain ⟨NS,HNS⟩:∃ l,Hid ([n,(p:Int),t,F,y]=l):=⟨_,Lib.hid rfl⟩
 have hNl:NS.length=5:=by rw [←HNS.out];rfl
 have HNL:=Lib.hid hNl
 have HIX:Hid (∀ (k:Nat) (h:k<NS.length) (W:World),Sem.run Tryz.prog (Instr.index 163 (.agg #[.int .i64 n,.int .i64 (p:Nat),.int .i64 t,.int .i64 F,.int .i64 y]) (.int .i64 (k:Nat))) W=.ok (.int .i64 NS[k]) W):=Lib.hid (by
  obtain rfl:=HNS.out
  intro k h W
  exact Sg.ix h W)
 rw [HNS.out] at HPQ HNQ HSM
 clear hNl HNS
 go_loopw [30] (fun i wr=>∃ k:Nat,k≤5∧i=.int .i64 k∧Hid (Sg.PkI #[.string id0,.string s,.string a,.int .i64 n,.int .u8 (p:Nat),.int .i64 t,.bool st,.int .i64 y,.string v] w (Sg.txts [id0,s,a]++Sg.semi (NS.take k)) wr)) (fun i _=>5 - (intOf i).toNat)
 case atStart=>exact ⟨0,by omega,rfl,Lib.hid (by rw [List.take_zero];unfold Sg.semi;rw [List.flatMap_nil,List.append_nil];exact HI3.out)⟩
 case round =>
  clear HI3
  obtain ⟨k,hk,rfl,HI⟩:=hrel
  obtain ⟨W3,rfl⟩:∃ w',w'=wr:=⟨_,rfl⟩
  by_cases hlt:k<5
  case neg =>
   obtain rfl:k=5:=by omega
   have HE:Hid (NS.take 5=NS):=Lib.hid (List.take_of_length_le (by rw [HNL.out];omega))
   have HI4:Hid (Sg.PkI _ w (Sg.txts [id0,s,a]++Sg.semi NS) W3):=Lib.hid (by have h:=HI.out;rw [HE.out] at h;exact h)
   clear HI HE
   simp only [Int.cast_ofNat_Int]
   have c8:W3.cell? ⟨w.heap.size,8,none⟩=some (.string v):=by rw [HI4.out.box.cell];rfl
   have hbg:=HI4.out.bel.size
   go_wp2_with fail
   have hba:Below W3.heap.size W3 (W3.alloc (.cells #[.string v] 9)):=(Below.refl _ _).alloc (Nat.le_refl _) _
   have HI5:=Lib.hid (HI4.out.below hba)
   have hbl:w.heap.size+1<W3.heap.size:=by
    rcases HI4.out.bd with h | h
    ·exact h.lt
    ·exact h.lt
   have hput:Calls Tryz.prog 86 #[.slice (some ⟨W3.heap.size,0,none⟩) 1 1,.pointer (some ⟨w.heap.size+1,0,none⟩)] (W3.alloc (.cells #[.string v] 9)) _:=sgputs_any w _ (w.heap.size+1) W3.heap.size [v] _ HK.out HI5.out.bel HI5.out.bd (Bk.new W3 9 #[.string v]) (by omega) (show 1≤1000 by decide) HZ1.out (by
    have h1:=HL3.out
    have h2:=HL1.out
    have h3:=HSM.out
    rw [HNL.out] at h3
    rw [List.length_append]
    omega)
   refine hput.mono ?_
   rintro e W4 ⟨rfl,hd1,hb1,ho1⟩
   have HI6:=Lib.hid (HI5.out.put hb1 hd1 ho1)
   rw [HPQ.out] at HI6
   clear hd1 hb1 ho1 hba HI5 HI4 c8 hput
   go_wp2_with fail
   refine (Tryz.Builder_String_any w.heap.size (w.heap.size+1) PL _ HI6.out.bd HI6.out.bel.size).mono ?_
   rintro e W5 ⟨rfl,hb6⟩
   have HB:=Lib.hid (HI6.out.bel.trans hb6)
   go_wp2_with fail
   go_ret
   exact ⟨rfl,HB.out⟩
  have hi:(k:Int)<5:=by omega
  have i0:(0:Int)≤(k:Int):=by omega
  have hkl:k<NS.length:=by rw [HNL.out];exact hlt
  have hix:=HIX.out k hkl
  have HNX:=Lib.hid (Sg.semi_next hkl)
  have HU:=Lib.hid (HNQ.out _ (List.getElem_mem hkl))
  have HSL:=Lib.hid (Sg.semi_len (NS.take k) (fun u hu=>HNQ.out u (List.mem_of_mem_take hu)))
  generalize NS[k]=u at *
  have hU:=HU.out
  have hbg:=HI.out.bel.size
  obtain ⟨S,HS⟩:∃ S,Hid ((⟨(Lib.itoa u).toArray⟩:ByteArray)=S):=⟨_,Lib.hid rfl⟩
  have hS:S.size≤20:=by rw [←HS.out];show (Lib.itoa u).toArray.size≤20;rw [List.size_toArray];exact Sg.itoa_len hU.1 hU.2
  have z1:(9223372036854775807<S.size+1)=False:=by simp only [eq_iff_iff,iff_false];omega
  have HT:Hid (S++⟨#[59]⟩=⟨(Lib.itoa u++[59]).toArray⟩):=Lib.hid (by rw [←HS.out];exact Sg.num_str u)
  have hIT:=Tryz.strconv_Itoa u hU.1 hU.2 W3 (HK.out.below HI.out.bel).tab
  rw [HS.out] at hIT
  have HIT:=Lib.hid hIT
  clear hIT hkl hU
  go_wp2_with fail
  refine HIT.out.mono ?_
  rintro e w1 ⟨rfl,hw1⟩
  have hbw:Below W3.heap.size W3 w1:=by
   obtain ⟨q,os,rfl⟩:=hw1
   exact Lib.below_grow _ _ (Nat.le_refl _) q os
  clear hw1 HIT hix
  have HI7:=Lib.hid (HI.out.below hbw)
  have hz7:=HI7.out.bel.size
  clear hbw
  go_wp2_with fail
  have h59:(⟨#[59]⟩:ByteArray).size=1:=rfl
  have hfit:(Lib.byteCells (Sg.txts [id0,s,a]++Sg.semi (NS.take k))).length+(S++⟨#[59]⟩).size≤140737488355328:=by
   have h1:=HL3.out
   have h2:=HSL.out
   have h3:(NS.take k).length≤5:=by rw [List.length_take];omega
   rw [Sg.cells_len,List.length_append,ByteArray.size_append,h59]
   omega
  clear h59
  have hws:=Bd.writeString w.heap.size (w.heap.size+1) (Lib.byteCells (Sg.txts [id0,s,a]++Sg.semi (NS.take k))) (S++⟨#[59]⟩) w1 HI7.out.bd hfit hz7
  refine hws.mono ?_
  clear hws hfit
  rintro e w2 ⟨rfl,⟨hbd3,hb3⟩,ho3⟩
  have HI8:Hid (Sg.PkI _ w (Sg.txts [id0,s,a]++Sg.semi (NS.take (k+1))) w2):=Lib.hid (HI7.out.put hb3 (.inr (by
   rw [HT.out,Sg.cells_app,List.append_assoc,←HNX.out] at hbd3
   exact hbd3)) ho3)
  clear hbd3 hb3 ho3
  go_wp2_with fail
  go_roundw
  case rel=>exact ⟨k+1,by omega,by go_num,HI8⟩
  case measure=>simp [intOf];omega
end Go.Proofs.YtogijkhenihaaaaGreatDoor
