/- codec's reader: a part put behind the others. No condition but the ones the theorems state. -/
import Derived.Test.YtjfdohhdkdjifaaGreatDoorPE30
set_option linter.unusedVariables false
set_option linter.unusedSimpArgs false
namespace Go.Proofs.YtjfdohhdkdjifaaGreatDoor
section
open Go.RowKit Go.BigFrame
/-- An element appended within a region that draws its order: and nothing but the row's own block is written. -/
theorem step_append_elG {P:Program} {ops:Array Oper} {o:Oper} {a:Act} {w:World} {K:Act→World→Prop} {Q:Exit→Act→World→Prop} {H:Prop} (hgd:o.guard=none) (s y:Operand) (t:TypeId)
  (ho:o.op=.call { callee:=.builtin .append,args:=#[s,y],argTypes:=#[t,t] })
  (base:Nat) (e:TypeId) (z:Value) (size bytes:Nat) (ht:P.underlying t=some (.slice e)) (hi:(P.info? e).map (fun i=>(i.zero,i.size,i.bytes))=some (some z,size,bytes)) (hzs:z.cells.size=size) (hpos:0<size)
  {α:Type} (E:World→List Value→α→Prop) (v:Value) (l:List α) (hs:a.eval s=v) (hown:ERow w (some base) e size E v l)
  (cs:List Value) (hcs:cs.length=size) (g:Nat) (hx:a.eval y=.slice (some ⟨g,0,none⟩) 1 1) (hg0:Bk w g e cs.toArray) (h1:∀ u∈cs,u.oneCell'=true)
  (h63:l.length+1≤maxLen) (hbytes:(l.length+1) * bytes≤140737488355328) (hbase:base≤w.heap.size)
  (h:∀ A n c w',(∀ x,(∀ cs x,E w cs x→E w' cs x)→E w' cs x→ERow w' (some base) e size E (.slice A n c) (l++[x]))→Below base w w'→Only e w w'→w.grownBy w' v.ownBlock→K (a.put o.dst (.slice A n c)) w') :
  if Region.wanted o (yielded ops a.tmps)=true then Oper.wp P o a w K Q else H:=by
 obtain ⟨css,k1,k2,k3,k4⟩:=hown
 obtain ⟨i,hi0,hz0,hz1,hz2⟩:=info_parts hi
 have hown:w.ownsRow base e size v l.length css.flatten:=k3
 refine step_append_lies _ hgd s y t ho base e i z size bytes ht hi0 hz0 hz1 hz2 hzs hpos v l.length css.flatten hs hown ⟨g,0,none⟩ 1 1 cs hx (by rw [hcs];omega) (fun j u hu=>?_) h1 (by omega) h63 hbytes hbase w.heap.size rfl ?_
 ·have e':((⟨g,0,none⟩:Addr).add j)=⟨g,j,none⟩:=by simp [Addr.add];omega
  rw [e',hg0.cell j]
  simpa using hu
 intro g' cap w' hown' hg hat _
 exact h _ _ _ w' (fun x hE hx'=>ERow.snoc k1 k2 (fun i a b=>hE _ _ (k4 i a b)) hcs hx' hown') ((Below.refl base w).grown hg hbase (fun k hk=>(hown.lt k hk).1)) (Only.row hg hown) hg
theorem Cd.info_nd:(Tryz.prog.info? 71).map (fun i=>(i.zero,i.size,i.bytes))=some (some (.agg #[.int .u8 0,.int .i64 0,.string ⟨#[]⟩,.int .i64 0]),4,40):=by kernel_rfl
namespace Cd
open Go.Proofs.YtjfdohhdkdjifaaGreatDoor.Id Go.Proofs.YtjfdohhdkdjifaaGreatDoor.Chk Go.Proofs.YtjfdohhdkdjifaaGreatDoor.Vl Go.Proofs.YtjfdohhdkdjifaaGreatDoor.Ev
theorem own_lt {w:World} {b:Nat} {vv:Value} {l:List Vl.Node} (h:Vl.ValR w (some b) vv l) (k:Nat) (hk:vv.ownBlock=some k):k<w.heap.size:=by
 obtain ⟨css,k1,k2,k3,k4⟩:=h
 exact ((show w.ownsRow b 71 4 vv l.length css.flatten from k3).lt k hk).2
/-- What putting a part behind the others leaves. -/
structure PutP (q0 q1 q2 q3:Value) (bb:ByteArray) (w0 w:World) (g:Nat) (x:S) (w':World):Prop where
 only:OnlyB w0.heap.size g w w'
 rdr:∃ vv',Rdr q0 q1 q2 q3 bb w0 w' g x vv'
end Cd
set_option maxRecDepth 100000 in
set_option maxHeartbeats 4000000 in
theorem cput_any (q0 q1 q2 q3:Value) (bb:ByteArray) (w0 w:World) (g rb:Nat) (x:Cd.S) (vv:Value) (nd:Vl.Node) (hr:Cd.Rdr q0 q1 q2 q3 bb w0 w g x vv) (hrb:Bk w rb 95 #[.pointer (some ⟨g,0,none⟩)]) (hx:x.v.length<4096) :
  Calls Tryz.prog 106 #[.agg #[.int .u8 nd.kind,.int .i64 nd.int,.string nd.text,.int .i64 nd.kids],.pointer (some ⟨rb,0,none⟩)] w fun e w'=>e=.returned (.tuple #[])∧Cd.PutP q0 q1 q2 q3 bb w0 w g ⟨x.at_,x.v++[nd],x.sz⟩ w':=by
 have HRD:=Lib.hid hr
 have HRB:=Lib.hid hrb
 obtain ⟨p,v,z⟩:=x
 obtain ⟨k0,k1,k2,k3⟩:=nd
 simp only at hx ⊢
 have HX:=Lib.hid hx
 have HVO:Hid (∀ k,vv.ownBlock=some k→k<w.heap.size):=Lib.hid (Cd.own_lt hr.row)
 clear hr hrb hx
 go_enter Tryz.func106,Tryz.ntmps106
 go_upto_region 1 with (fail)
 refine wp_named (fun V hV=>?_)
 obtain ⟨hb,hq,hVs⟩:=fresh_box hV
 clear hV
 have HR1:=Lib.hid (HRD.out.below hb)
 have HO1:Hid (Cd.OnlyB w0.heap.size g w V):=Lib.hid (Cd.OnlyB.below hb)
 have HB1:=Lib.hid (HRB.out.below hb HRB.out.lt)
 have HQ1:=Lib.hid hq
 have HVS:=Lib.hid hVs
 clear hb hq hVs HRD HRB
 refine wp_region_L_calm (fun w'=>Bk w' rb 95 #[.pointer (some ⟨g,0,none⟩)]∧Bk w' g 97 #[q0,q1,q2,q3,.string bb,.int .i64 (p:Nat),vv,.int .i64 (z:Nat)]∧Bk w' w.heap.size 71 #[.int .u8 k0,.int .i64 k1,.string k2,.int .i64 k3]) [10] (by kernel_rfl) ⟨HB1.out.drew,HR1.out.box.drew,HQ1.out.drew⟩ (fun hHeld=>?_)
 (refine Lst.takeM 10 0 (v:=?_) rfl (by kernel_rfl) (by kernel_rfl) (by kernel_rfl) (by kernel_rfl) (by kernel_rfl) (by kernel_rfl) (fun _ _ _ h=>h) (by assumption) (by rfl) ?_ ?_;rotate_left;· (intro w hSw;obtain ⟨e0,e1⟩:=(Bk.k1 hSw.1);go_simp;try with_reducible rfl);try simp only [Act.put,List.setIfInBounds_toArray,List.set_cons_zero,List.set_cons_succ])
 (refine Lst.takeM 10 1 (v:=?_) rfl (by kernel_rfl) (by kernel_rfl) (by kernel_rfl) (by kernel_rfl) (by kernel_rfl) (by kernel_rfl) (fun _ _ _ h=>h) (by assumption) (by rfl) ?_ ?_;rotate_left;· (intro w hSw;obtain ⟨e0,e1⟩:=(Bk.k1 hSw.1);go_simp;try with_reducible rfl);try simp only [Act.put,List.setIfInBounds_toArray,List.set_cons_zero,List.set_cons_succ])
 (refine wpAnyL_take0 2 (v:=?_) rfl (by kernel_rfl) (by kernel_rfl) (by kernel_rfl) (by kernel_rfl) (fun _ _ _ h=>h) (fun _=>by assumption) (by rfl) ?_ ?_;rotate_left;· (intro w;go_simp;try with_reducible rfl);try simp only [Act.put,List.setIfInBounds_toArray,List.set_cons_zero,List.set_cons_succ])
 (refine wpAnyL_take0 3 (v:=?_) rfl (by kernel_rfl) (by kernel_rfl) (by kernel_rfl) (by kernel_rfl) (fun _ _ _ h=>h) (fun _=>by assumption) (by rfl) ?_ ?_;rotate_left;· (intro w;go_simp;try with_reducible rfl);try simp only [Act.put,List.setIfInBounds_toArray,List.set_cons_zero,List.set_cons_succ])
 (refine Lst.takeM 10 4 (v:=?_) rfl (by kernel_rfl) (by kernel_rfl) (by kernel_rfl) (by kernel_rfl) (by kernel_rfl) (by kernel_rfl) (fun _ _ _ h=>h) (by assumption) (by rfl) ?_ ?_;rotate_left;· (intro w hSw;obtain ⟨e0,e1,e2,e3,e4,e5,e6,e7⟩:=(Bk.k8 hSw.2.1).1;go_simp;try with_reducible rfl);try simp only [Act.put,List.setIfInBounds_toArray,List.set_cons_zero,List.set_cons_succ])
 (refine Lst.takeM 10 5 (v:=?_) rfl (by kernel_rfl) (by kernel_rfl) (by kernel_rfl) (by kernel_rfl) (by kernel_rfl) (by kernel_rfl) (fun _ _ _ h=>h) (by assumption) (by rfl) ?_ ?_;rotate_left;· (intro w hSw;obtain ⟨e0,e1,e2,e3⟩:=(Bk.k4 hSw.2.2).1;go_simp;try with_reducible rfl);try simp only [Act.put,List.setIfInBounds_toArray,List.set_cons_zero,List.set_cons_succ])
 have hr2:=HR1.out.drew
 have ho2:Cd.OnlyB w0.heap.size g w V.drew:=HO1.out.trans (Cd.OnlyB.below ((Below.refl _ _).drew))
 have hs2:w.heap.size<V.drew.heap.size:=hHeld.2.2.lt
 generalize V.drew=X at *
 clear HR1 HO1 HB1 HQ1 HVS
 have HR2:=Lib.hid hr2
 have HO2:=Lib.hid ho2
 have HS2:=Lib.hid hs2
 have HH:=Lib.hid hHeld
 clear hr2 ho2 hs2 hHeld
 (refine wpAnyL_step 6 (by kernel_rfl) rfl (fun K hK=>?_))
 go_simp
 have hB:Below X.heap.size X (X.alloc (.cells #[.int .u8 k0,.int .i64 k1,.string k2,.int .i64 k3] 71)):=(Below.refl _ _).alloc (Nat.le_refl _) _
 have hq:Bk (X.alloc (.cells #[.int .u8 k0,.int .i64 k1,.string k2,.int .i64 k3] 71)) X.heap.size 71 #[.int .u8 k0,.int .i64 k1,.string k2,.int .i64 k3]:=Bk.new X _ _
 have HR3:=Lib.hid (HR2.out.below hB)
 have HO3:=Lib.hid (HO2.out.trans (Cd.OnlyB.below hB))
 have HH3:=Lib.hid (And.intro (HH.out.1.below hB HH.out.1.lt) (And.intro (HH.out.2.1.below hB HH.out.2.1.lt) (HH.out.2.2.below hB HH.out.2.2.lt)))
 have HQ:=Lib.hid hq
 have hX:=hB.size
 generalize X.alloc (.cells #[.int .u8 k0,.int .i64 k1,.string k2,.int .i64 k3] 71)=Y at *
 clear hB hq
 (refine hK.out _ _ (fun hnn=>HH3.out) ?_;clear hK K;try simp only [Act.put,List.setIfInBounds_toArray,List.set_cons_zero,List.set_cons_succ])
 (refine wpAnyL_step 7 (by kernel_rfl) rfl (fun K hK=>?_))
 refine step_append_elG rfl _ _ _ rfl w0.heap.size 71 _ 4 40 Tryz.underlying23 Cd.info_nd rfl (by decide) Vl.NodE vv v rfl HR3.out.row [.int .u8 k0,.int .i64 k1,.string k2,.int .i64 k3] rfl X.heap.size rfl HQ.out (by simp [Value.oneCell']) (by unfold maxLen;have:=HX.out;omega) (by have:=HX.out;omega) HR3.out.bel.size ?_
 intro A6 n6 c6 Z hrow hb3 ho3 hg3
 have hHeld:=And.intro (ho3.bk HH3.out.1 (by decide)) (And.intro (ho3.bk HH3.out.2.1 (by decide)) (HH3.out.2.2.grown hg3 (fun e=>Nat.lt_irrefl _ (HVO.out _ e.symm))))
 have hR4:=HR3.out.row_ (l:=v++[(⟨k0,k1,k2,k3⟩:Vl.Node)]) (v':=.slice A6 n6 c6) hb3 ho3 (show Vl.ValR Z (some w0.heap.size) (.slice A6 n6 c6) (v++[(⟨k0,k1,k2,k3⟩:Vl.Node)]) from hrow (⟨k0,k1,k2,k3⟩:Vl.Node) (fun _ _ h=>h) rfl) (by rw [List.length_append];have:=HX.out;simp only [List.length_cons,List.length_nil];omega)
 have hO4:Cd.OnlyB w0.heap.size g w (Z.setCell ⟨g,6,none⟩ (.slice A6 n6 c6)):=(HO3.out.trans (Cd.OnlyB.only hb3 ho3)).trans (Cd.OnlyB.gb (gb_set (gb_refl _ _) (.inl rfl) _))
 have HR4:=Lib.hid hR4
 have HO4:=Lib.hid hO4
 clear hR4 hO4 hrow hb3 ho3 hg3
 (refine hK.out _ _ (fun hnn=>hHeld) ?_;clear hK K;try simp only [Act.put,List.setIfInBounds_toArray,List.set_cons_zero,List.set_cons_succ])
 (refine wpAnyL_take0 8 (v:=?_) rfl (by kernel_rfl) (by kernel_rfl) (by kernel_rfl) (by kernel_rfl) (fun _ _ _ h=>h) (fun _=>by assumption) (by rfl) ?_ ?_;rotate_left;· (intro w;go_simp;try with_reducible rfl);try simp only [Act.put,List.setIfInBounds_toArray,List.set_cons_zero,List.set_cons_succ])
 (refine wpAnyL_take0 9 (v:=?_) rfl (by kernel_rfl) (by kernel_rfl) (by kernel_rfl) (by kernel_rfl) (fun _ _ _ h=>h) (fun _=>by assumption) (by rfl) ?_ ?_;rotate_left;· (intro w;go_simp;try with_reducible rfl);try simp only [Act.put,List.setIfInBounds_toArray,List.set_cons_zero,List.set_cons_succ])
 obtain ⟨⟨d0,d1,d2,d3,d4,d5,d6,d7⟩,f0,f1,f2,f3,f4,f5,f6,f7⟩:=(Bk.k8 hHeld.2.1)
 (refine wpAnyL_step 10 (by kernel_rfl) rfl (fun K hK=>?_))
 go_simp
 (refine hK.out _ _ (fun hnn=>absurd hnn (by decide)) ?_;clear hK K;try simp only [Act.put,List.setIfInBounds_toArray,List.set_cons_zero,List.set_cons_succ])
 refine wpAnyL_done (by kernel_rfl) ?_ _
 refine NoPanic.normal ?_
 go_wp2_with fail
 go_end0
 exact ⟨rfl,HO4.out,_,HR4.out⟩
end
section
open Go.RowKit Go.BigFrame
namespace Cd
open Go.Proofs.YtjfdohhdkdjifaaGreatDoor.Id Go.Proofs.YtjfdohhdkdjifaaGreatDoor.Chk Go.Proofs.YtjfdohhdkdjifaaGreatDoor.Vl Go.Proofs.YtjfdohhdkdjifaaGreatDoor.Ev
/-- What reading the value of a type leaves. -/
def EndP (q0 q1 q2 q3:Value) (bb:ByteArray) (w0 w:World) (g:Nat) (R:Rs S) (e:Ending) (w':World):Prop:=match R with
 | .ok y=>e=.returned (.tuple #[])∧PutP q0 q1 q2 q3 bb w0 w g y w'
 | .error p=>e=pan p.1 p.2∧Below w0.heap.size w0 w'
def PartC (s:Sch) (q0 q1 q2 q3:Value) (bb:ByteArray) (w0:World) (g k:Nat):Prop:=∀ (tv:Value) (t:List Srt) (x:S) (vv:Value) (w:World),okT s t=true→t.length≤12→Rdr q0 q1 q2 q3 bb w0 w g x vv→Sts w0.heap.size g w tv t →
 Calls Tryz.prog 50 #[.pointer (some ⟨g,0,none⟩),tv,.int .i64 (12 - (k:Int))] w fun e w'=>EndP q0 q1 q2 q3 bb w0 w g (decF s bb.data.toList k t x) e w'
def decN (r:Rec) (b:List UInt8) (x:S):Rs (List (List Srt) × S):=if r.choice=true then decC r b x else .ok (r.fields.map (·.type),x.put x.at_ ⟨7,0,E0,r.fields.length⟩ 0)
theorem EndP.on {q0 q1 q2 q3:Value} {bb:ByteArray} {w0 w w1 w':World} {g:Nat} {R:Rs S} {e:Ending} (h:EndP q0 q1 q2 q3 bb w0 w1 g R e w') (k:OnlyB w0.heap.size g w w1):EndP q0 q1 q2 q3 bb w0 w g R e w':=by
 unfold EndP at *
 cases R with
 | ok y=>exact ⟨h.1,k.trans h.2.only,h.2.rdr⟩
 | error p=>exact h
theorem manyD_go {f:List Srt→S→Rs S} {t:List Srt} {ts:List (List Srt)} {x y:S} (h:f t x=.ok y):manyD f (t::ts) x=manyD f ts y:=by
 rw [manyD,h]
theorem manyD_err {f:List Srt→S→Rs S} {t:List Srt} {ts:List (List Srt)} {x:S} {p:Nat × Nat} (h:f t x=.error p):manyD f (t::ts) x=.error p:=by
 rw [manyD,h]
end Cd
set_option maxRecDepth 100000 in
set_option maxHeartbeats 16000000 in
theorem cnamed_any (s:Id.Sch) (hF:Chk.Fine s) (hR:Chk.Right s) (q0 q1 q2 q3:Value) (bb:ByteArray) (hbb:bb.size≤1000000) (w0:World) (g k ar:Nat) (har:ar+k+1=12) (hs:Id.SchV w0 none (.agg #[q0,q1,q2,q3]) s) (ih:Cd.PartC s q0 q1 q2 q3 bb w0 g k)
  (name:ByteArray) (hn:(Chk.find s name).isSome=true) (x:Cd.S) (vv:Value) (w:World) (hx:x.v.length<4096) (hr:Cd.Rdr q0 q1 q2 q3 bb w0 w g x vv) :
  Calls Tryz.prog 110 #[.pointer (some ⟨g,0,none⟩),.int .i64 (x.at_:Nat),.string name,.int .i64 (ar:Nat)] w fun e w'=>Cd.EndP q0 q1 q2 q3 bb w0 w g (Cd.goD (Cd.decF s bb.data.toList k) (Cd.decN ((Chk.find s name).getD Chk.recZ) bb.data.toList x)) e w':=by
 obtain ⟨R,HR⟩:∃ R,Hid (Cd.goD (Cd.decF s bb.data.toList k) (Cd.decN ((Chk.find s name).getD Chk.recZ) bb.data.toList x)=R):=⟨_,Lib.hid rfl⟩
 rw [HR.out]
 obtain ⟨r,hfr⟩:=Option.isSome_iff_exists.1 hn
 have hrm:r∈s.records:=List.mem_of_find?_eq_some hfr
 have HTY:Hid (∀ f∈r.fields,Chk.okT s f.type=true∧f.type.length≤12):=Lib.hid (fun f hf=>Vl.right_okT (Vl.field_right hR hrm hf))
 have HFL:Hid (r.fields.length≤99):=Lib.hid (hF.re r hrm).2.1
 have HFI:=Lib.hid (cfind_any (.agg #[q0,q1,q2,q3]) s name (Vl.fine_small hF))
 rw [hfr] at HR HFI
 simp only [Option.getD_some] at HR HFI
 have HS:=Lib.hid hs
 unfold Cd.PartC at ih
 rw [show (12 - (k:Int))=(ar:Int)+1 by omega] at ih
 have HIH:=Lib.hid ih
 have hwa:IntKind.i64.wrap ((ar:Int)+1)=(ar:Int)+1:=by rw [IntKind.wrap_i64];omega
 have HRD:=Lib.hid hr
 have HX:=Lib.hid hx
 obtain ⟨p,v,z⟩:=x
 obtain ⟨rn,rc,rf⟩:=r
 simp only at HTY HFL HX
 obtain ⟨⟨c0,c1,c2,c3,c4,c5,c6,c7⟩,-⟩:=hr.box.k8
 clear hs ih hr hx hfr hrm hn hF hR
 go_enter Tryz.func110,Tryz.ntmps110
 go_wp2_with fail
 refine (HFI.out _ (Id.SchV.below HRD.out.bel HS.out)).mono ?_
 rintro e W1 ⟨u0,rfl,hb,u,rfl,hu⟩
 have HR1:=Lib.hid (HRD.out.below hb)
 have HO1:Hid (Cd.OnlyB w0.heap.size g w W1):=Lib.hid (Cd.OnlyB.below hb)
 have HU1:=Lib.hid hu
 obtain ⟨A9,n9,c9,rfl⟩:=ERow.is hu
 have HN9:Hid (n9=rf.length):=Lib.hid (by obtain ⟨_,_,e,_⟩:=ERow.slice hu;injection e)
 clear hb hu HRD c0 c1 c2 c3 c4 c5 c6 c7
 have hgW:g<W1.heap.size:=HR1.out.box.lt
 go_upto_region 1 with (fail)
 refine wp_named (fun V hV=>?_)
 obtain ⟨hb,hq,hVs⟩:=fresh_box hV
 clear hV
 have HR2:=Lib.hid (HR1.out.below hb)
 have HO2:=Lib.hid (HO1.out.trans (Cd.OnlyB.below hb))
 have HU2:Hid (Id.FldsR V (some w.heap.size) (.slice A9 n9 c9) rf):=Lib.hid (ERow.below HU1.out hb (Id.FldE.below hb))
 have HQ2:=Lib.hid hq
 obtain ⟨xb,hxb⟩:∃ xb,W1.heap.size=xb:=⟨_,rfl⟩
 rw [hxb] at HQ2 hgW ⊢
 have hne:xb≠g:=by omega
 have hn99:n9≤99:=by rw [HN9.out];exact HFL.out
 clear hb hq hVs HR1 HO1 HU1 hxb
 obtain ⟨⟨x0,x1,x2⟩,-⟩:=HQ2.out.k3
 cases rc
 case true =>
  have HRC:Hid (Cd.goD (Cd.decF s bb.data.toList k) (Cd.decC ⟨rn,true,rf⟩ bb.data.toList ⟨p,v,z⟩)=R):=Lib.hid HR.out
  clear HR
  go_wp2_with fail
  refine (cnumber_any q0 q1 q2 q3 bb w0 V g ⟨p,v,z⟩ vv hbb HR2.out).mono ?_
  obtain ⟨O,HO⟩:∃ O,Hid (Cd.num bb.data.toList p=O):=⟨_,Lib.hid rfl⟩
  try simp only
  rw [HO.out]
  clear x0 x1 x2
  cases O with
  | error pe =>
   have HE:Hid (R=.error pe):=Lib.hid (by rw [←HRC.out];unfold Cd.decC;simp only;rw [HO.out];rfl)
   obtain rfl:=HE.out
   rintro e w1 ⟨rfl,hb1⟩
   (unfold Cd.pan;go_wp2_with fail;exact ⟨rfl,rfl,hb1⟩)
  | ok q =>
   obtain ⟨n,q'⟩:=q
   rintro e w1 ⟨rfl,hg1,hr1⟩
   simp only at hr1 ⊢
   have hn64:=(Cd.num_ok HO.out).1
   have HRR:Hid (Cd.goD (Cd.decF s bb.data.toList k) (if rf.length≤n then .error (p,162) else .ok ([(rf.map (·.type)).getD n []],⟨q',v++[⟨8,n,Cd.E0,1⟩],z⟩))=R):=Lib.hid (by rw [←HRC.out];unfold Cd.decC;simp only;rw [HO.out];rfl)
   have HR3:=Lib.hid hr1
   have HO3:=Lib.hid (HO2.out.trans (Cd.OnlyB.gb hg1))
   have HU3:Hid (Id.FldsR w1 (some w.heap.size) (.slice A9 n9 c9) rf):=Lib.hid (Cd.flds_only HU2.out (Cd.OnlyB.gb (B:=w0.heap.size) hg1) HR2.out.box)
   have HQ3:=Lib.hid (HQ2.out.grown hg1 (by intro e;injection e with e;exact hne e))
   clear hr1 hg1 HRC HR2 HO2 HU2 HQ2 HO
   obtain ⟨⟨x0,x1,x2⟩,-⟩:=HQ3.out.k3
   have hw9:IntKind.u64.wrap (n9:Int)=(n9:Int):=by rw [IntKind.wrap_u64];omega
   by_cases hlt:n<n9
   case neg =>
    have HE:Hid (R=.error (p,162)):=Lib.hid (by rw [←HRR.out,if_pos (by rw [←HN9.out];omega)];rfl)
    obtain rfl:=HE.out
    have h1:(n9:Int)≤(n:Int):=by omega
    have h2:n9≤n:=by omega
    go_wp2_with fail
    refine (cfail_any p 162 _).mono ?_
    rintro e w2 ⟨rfl,rfl⟩
    (unfold Cd.pan;go_wp2_with fail;exact ⟨rfl,rfl,HR3.out.bel⟩)
   have hnl:n<rf.length:=by rw [←HN9.out];exact hlt
   have HRD:Hid (Cd.manyD (Cd.decF s bb.data.toList k) [rf[n].type] ⟨q',v++[⟨8,n,Cd.E0,1⟩],z⟩=R):=Lib.hid (by
    rw [←HRR.out,if_neg (by omega),List.getD_eq_getElem?_getD,List.getElem?_map,List.getElem?_eq_getElem hnl]
    rfl)
   have HTN:=Lib.hid (HTY.out rf[n] (List.getElem_mem hnl))
   have h1:¬(n9:Int)≤(n:Int):=by omega
   have h2:¬n9≤n:=by omega
   have hwn:IntKind.i64.wrap (n:Int)=(n:Int):=by rw [IntKind.wrap_i64];omega
   clear HRR hn64
   obtain ⟨⟨c0,c1,c2,c3,c4,c5,c6,c7⟩,f0,f1,f2,f3,f4,f5,f6,f7⟩:=Bk.k8 HR3.out.box
   go_upto_region 6 with (at_builtin;refine wpList_append_el rfl _ _ _ rfl w0.heap.size 71 _ 4 40 Tryz.underlying23 Cd.info_nd rfl (by decide) Vl.NodE vv v rfl HR3.out.row [.int .u8 8,.int .i64 n,.string ⟨#[]⟩,.int .i64 1] rfl _ rfl rfl (by simp [Value.oneCell']) (by unfold maxLen;have:=HX.out;omega) (by have:=HX.out;omega) HR3.out.bel.size ?_;intro v' w2 hrow hb3 ho3;have hrow1:=hrow ⟨8,n,Cd.E0,1⟩ (fun _ _ h=>h) rfl;clear hrow;obtain ⟨A6,n6,c6',rfl⟩:=ERow.is hrow1;clear c0 c1 c2 c3 c4 c5 c6 c7 f0 f1 f2 f3 f4 f5 f6 f7 x0 x1 x2;obtain ⟨⟨c0,c1,c2,c3,c4,c5,c6,c7⟩,f0,f1,f2,f3,f4,f5,f6,f7⟩:=Bk.k8 (ho3.bk HR3.out.box (by decide)))
   refine wp_named (fun W4 hW4=>?_)
   have hr4:Cd.Rdr q0 q1 q2 q3 bb w0 W4 g ⟨q',v++[⟨8,n,Cd.E0,1⟩],z⟩ (.slice A6 n6 c6'):=by
    rw [hW4]
    exact HR3.out.row_ (v':=.slice A6 n6 c6') hb3 ho3 hrow1 (by rw [List.length_append];have:=HX.out;simp only [List.length_cons,List.length_nil];omega)
   have hk4:Cd.OnlyB w0.heap.size g w1 W4:=by
    rw [hW4]
    exact (Cd.OnlyB.only hb3 ho3).trans (Cd.OnlyB.gb (gb_set (gb_refl _ _) (.inl rfl) _))
   clear hW4 hrow1 hb3 ho3 c0 c1 c2 c3 c4 c5 c6 c7 f0 f1 f2 f3 f4 f5 f6 f7
   have HR4:=Lib.hid hr4
   have HO4:=Lib.hid (HO3.out.trans hk4)
   have HQ4:=Lib.hid (hk4.bk HQ3.out hne (by decide))
   have HU4:=Lib.hid (Cd.flds_only HU3.out hk4 HR3.out.box)
   clear hr4 hk4 HO3 HQ3 HU3 HR3
   obtain ⟨⟨x0,x1,x2⟩,-⟩:=HQ4.out.k3
   obtain ⟨g7,off7,cs,rfl,-,⟨u',e1,hsu⟩,hc⟩:=ERow.get HU4.out hnl (by omega)
   subst e1
   obtain ⟨A5,n5,c5',rfl⟩:=ERow.is hsu
   have a0:=hc 0 _ rfl
   have a1:=hc 1 _ rfl
   have HST:=Lib.hid (Cd.Sts.own (B:=w0.heap.size) hsu HR4.out.box)
   have hn0:(0:Int)≤(n:Int):=by omega
   have hnn:(n:Int)<(n9:Int):=by omega
   clear hc hsu
   go_wp2_with fail
   refine (HIH.out _ rf[n].type ⟨q',v++[⟨8,n,Cd.E0,1⟩],z⟩ _ W4 HTN.out.1 HTN.out.2 HR4.out HST.out).mono ?_
   obtain ⟨D,HD⟩:∃ D,Hid (Cd.decF s bb.data.toList k rf[n].type ⟨q',v++[⟨8,n,Cd.E0,1⟩],z⟩=D):=⟨_,Lib.hid rfl⟩
   rw [HD.out]
   clear a0 a1 x0 x1 x2
   cases D with
   | error pe =>
    have HE:Hid (R=.error pe):=Lib.hid (by rw [←HRD.out];exact Cd.manyD_err HD.out)
    obtain rfl:=HE.out
    rintro e w5 ⟨rfl,hb5⟩
    (unfold Cd.pan;go_wp2_with fail;exact ⟨rfl,rfl,hb5⟩)
   | ok y =>
    have HE:Hid (R=.ok y):=Lib.hid (by rw [←HRD.out,Cd.manyD_go HD.out];rfl)
    obtain rfl:=HE.out
    rintro e w5 ⟨rfl,hp5⟩
    go_wp2_with fail
    refine bodyPost_ret (results_none rfl _ _ _) rfl ?_
    exact ⟨rfl,HO4.out.trans hp5.only,hp5.rdr⟩
 case false =>
  have HRC:Hid (Cd.manyD (Cd.decF s bb.data.toList k) (rf.map (·.type)) ⟨p,v++[⟨7,0,Cd.E0,n9⟩],z⟩=R):=Lib.hid (by rw [←HR.out,HN9.out];rfl)
  have HVO:Hid (∀ k,vv.ownBlock=some k→k<V.heap.size):=Lib.hid (Cd.own_lt HR2.out.row)
  clear HR
  go_upto_region 7 with (fail)
  refine wp_region_L_calm (fun w'=>Bk w' xb 42 #[.string rn,.bool false,.slice A9 n9 c9]∧Bk w' g 97 #[q0,q1,q2,q3,.string bb,.int .i64 (p:Nat),vv,.int .i64 (z:Nat)]) [13] (by kernel_rfl) ⟨HQ2.out.drew,HR2.out.box.drew⟩ (fun hHeld=>?_)
  have hr2:=HR2.out.drew
  have hk2:Cd.OnlyB w0.heap.size g V V.drew:=Cd.OnlyB.below ((Below.refl _ _).drew)
  have hu2:=Cd.flds_only HU2.out hk2 HR2.out.box
  have ho2:=HO2.out.trans hk2
  have hvs:V.heap.size≤V.drew.heap.size:=hk2.size
  clear HR2 HO2 HU2 HQ2 x0 x1 x2 hk2
  generalize V.drew=X at *
  have HR2:=Lib.hid hr2
  have HO2:=Lib.hid ho2
  have HU2:=Lib.hid hu2
  clear hr2 hu2 ho2
  (refine wpAnyL_take0 0 (v:=?_) rfl (by kernel_rfl) (by kernel_rfl) (by kernel_rfl) (by kernel_rfl) (fun _ _ _ h=>h) (fun _=>by assumption) (by rfl) ?_ ?_;rotate_left;· (intro w;go_simp;try with_reducible rfl);try simp only [Act.put,List.setIfInBounds_toArray,List.set_cons_zero,List.set_cons_succ])
  (refine wpAnyL_take0 1 (v:=?_) rfl (by kernel_rfl) (by kernel_rfl) (by kernel_rfl) (by kernel_rfl) (fun _ _ _ h=>h) (fun _=>by assumption) (by rfl) ?_ ?_;rotate_left;· (intro w;go_simp;try with_reducible rfl);try simp only [Act.put,List.setIfInBounds_toArray,List.set_cons_zero,List.set_cons_succ])
  (refine wpAnyL_take0 2 (v:=?_) rfl (by kernel_rfl) (by kernel_rfl) (by kernel_rfl) (by kernel_rfl) (fun _ _ _ h=>h) (fun _=>by assumption) (by rfl) ?_ ?_;rotate_left;· (intro w;go_simp;try with_reducible rfl);try simp only [Act.put,List.setIfInBounds_toArray,List.set_cons_zero,List.set_cons_succ])
  (refine wpAnyL_take0 3 (v:=?_) rfl (by kernel_rfl) (by kernel_rfl) (by kernel_rfl) (by kernel_rfl) (fun _ _ _ h=>h) (fun _=>by assumption) (by rfl) ?_ ?_;rotate_left;· (intro w;go_simp;try with_reducible rfl);try simp only [Act.put,List.setIfInBounds_toArray,List.set_cons_zero,List.set_cons_succ])
  (refine Lst.takeM 13 4 (v:=?_) rfl (by kernel_rfl) (by kernel_rfl) (by kernel_rfl) (by kernel_rfl) (by kernel_rfl) (by kernel_rfl) (fun _ _ _ h=>h) (by assumption) (by rfl) ?_ ?_;rotate_left;· (intro w hSw;obtain ⟨e0,e1,e2,e3,e4,e5,e6,e7⟩:=(Bk.k8 hSw.2).1;go_simp;try with_reducible rfl);try simp only [Act.put,List.setIfInBounds_toArray,List.set_cons_zero,List.set_cons_succ])
  (refine wpAnyL_take0 5 (v:=?_) rfl (by kernel_rfl) (by kernel_rfl) (by kernel_rfl) (by kernel_rfl) (fun _ _ _ h=>h) (fun _=>by assumption) (by rfl) ?_ ?_;rotate_left;· (intro w;go_simp;try with_reducible rfl);try simp only [Act.put,List.setIfInBounds_toArray,List.set_cons_zero,List.set_cons_succ])
  (refine Lst.takeM 13 6 (v:=?_) rfl (by kernel_rfl) (by kernel_rfl) (by kernel_rfl) (by kernel_rfl) (by kernel_rfl) (by kernel_rfl) (fun _ _ _ h=>h) (by assumption) (by rfl) ?_ ?_;rotate_left;· (intro w hSw;obtain ⟨e0,e1,e2⟩:=(Bk.k3 hSw.1).1;go_simp;try with_reducible rfl);try simp only [Act.put,List.setIfInBounds_toArray,List.set_cons_zero,List.set_cons_succ])
  (refine wpAnyL_take0 7 (v:=?_) rfl (by kernel_rfl) (by kernel_rfl) (by kernel_rfl) (by kernel_rfl) (fun _ _ _ h=>h) (fun _=>by assumption) (by rfl) ?_ ?_;rotate_left;· (intro w;go_simp;try with_reducible rfl);try simp only [Act.put,List.setIfInBounds_toArray,List.set_cons_zero,List.set_cons_succ])
  (refine wpAnyL_take0 8 (v:=?_) rfl (by kernel_rfl) (by kernel_rfl) (by kernel_rfl) (by kernel_rfl) (fun _ _ _ h=>h) (fun _=>by assumption) (by rfl) ?_ ?_;rotate_left;· (intro w;go_simp;try with_reducible rfl);try simp only [Act.put,List.setIfInBounds_toArray,List.set_cons_zero,List.set_cons_succ])
  have HH:=Lib.hid hHeld
  clear hHeld
  (refine wpAnyL_step 9 (by kernel_rfl) rfl (fun K hK=>?_))
  go_simp
  have hB:Below X.heap.size X (X.alloc (.cells #[.int .u8 7,.int .i64 0,.string ⟨#[]⟩,.int .i64 n9] 71)):=(Below.refl _ _).alloc (Nat.le_refl _) _
  have hq:Bk (X.alloc (.cells #[.int .u8 7,.int .i64 0,.string ⟨#[]⟩,.int .i64 n9] 71)) X.heap.size 71 #[.int .u8 7,.int .i64 0,.string ⟨#[]⟩,.int .i64 n9]:=Bk.new X _ _
  have HR3:=Lib.hid (HR2.out.below hB)
  have HO3:=Lib.hid (HO2.out.trans (Cd.OnlyB.below hB))
  have HU3:=Lib.hid (Cd.flds_only HU2.out (Cd.OnlyB.below (B:=w0.heap.size) (g:=g) hB) HR2.out.box)
  have HH3:=Lib.hid (And.intro (HH.out.1.below hB HH.out.1.lt) (HH.out.2.below hB HH.out.2.lt))
  have HQ:=Lib.hid hq
  generalize X.alloc (.cells #[.int .u8 7,.int .i64 0,.string ⟨#[]⟩,.int .i64 n9] 71)=Y at *
  clear hB hq HR2 HO2 HU2 HH
  (refine hK.out _ _ (fun hnn=>HH3.out) ?_;clear hK K;try simp only [Act.put,List.setIfInBounds_toArray,List.set_cons_zero,List.set_cons_succ])
  (refine wpAnyL_step 10 (by kernel_rfl) rfl (fun K hK=>?_))
  refine step_append_elG rfl _ _ _ rfl w0.heap.size 71 _ 4 40 Tryz.underlying23 Cd.info_nd rfl (by decide) Vl.NodE vv v rfl HR3.out.row [.int .u8 7,.int .i64 0,.string ⟨#[]⟩,.int .i64 n9] rfl X.heap.size rfl HQ.out (by simp [Value.oneCell']) (by unfold maxLen;have:=HX.out;omega) (by have:=HX.out;omega) HR3.out.bel.size ?_
  intro A6 n6 c6 Z hrow hb3 ho3 hg3
  have hHeld:=And.intro (ho3.bk HH3.out.1 (by decide)) (ho3.bk HH3.out.2 (by decide))
  have hR4:=HR3.out.row_ (l:=v++[(⟨7,0,Cd.E0,n9⟩:Vl.Node)]) (v':=.slice A6 n6 c6) hb3 ho3 (show Vl.ValR Z (some w0.heap.size) (.slice A6 n6 c6) (v++[(⟨7,0,Cd.E0,n9⟩:Vl.Node)]) from hrow (⟨7,0,Cd.E0,n9⟩:Vl.Node) (fun _ _ h=>h) rfl) (by rw [List.length_append];have:=HX.out;simp only [List.length_cons,List.length_nil];omega)
  have hK4:Cd.OnlyB w0.heap.size g Y (Z.setCell ⟨g,6,none⟩ (.slice A6 n6 c6)):=(Cd.OnlyB.only hb3 ho3).trans (Cd.OnlyB.gb (gb_set (gb_refl _ _) (.inl rfl) _))
  have HR4:=Lib.hid hR4
  have HO4:=Lib.hid (HO3.out.trans hK4)
  have HU4:=Lib.hid (Cd.flds_only HU3.out hK4 HR3.out.box)
  have HQ4:=Lib.hid (hK4.bk HH3.out.1 hne (by decide))
  clear hR4 hK4 hrow hb3 ho3 hg3 HR3 HO3 HU3 HH3 HQ
  (refine hK.out _ _ (fun hnn=>hHeld) ?_;clear hK K;try simp only [Act.put,List.setIfInBounds_toArray,List.set_cons_zero,List.set_cons_succ])
  (refine wpAnyL_take0 11 (v:=?_) rfl (by kernel_rfl) (by kernel_rfl) (by kernel_rfl) (by kernel_rfl) (fun _ _ _ h=>h) (fun _=>by assumption) (by rfl) ?_ ?_;rotate_left;· (intro w;go_simp;try with_reducible rfl);try simp only [Act.put,List.setIfInBounds_toArray,List.set_cons_zero,List.set_cons_succ])
  (refine wpAnyL_take0 12 (v:=?_) rfl (by kernel_rfl) (by kernel_rfl) (by kernel_rfl) (by kernel_rfl) (fun _ _ _ h=>h) (fun _=>by assumption) (by rfl) ?_ ?_;rotate_left;· (intro w;go_simp;try with_reducible rfl);try simp only [Act.put,List.setIfInBounds_toArray,List.set_cons_zero,List.set_cons_succ])
  obtain ⟨⟨d0,d1,d2,d3,d4,d5,d6,d7⟩,f0,f1,f2,f3,f4,f5,f6,f7⟩:=(Bk.k8 hHeld.2)
  (refine wpAnyL_step 13 (by kernel_rfl) rfl (fun K hK=>?_))
  go_simp
  (refine hK.out _ _ (fun hnn=>absurd hnn (by decide)) ?_;clear hK K;try simp only [Act.put,List.setIfInBounds_toArray,List.set_cons_zero,List.set_cons_succ])
  refine wpAnyL_done (by kernel_rfl) ?_ _
  refine NoPanic.normal ?_
  clear d0 d1 d2 d3 d4 d5 d6 d7 f0 f1 f2 f3 f4 f5 f6 f7 hHeld
  generalize Z.setCell ⟨g,6,none⟩ (.slice A6 n6 c6)=W5 at *
  obtain ⟨⟨x0,x1,x2⟩,-⟩:=HQ4.out.k3
  go_wp2_with fail
  go_loopw [72] (fun i wr=>∃ (j:Nat) (y:Cd.S) (v2:Value),j≤n9∧i=.int .i64 j∧Hid (Cd.manyD (Cd.decF s bb.data.toList k) ((rf.drop j).map (·.type)) y=R)∧Hid (Cd.OnlyB w0.heap.size g w wr)∧Hid (Cd.Rdr q0 q1 q2 q3 bb w0 wr g y v2)∧Hid (Id.FldsR wr (some w.heap.size) (.slice A9 n9 c9) rf)) (fun i _=>n9 - (intOf i).toNat)
  case atStart=>exact ⟨0,_,_,by omega,rfl,HRC,HO4,HR4,HU4⟩
  case round =>
   obtain ⟨j,y,v2,hj,rfl,HRJ,HOJ,HRR,HUJ⟩:=hrel
   obtain ⟨W,rfl⟩:∃ w',w'=wr:=⟨_,rfl⟩
   clear x0 x1 x2 HQ4
   by_cases hlt:j<n9
   case neg =>
    have HE:Hid (R=.ok y):=Lib.hid (by rw [←HRJ.out,List.drop_of_length_le (by rw [←HN9.out];omega)];rfl)
    obtain rfl:=HE.out
    have h1:¬(j:Int)<(n9:Int):=by omega
    go_wp2_with fail
    refine bodyPost_end (results_none rfl _ _ _) rfl ?_
    exact ⟨rfl,HOJ.out,_,HRR.out⟩
   have hjl:j<rf.length:=by rw [←HN9.out];exact hlt
   have h1:(j:Int)<(n9:Int):=by omega
   have h0:(0:Int)≤(j:Int):=by omega
   have HRD:Hid (Cd.manyD (Cd.decF s bb.data.toList k) (rf[j].type::(rf.drop (j+1)).map (·.type)) y=R):=Lib.hid (by rw [←HRJ.out,List.drop_eq_getElem_cons hjl];rfl)
   have HTN:=Lib.hid (HTY.out rf[j] (List.getElem_mem hjl))
   obtain ⟨g7,off7,cs,rfl,-,⟨u',e1,hsu⟩,hc⟩:=ERow.get HUJ.out hjl (by omega)
   subst e1
   obtain ⟨A5,n5,c5',rfl⟩:=ERow.is hsu
   have a0:=hc 0 _ rfl
   have a1:=hc 1 _ rfl
   simp only [Nat.add_zero] at a0
   have HSU:=Lib.hid hsu
   clear hc hsu
   go_upto_region 11 with (fail)
   refine wp_named (fun W6 hW6=>?_)
   obtain ⟨hb,hq,-⟩:=fresh_box hW6
   clear hW6
   have HR6:=Lib.hid (HRR.out.below hb)
   have HO6:=Lib.hid (HOJ.out.trans (Cd.OnlyB.below hb))
   have HU6:=Lib.hid (Cd.flds_only HUJ.out (Cd.OnlyB.below (B:=w0.heap.size) (g:=g) hb) HRR.out.box)
   have HST:=Lib.hid (Cd.Sts.own (B:=w0.heap.size) (g:=g) (ERow.below HSU.out hb (fun _ _ h=>h)) HR6.out.box)
   obtain ⟨⟨x0,x1⟩,-⟩:=hq.k2
   clear hb hq a0 a1
   go_wp2_with fail
   refine (HIH.out _ rf[j].type y v2 W6 HTN.out.1 HTN.out.2 HR6.out HST.out).mono ?_
   obtain ⟨D,HD⟩:∃ D,Hid (Cd.decF s bb.data.toList k rf[j].type y=D):=⟨_,Lib.hid rfl⟩
   rw [HD.out]
   clear x0 x1
   cases D with
   | error pe =>
    have HE:Hid (R=.error pe):=Lib.hid (by rw [←HRD.out];exact Cd.manyD_err HD.out)
    obtain rfl:=HE.out
    rintro e w7 ⟨rfl,hb7⟩
    (unfold Cd.pan;go_wp2_with fail;exact ⟨rfl,rfl,hb7⟩)
   | ok y2 =>
    have HE:Hid (Cd.manyD (Cd.decF s bb.data.toList k) ((rf.drop (j+1)).map (·.type)) y2=R):=Lib.hid (by rw [←HRD.out,Cd.manyD_go HD.out])
    rintro e w7 ⟨rfl,hp7⟩
    have HP7:=Lib.hid hp7
    clear hp7
    go_wp2_with fail
    go_roundw
    case rel =>
     obtain ⟨v3,hr7⟩:=HP7.out.rdr
     exact ⟨j+1,y2,v3,by omega,by go_num,HE,Lib.hid (HO6.out.trans HP7.out.only),Lib.hid hr7,Lib.hid (Cd.flds_only HU6.out HP7.out.only HR6.out.box)⟩
    case measure=>simp [intOf];omega
end
end Go.Proofs.YtjfdohhdkdjifaaGreatDoor
