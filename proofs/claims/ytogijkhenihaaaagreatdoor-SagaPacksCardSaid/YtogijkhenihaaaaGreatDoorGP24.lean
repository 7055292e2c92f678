/- codec's reader: named, given part. No condition but the ones the theorems state. -/
import Derived.Test.YtogijkhenihaaaaGreatDoorGP23
set_option linter.unusedVariables false
set_option linter.unusedSimpArgs false
namespace Go.Proofs.YtogijkhenihaaaaGreatDoor
open Go.RowKit Go.BigFrame
namespace Cd
open Go.Proofs.YtogijkhenihaaaaGreatDoor.Id Go.Proofs.YtogijkhenihaaaaGreatDoor.Chk Go.Proofs.YtogijkhenihaaaaGreatDoor.Vl Go.Proofs.YtogijkhenihaaaaGreatDoor.Ev
/-- What reading the value of a type leaves. -/
def EndP (q0 q1 q2 q3:Value) (bb:ByteArray) (w0 w:World) (g:Nat) (R:Rs S) (e:Ending) (w':World):Prop:=match R with
 | .ok y=>e=.returned (.tuple #[])∧PutP q0 q1 q2 q3 bb w0 w g y w'
 | .error p=>e=pan p.1 p.2∧Below w0.heap.size w0 w'
def PartC (s:Sch) (q0 q1 q2 q3:Value) (bb:ByteArray) (w0:World) (g k:Nat):Prop:=∀ (tv:Value) (t:List Srt) (x:S) (vv:Value) (w:World),okT s t=true→t.length≤12→Rdr q0 q1 q2 q3 bb w0 w g x vv→Sts w0.heap.size g w tv t →
 Calls Tryz.prog 60 #[.pointer (some ⟨g,0,none⟩),tv,.int .i64 (12 - (k:Int))] w fun e w'=>EndP q0 q1 q2 q3 bb w0 w g (decF s bb.data.toList k t x) e w'
def decN (r:Rec) (b:List UInt8) (x:S):Rs (List (List Srt) × S):=if r.choice=true then decC r b x else .ok (r.fields.map (·.type),x.put x.at_ ⟨7,0,E0,r.fields.length⟩ 0)
theorem EndP.on {q0 q1 q2 q3:Value} {bb:ByteArray} {w0 w w1 w':World} {g:Nat} {R:Rs S} {e:Ending} (h:EndP q0 q1 q2 q3 bb w0 w1 g R e w') (k:OnlyB w0.heap.size g w w1):EndP q0 q1 q2 q3 bb w0 w g R e w':=by
 unfold EndP at *
 cases R with
 | ok y=>exact ⟨h.1,k.trans h.2.only,h.2.rdr⟩
 | error p=>exact h
theorem manyD_go {f:List Srt→S→Rs S} {t:List Srt} {ts:List (List Srt)} {x y:S} (h:f t x=.ok y):manyD f (t::ts) x=manyD f ts y:=by
 rw [manyD,h]
theorem manyD_err {f:List Srt→S→Rs S} {t:List Srt} {ts:List (List Srt)} {x:S} {p:Nat × Nat} (h:f t x=.error p):manyD f (t::ts) x=.error p:=by
 rw [manyD,h]
end Cd
set_option maxRecDepth 100000 in
set_option maxHeartbeats 16000000 in
theorem cnamed_any (s:Id.Sch) (hF:Chk.Fine s) (hR:Chk.Right s) (q0 q1 q2 q3:Value) (bb:ByteArray) (hbb:bb.size≤1000000) (w0:World) (g k ar:Nat) (har:ar+k+1=12) (hs:Id.SchV w0 none (.agg #[q0,q1,q2,q3]) s) (ih:Cd.PartC s q0 q1 q2 q3 bb w0 g k)
  (name:ByteArray) (hn:(Chk.find s name).isSome=true) (x:Cd.S) (vv:Value) (w:World) (hx:x.v.length<4096) (hr:Cd.Rdr q0 q1 q2 q3 bb w0 w g x vv) :
  Calls Tryz.prog 127 #[.pointer (some ⟨g,0,none⟩),.int .i64 (x.at_:Nat),.string name,.int .i64 (ar:Nat)] w fun e w'=>Cd.EndP q0 q1 q2 q3 bb w0 w g (Cd.goD (Cd.decF s bb.data.toList k) (Cd.decN ((Chk.find s name).getD Chk.recZ) bb.data.toList x)) e w':=by
 obtain ⟨R,HR⟩:∃ R,Hid (Cd.goD (Cd.decF s bb.data.toList k) (Cd.decN ((Chk.find s name).getD Chk.recZ) bb.data.toList x)=R):=⟨_,Lib.hid rfl⟩
 rw [HR.out]
 obtain ⟨r,hfr⟩:=Option.isSome_iff_exists.1 hn
 have hrm:r∈s.records:=List.mem_of_find?_eq_some hfr
 have HTY:Hid (∀ f∈r.fields,Chk.okT s f.type=true∧f.type.length≤12):=Lib.hid (fun f hf=>Vl.right_okT (Vl.field_right hR hrm hf))
 have HFL:Hid (r.fields.length≤99):=Lib.hid (hF.re r hrm).2.1
 have HFI:=Lib.hid (cfind_any (.agg #[q0,q1,q2,q3]) s name (Vl.fine_small hF))
 rw [hfr] at HR HFI
 simp only [Option.getD_some] at HR HFI
 have HS:=Lib.hid hs
 unfold Cd.PartC at ih
 rw [show (12 - (k:Int))=(ar:Int)+1 by omega] at ih
 have HIH:=Lib.hid ih
 have hwa:IntKind.i64.wrap ((ar:Int)+1)=(ar:Int)+1:=by rw [IntKind.wrap_i64];omega
 have HRD:=Lib.hid hr
 have HX:=Lib.hid hx
 obtain ⟨p,v,z⟩:=x
 obtain ⟨rn,rc,rf⟩:=r
 simp only at HTY HFL HX
 obtain ⟨⟨c0,c1,c2,c3,c4,c5,c6,c7⟩,-⟩:=hr.box.k8
 clear hs ih hr hx hfr hrm hn hF hR
 go_enter Tryz.func127,Tryz.ntmps127
 go_wp2_with fail
 refine (HFI.out _ (Id.SchV.below HRD.out.bel HS.out)).mono ?_
 rintro e W1 ⟨u0,rfl,hb,u,rfl,hu⟩
 have HR1:=Lib.hid (HRD.out.below hb)
 have HO1:Hid (Cd.OnlyB w0.heap.size g w W1):=Lib.hid (Cd.OnlyB.below hb)
 have HU1:=Lib.hid hu
 obtain ⟨A9,n9,c9,rfl⟩:=ERow.is hu
 have HN9:Hid (n9=rf.length):=Lib.hid (by obtain ⟨_,_,e,_⟩:=ERow.slice hu;injection e)
 clear hb hu HRD c0 c1 c2 c3 c4 c5 c6 c7
 have hgW:g<W1.heap.size:=HR1.out.box.lt
 go_upto_region 1 with (fail)
 refine wp_named (fun V hV=>?_)
 obtain ⟨hb,hq,hVs⟩:=fresh_box hV
 clear hV
 have HR2:=Lib.hid (HR1.out.below hb)
 have HO2:=Lib.hid (HO1.out.trans (Cd.OnlyB.below hb))
 have HU2:Hid (Id.FldsR V (some w.heap.size) (.slice A9 n9 c9) rf):=Lib.hid (ERow.below HU1.out hb (Id.FldE.below hb))
 have HQ2:=Lib.hid hq
 obtain ⟨xb,hxb⟩:∃ xb,W1.heap.size=xb:=⟨_,rfl⟩
 rw [hxb] at HQ2 hgW ⊢
 have hne:xb≠g:=by omega
 have hn99:n9≤99:=by rw [HN9.out];exact HFL.out
 clear hb hq hVs HR1 HO1 HU1 hxb
 obtain ⟨⟨x0,x1,x2⟩,-⟩:=HQ2.out.k3
 cases rc
 case true =>
  have HRC:Hid (Cd.goD (Cd.decF s bb.data.toList k) (Cd.decC ⟨rn,true,rf⟩ bb.data.toList ⟨p,v,z⟩)=R):=Lib.hid HR.out
  clear HR
  go_wp2_with fail
  refine (cnumber_any q0 q1 q2 q3 bb w0 V g ⟨p,v,z⟩ vv hbb HR2.out).mono ?_
  obtain ⟨O,HO⟩:∃ O,Hid (Cd.num bb.data.toList p=O):=⟨_,Lib.hid rfl⟩
  try simp only
  rw [HO.out]
  clear x0 x1 x2
  cases O with
  | error pe =>
   have HE:Hid (R=.error pe):=Lib.hid (by rw [←HRC.out];unfold Cd.decC;simp only;rw [HO.out];rfl)
   obtain rfl:=HE.out
   rintro e w1 ⟨rfl,hb1⟩
   (unfold Cd.pan;go_wp2_with fail;exact ⟨rfl,rfl,hb1⟩)
  | ok q =>
   obtain ⟨n,q'⟩:=q
   rintro e w1 ⟨rfl,hg1,hr1⟩
   simp only at hr1 ⊢
   have hn64:=(Cd.num_ok HO.out).1
   have HRR:Hid (Cd.goD (Cd.decF s bb.data.toList k) (if rf.length≤n then .error (p,162) else .ok ([(rf.map (·.type)).getD n []],⟨q',v++[⟨8,n,Cd.E0,1⟩],z⟩))=R):=Lib.hid (by rw [←HRC.out];unfold Cd.decC;simp only;rw [HO.out];rfl)
   have HR3:=Lib.hid hr1
   have HO3:=Lib.hid (HO2.out.trans (Cd.OnlyB.gb hg1))
   have HU3:Hid (Id.FldsR w1 (some w.heap.size) (.slice A9 n9 c9) rf):=Lib.hid (Cd.flds_only HU2.out (Cd.OnlyB.gb (B:=w0.heap.size) hg1) HR2.out.box)
   have HQ3:=Lib.hid (HQ2.out.grown hg1 (by intro e;injection e with e;exact hne e))
   clear hr1 hg1 HRC HR2 HO2 HU2 HQ2 HO
   obtain ⟨⟨x0,x1,x2⟩,-⟩:=HQ3.out.k3
   have hw9:IntKind.u64.wrap (n9:Int)=(n9:Int):=by rw [IntKind.wrap_u64];omega
   by_cases hlt:n<n9
   case neg =>
    have HE:Hid (R=.error (p,162)):=Lib.hid (by rw [←HRR.out,if_pos (by rw [←HN9.out];omega)];rfl)
    obtain rfl:=HE.out
    have h1:(n9:Int)≤(n:Int):=by omega
    have h2:n9≤n:=by omega
    go_wp2_with fail
    refine (cfail_any p 162 _).mono ?_
    rintro e w2 ⟨rfl,rfl⟩
    (unfold Cd.pan;go_wp2_with fail;exact ⟨rfl,rfl,HR3.out.bel⟩)
   have hnl:n<rf.length:=by rw [←HN9.out];exact hlt
   have HRD:Hid (Cd.manyD (Cd.decF s bb.data.toList k) [rf[n].type] ⟨q',v++[⟨8,n,Cd.E0,1⟩],z⟩=R):=Lib.hid (by
    rw [←HRR.out,if_neg (by omega),List.getD_eq_getElem?_getD,List.getElem?_map,List.getElem?_eq_getElem hnl]
    rfl)
   have HTN:=Lib.hid (HTY.out rf[n] (List.getElem_mem hnl))
   have h1:¬(n9:Int)≤(n:Int):=by omega
   have h2:¬n9≤n:=by omega
   have hwn:IntKind.i64.wrap (n:Int)=(n:Int):=by rw [IntKind.wrap_i64];omega
   clear HRR hn64
   obtain ⟨⟨c0,c1,c2,c3,c4,c5,c6,c7⟩,f0,f1,f2,f3,f4,f5,f6,f7⟩:=Bk.k8 HR3.out.box
   go_upto_region 6 with (at_builtin;refine wpList_append_el rfl _ _ _ rfl w0.heap.size 92 _ 4 40 Tryz.underlying23 Cd.info_nd rfl (by decide) Vl.NodE vv v rfl HR3.out.row [.int .u8 8,.int .i64 n,.string ⟨#[]⟩,.int .i64 1] rfl _ rfl rfl (by simp [Value.oneCell']) (by unfold maxLen;have:=HX.out;omega) (by have:=HX.out;omega) HR3.out.bel.size ?_;intro v' w2 hrow hb3 ho3;have hrow1:=hrow ⟨8,n,Cd.E0,1⟩ (fun _ _ h=>h) rfl;clear hrow;obtain ⟨A6,n6,c6',rfl⟩:=ERow.is hrow1;clear c0 c1 c2 c3 c4 c5 c6 c7 f0 f1 f2 f3 f4 f5 f6 f7 x0 x1 x2;obtain ⟨⟨c0,c1,c2,c3,c4,c5,c6,c7⟩,f0,f1,f2,f3,f4,f5,f6,f7⟩:=Bk.k8 (ho3.bk HR3.out.box (by decide)))
   refine wp_named (fun W4 hW4=>?_)
   have hr4:Cd.Rdr q0 q1 q2 q3 bb w0 W4 g ⟨q',v++[⟨8,n,Cd.E0,1⟩],z⟩ (.slice A6 n6 c6'):=by
    rw [hW4]
    exact HR3.out.row_ (v':=.slice A6 n6 c6') hb3 ho3 hrow1 (by rw [List.length_append];have:=HX.out;simp only [List.length_cons,List.length_nil];omega)
   have hk4:Cd.OnlyB w0.heap.size g w1 W4:=by
    rw [hW4]
    exact (Cd.OnlyB.only hb3 ho3).trans (Cd.OnlyB.gb (gb_set (gb_refl _ _) (.inl rfl) _))
   clear hW4 hrow1 hb3 ho3 c0 c1 c2 c3 c4 c5 c6 c7 f0 f1 f2 f3 f4 f5 f6 f7
   have HR4:=Lib.hid hr4
   have HO4:=Lib.hid (HO3.out.trans hk4)
   have HQ4:=Lib.hid (hk4.bk HQ3.out hne (by decide))
   have HU4:=Lib.hid (Cd.flds_only HU3.out hk4 HR3.out.box)
   clear hr4 hk4 HO3 HQ3 HU3 HR3
   obtain ⟨⟨x0,x1,x2⟩,-⟩:=HQ4.out.k3
   obtain ⟨g7,off7,cs,rfl,-,⟨u',e1,hsu⟩,hc⟩:=ERow.get HU4.out hnl (by omega)
   subst e1
   obtain ⟨A5,n5,c5',rfl⟩:=ERow.is hsu
   have a0:=hc 0 _ rfl
   have a1:=hc 1 _ rfl
   have HST:=Lib.hid (Cd.Sts.own (B:=w0.heap.size) hsu HR4.out.box)
   have hn0:(0:Int)≤(n:Int):=by omega
   have hnn:(n:Int)<(n9:Int):=by omega
   clear hc hsu
   go_wp2_with fail
   refine (HIH.out _ rf[n].type ⟨q',v++[⟨8,n,Cd.E0,1⟩],z⟩ _ W4 HTN.out.1 HTN.out.2 HR4.out HST.out).mono ?_
   obtain ⟨D,HD⟩:∃ D,Hid (Cd.decF s bb.data.toList k rf[n].type ⟨q',v++[⟨8,n,Cd.E0,1⟩],z⟩=D):=⟨_,Lib.hid rfl⟩
   rw [HD.out]
   clear a0 a1 x0 x1 x2
   cases D with
   | error pe =>
    have HE:Hid (R=.error pe):=Lib.hid (by rw [←HRD.out];exact Cd.manyD_err HD.out)
    obtain rfl:=HE.out
    rintro e w5 ⟨rfl,hb5⟩
    (unfold Cd.pan;go_wp2_with fail;exact ⟨rfl,rfl,hb5⟩)
   | ok y =>
    have HE:Hid (R=.ok y):=Lib.hid (by rw [←HRD.out,Cd.manyD_go HD.out];rfl)
    obtain rfl:=HE.out
    rintro e w5 ⟨rfl,hp5⟩
    go_wp2_with fail
    refine bodyPost_ret (results_none rfl _ _ _) rfl ?_
    exact ⟨rfl,HO4.out.trans hp5.only,hp5.rdr⟩
 case false =>
  have HRC:Hid (Cd.manyD (Cd.decF s bb.data.toList k) (rf.map (·.type)) ⟨p,v++[⟨7,0,Cd.E0,n9⟩],z⟩=R):=Lib.hid (by rw [←HR.out,HN9.out];rfl)
  have HVO:Hid (∀ k,vv.ownBlock=some k→k<V.heap.size):=Lib.hid (Cd.own_lt HR2.out.row)
  clear HR
  go_upto_region 7 with (fail)
  refine wp_region_L_calm (fun w'=>Bk w' xb 42 #[.string rn,.bool false,.slice A9 n9 c9]∧Bk w' g 118 #[q0,q1,q2,q3,.string bb,.int .i64 (p:Nat),vv,.int .i64 (z:Nat)]) [13] (by kernel_rfl) ⟨HQ2.out.drew,HR2.out.box.drew⟩ (fun hHeld=>?_)
  have hr2:=HR2.out.drew
  have hk2:Cd.OnlyB w0.heap.size g V V.drew:=Cd.OnlyB.below ((Below.refl _ _).drew)
  have hu2:=Cd.flds_only HU2.out hk2 HR2.out.box
  have ho2:=HO2.out.trans hk2
  have hvs:V.heap.size≤V.drew.heap.size:=hk2.size
  clear HR2 HO2 HU2 HQ2 x0 x1 x2 hk2
  generalize V.drew=X at *
  have HR2:=Lib.hid hr2
  have HO2:=Lib.hid ho2
  have HU2:=Lib.hid hu2
  clear hr2 hu2 ho2
  (refine wpAnyL_take0 0 (v:=?_) rfl (by kernel_rfl) (by kernel_rfl) (by kernel_rfl) (by kernel_rfl) (fun _ _ _ h=>h) (fun _=>by assumption) (by rfl) ?_ ?_;rotate_left;· (intro w;go_simp;try with_reducible rfl);try simp only [Act.put,List.setIfInBounds_toArray,List.set_cons_zero,List.set_cons_succ])
  (refine wpAnyL_take0 1 (v:=?_) rfl (by kernel_rfl) (by kernel_rfl) (by kernel_rfl) (by kernel_rfl) (fun _ _ _ h=>h) (fun _=>by assumption) (by rfl) ?_ ?_;rotate_left;· (intro w;go_simp;try with_reducible rfl);try simp only [Act.put,List.setIfInBounds_toArray,List.set_cons_zero,List.set_cons_succ])
  (refine wpAnyL_take0 2 (v:=?_) rfl (by kernel_rfl) (by kernel_rfl) (by kernel_rfl) (by kernel_rfl) (fun _ _ _ h=>h) (fun _=>by assumption) (by rfl) ?_ ?_;rotate_left;· (intro w;go_simp;try with_reducible rfl);try simp only [Act.put,List.setIfInBounds_toArray,List.set_cons_zero,List.set_cons_succ])
  (refine wpAnyL_take0 3 (v:=?_) rfl (by kernel_rfl) (by kernel_rfl) (by kernel_rfl) (by kernel_rfl) (fun _ _ _ h=>h) (fun _=>by assumption) (by rfl) ?_ ?_;rotate_left;· (intro w;go_simp;try with_reducible rfl);try simp only [Act.put,List.setIfInBounds_toArray,List.set_cons_zero,List.set_cons_succ])
  (refine Lst.takeM 13 4 (v:=?_) rfl (by kernel_rfl) (by kernel_rfl) (by kernel_rfl) (by kernel_rfl) (by kernel_rfl) (by kernel_rfl) (fun _ _ _ h=>h) (by assumption) (by rfl) ?_ ?_;rotate_left;· (intro w hSw;obtain ⟨e0,e1,e2,e3,e4,e5,e6,e7⟩:=(Bk.k8 hSw.2).1;go_simp;try with_reducible rfl);try simp only [Act.put,List.setIfInBounds_toArray,List.set_cons_zero,List.set_cons_succ])
  (refine wpAnyL_take0 5 (v:=?_) rfl (by kernel_rfl) (by kernel_rfl) (by kernel_rfl) (by kernel_rfl) (fun _ _ _ h=>h) (fun _=>by assumption) (by rfl) ?_ ?_;rotate_left;· (intro w;go_simp;try with_reducible rfl);try simp only [Act.put,List.setIfInBounds_toArray,List.set_cons_zero,List.set_cons_succ])
  (refine Lst.takeM 13 6 (v:=?_) rfl (by kernel_rfl) (by kernel_rfl) (by kernel_rfl) (by kernel_rfl) (by kernel_rfl) (by kernel_rfl) (fun _ _ _ h=>h) (by assumption) (by rfl) ?_ ?_;rotate_left;· (intro w hSw;obtain ⟨e0,e1,e2⟩:=(Bk.k3 hSw.1).1;go_simp;try with_reducible rfl);try simp only [Act.put,List.setIfInBounds_toArray,List.set_cons_zero,List.set_cons_succ])
  (refine wpAnyL_take0 7 (v:=?_) rfl (by kernel_rfl) (by kernel_rfl) (by kernel_rfl) (by kernel_rfl) (fun _ _ _ h=>h) (fun _=>by assumption) (by rfl) ?_ ?_;rotate_left;· (intro w;go_simp;try with_reducible rfl);try simp only [Act.put,List.setIfInBounds_toArray,List.set_cons_zero,List.set_cons_succ])
  (refine wpAnyL_take0 8 (v:=?_) rfl (by kernel_rfl) (by kernel_rfl) (by kernel_rfl) (by kernel_rfl) (fun _ _ _ h=>h) (fun _=>by assumption) (by rfl) ?_ ?_;rotate_left;· (intro w;go_simp;try with_reducible rfl);try simp only [Act.put,List.setIfInBounds_toArray,List.set_cons_zero,List.set_cons_succ])
  have HH:=Lib.hid hHeld
  clear hHeld
  (refine wpAnyL_step 9 (by kernel_rfl) rfl (fun K hK=>?_))
  go_simp
  have hB:Below X.heap.size X (X.alloc (.cells #[.int .u8 7,.int .i64 0,.string ⟨#[]⟩,.int .i64 n9] 92)):=(Below.refl _ _).alloc (Nat.le_refl _) _
  have hq:Bk (X.alloc (.cells #[.int .u8 7,.int .i64 0,.string ⟨#[]⟩,.int .i64 n9] 92)) X.heap.size 92 #[.int .u8 7,.int .i64 0,.string ⟨#[]⟩,.int .i64 n9]:=Bk.new X _ _
  have HR3:=Lib.hid (HR2.out.below hB)
  have HO3:=Lib.hid (HO2.out.trans (Cd.OnlyB.below hB))
  have HU3:=Lib.hid (Cd.flds_only HU2.out (Cd.OnlyB.below (B:=w0.heap.size) (g:=g) hB) HR2.out.box)
  have HH3:=Lib.hid (And.intro (HH.out.1.below hB HH.out.1.lt) (HH.out.2.below hB HH.out.2.lt))
  have HQ:=Lib.hid hq
  generalize X.alloc (.cells #[.int .u8 7,.int .i64 0,.string ⟨#[]⟩,.int .i64 n9] 92)=Y at *
  clear hB hq HR2 HO2 HU2 HH
  (refine hK.out _ _ (fun hnn=>HH3.out) ?_;clear hK K;try simp only [Act.put,List.setIfInBounds_toArray,List.set_cons_zero,List.set_cons_succ])
  (refine wpAnyL_step 10 (by kernel_rfl) rfl (fun K hK=>?_))
  refine step_append_elG rfl _ _ _ rfl w0.heap.size 92 _ 4 40 Tryz.underlying23 Cd.info_nd rfl (by decide) Vl.NodE vv v rfl HR3.out.row [.int .u8 7,.int .i64 0,.string ⟨#[]⟩,.int .i64 n9] rfl X.heap.size rfl HQ.out (by simp [Value.oneCell']) (by unfold maxLen;have:=HX.out;omega) (by have:=HX.out;omega) HR3.out.bel.size ?_
  intro A6 n6 c6 Z hrow hb3 ho3 hg3
  have hHeld:=And.intro (ho3.bk HH3.out.1 (by decide)) (ho3.bk HH3.out.2 (by decide))
  have hR4:=HR3.out.row_ (l:=v++[(⟨7,0,Cd.E0,n9⟩:Vl.Node)]) (v':=.slice A6 n6 c6) hb3 ho3 (show Vl.ValR Z (some w0.heap.size) (.slice A6 n6 c6) (v++[(⟨7,0,Cd.E0,n9⟩:Vl.Node)]) from hrow (⟨7,0,Cd.E0,n9⟩:Vl.Node) (fun _ _ h=>h) rfl) (by rw [List.length_append];have:=HX.out;simp only [List.length_cons,List.length_nil];omega)
  have hK4:Cd.OnlyB w0.heap.size g Y (Z.setCell ⟨g,6,none⟩ (.slice A6 n6 c6)):=(Cd.OnlyB.only hb3 ho3).trans (Cd.OnlyB.gb (gb_set (gb_refl _ _) (.inl rfl) _))
  have HR4:=Lib.hid hR4
  have HO4:=Lib.hid (HO3.out.trans hK4)
  have HU4:=Lib.hid (Cd.flds_only HU3.out hK4 HR3.out.box)
  have HQ4:=Lib.hid (hK4.bk HH3.out.1 hne (by decide))
  clear hR4 hK4 hrow hb3 ho3 hg3 HR3 HO3 HU3 HH3 HQ
  (refine hK.out _ _ (fun hnn=>hHeld) ?_;clear hK K;try simp only [Act.put,List.setIfInBounds_toArray,List.set_cons_zero,List.set_cons_succ])
  (refine wpAnyL_take0 11 (v:=?_) rfl (by kernel_rfl) (by kernel_rfl) (by kernel_rfl) (by kernel_rfl) (fun _ _ _ h=>h) (fun _=>by assumption) (by rfl) ?_ ?_;rotate_left;· (intro w;go_simp;try with_reducible rfl);try simp only [Act.put,List.setIfInBounds_toArray,List.set_cons_zero,List.set_cons_succ])
  (refine wpAnyL_take0 12 (v:=?_) rfl (by kernel_rfl) (by kernel_rfl) (by kernel_rfl) (by kernel_rfl) (fun _ _ _ h=>h) (fun _=>by assumption) (by rfl) ?_ ?_;rotate_left;· (intro w;go_simp;try with_reducible rfl);try simp only [Act.put,List.setIfInBounds_toArray,List.set_cons_zero,List.set_cons_succ])
  obtain ⟨⟨d0,d1,d2,d3,d4,d5,d6,d7⟩,f0,f1,f2,f3,f4,f5,f6,f7⟩:=(Bk.k8 hHeld.2)
  (refine wpAnyL_step 13 (by kernel_rfl) rfl (fun K hK=>?_))
  go_simp
  (refine hK.out _ _ (fun hnn=>absurd hnn (by decide)) ?_;clear hK K;try simp only [Act.put,List.setIfInBounds_toArray,List.set_cons_zero,List.set_cons_succ])
  refine wpAnyL_done (by kernel_rfl) ?_ _
  refine NoPanic.normal ?_
  clear d0 d1 d2 d3 d4 d5 d6 d7 f0 f1 f2 f3 f4 f5 f6 f7 hHeld
  generalize Z.setCell ⟨g,6,none⟩ (.slice A6 n6 c6)=W5 at *
  obtain ⟨⟨x0,x1,x2⟩,-⟩:=HQ4.out.k3
  go_wp2_with fail
  go_loopw [72] (fun i wr=>∃ (j:Nat) (y:Cd.S) (v2:Value),j≤n9∧i=.int .i64 j∧Hid (Cd.manyD (Cd.decF s bb.data.toList k) ((rf.drop j).map (·.type)) y=R)∧Hid (Cd.OnlyB w0.heap.size g w wr)∧Hid (Cd.Rdr q0 q1 q2 q3 bb w0 wr g y v2)∧Hid (Id.FldsR wr (some w.heap.size) (.slice A9 n9 c9) rf)) (fun i _=>n9 - (intOf i).toNat)
  case atStart=>exact ⟨0,_,_,by omega,rfl,HRC,HO4,HR4,HU4⟩
  case round =>
   obtain ⟨j,y,v2,hj,rfl,HRJ,HOJ,HRR,HUJ⟩:=hrel
   obtain ⟨W,rfl⟩:∃ w',w'=wr:=⟨_,rfl⟩
   clear x0 x1 x2 HQ4
   by_cases hlt:j<n9
   case neg =>
    have HE:Hid (R=.ok y):=Lib.hid (by rw [←HRJ.out,List.drop_of_length_le (by rw [←HN9.out];omega)];rfl)
    obtain rfl:=HE.out
    have h1:¬(j:Int)<(n9:Int):=by omega
    go_wp2_with fail
    refine bodyPost_end (results_none rfl _ _ _) rfl ?_
    exact ⟨rfl,HOJ.out,_,HRR.out⟩
   have hjl:j<rf.length:=by rw [←HN9.out];exact hlt
   have h1:(j:Int)<(n9:Int):=by omega
   have h0:(0:Int)≤(j:Int):=by omega
   have HRD:Hid (Cd.manyD (Cd.decF s bb.data.toList k) (rf[j].type::(rf.drop (j+1)).map (·.type)) y=R):=Lib.hid (by rw [←HRJ.out,List.drop_eq_getElem_cons hjl];rfl)
   have HTN:=Lib.hid (HTY.out rf[j] (List.getElem_mem hjl))
   obtain ⟨g7,off7,cs,rfl,-,⟨u',e1,hsu⟩,hc⟩:=ERow.get HUJ.out hjl (by omega)
   subst e1
   obtain ⟨A5,n5,c5',rfl⟩:=ERow.is hsu
   have a0:=hc 0 _ rfl
   have a1:=hc 1 _ rfl
   simp only [Nat.add_zero] at a0
   have HSU:=Lib.hid hsu
   clear hc hsu
   go_upto_region 11 with (fail)
   refine wp_named (fun W6 hW6=>?_)
   obtain ⟨hb,hq,-⟩:=fresh_box hW6
   clear hW6
   have HR6:=Lib.hid (HRR.out.below hb)
   have HO6:=Lib.hid (HOJ.out.trans (Cd.OnlyB.below hb))
   have HU6:=Lib.hid (Cd.flds_only HUJ.out (Cd.OnlyB.below (B:=w0.heap.size) (g:=g) hb) HRR.out.box)
   have HST:=Lib.hid (Cd.Sts.own (B:=w0.heap.size) (g:=g) (ERow.below HSU.out hb (fun _ _ h=>h)) HR6.out.box)
   obtain ⟨⟨x0,x1⟩,-⟩:=hq.k2
   clear hb hq a0 a1
   go_wp2_with fail
   refine (HIH.out _ rf[j].type y v2 W6 HTN.out.1 HTN.out.2 HR6.out HST.out).mono ?_
   obtain ⟨D,HD⟩:∃ D,Hid (Cd.decF s bb.data.toList k rf[j].type y=D):=⟨_,Lib.hid rfl⟩
   rw [HD.out]
   clear x0 x1
   cases D with
   | error pe =>
    have HE:Hid (R=.error pe):=Lib.hid (by rw [←HRD.out];exact Cd.manyD_err HD.out)
    obtain rfl:=HE.out
    rintro e w7 ⟨rfl,hb7⟩
    (unfold Cd.pan;go_wp2_with fail;exact ⟨rfl,rfl,hb7⟩)
   | ok y2 =>
    have HE:Hid (Cd.manyD (Cd.decF s bb.data.toList k) ((rf.drop (j+1)).map (·.type)) y2=R):=Lib.hid (by rw [←HRD.out,Cd.manyD_go HD.out])
    rintro e w7 ⟨rfl,hp7⟩
    have HP7:=Lib.hid hp7
    clear hp7
    go_wp2_with fail
    go_roundw
    case rel =>
     obtain ⟨v3,hr7⟩:=HP7.out.rdr
     exact ⟨j+1,y2,v3,by omega,by go_num,HE,Lib.hid (HO6.out.trans HP7.out.only),Lib.hid hr7,Lib.hid (Cd.flds_only HU6.out HP7.out.only HR6.out.box)⟩
    case measure=>simp [intOf];omega
end Go.Proofs.YtogijkhenihaaaaGreatDoor
