/- redresslaw13: Shop, wakes. No condition. redresslaw13: wakes. No condition. redressref13: Find, Method, Saga (printed by gen_rfind.py). No condition. redresslaw13.Great: what it lets go through is Fine (printed by gen_great.py). No condition. A schema that comes in, opened to what lies there. No condition. (merged by merge.py: XChkQ XChkR XChkS XChkGr XChkT). No condition but the ones the theorems state. -/
import Derived.Test.YtogijkhenihaaaaGreatDoorGP15
import Derived.Test.YtogijkhenihaaaaGreatDoorGP11
import Derived.Test.YtogijkhenihaaaaGreatDoorGP06
import Derived.Test.YtogijkhenihaaaaGreatDoorGP01
import Derived.Test.YtogijkhenihaaaaGreatDoorGP05
import Derived.Test.YtogijkhenihaaaaGreatDoorGP16
import Derived.Lib.SmallJoins
set_option linter.unusedVariables false
set_option linter.unusedSimpArgs false
namespace Go.Proofs.YtogijkhenihaaaaGreatDoor
open Go.RowKit Go.BigFrame
namespace Chk
open Go.Proofs.YtogijkhenihaaaaGreatDoor.Id
def shopText:ByteArray:=⟨#[109,111,100,117,108,101,32,115,104,111,112,59,32,114,101,99,111,114,100,32,79,32,123,32,97,99,99,111,117,110,116,58,32,116,101,120,116,59,32,97,109,111,117,110,116,58,32,105,110,116,59,32,109,101,109,111,58,32,111,112,116,32,116,101,120,116,59,32,125,32,115,101,114,118,105,99,101,32,83,32,123,32,116,97,107,101,32,116,40,79,41,32,45,62,32,105,110,116,32,117,110,100,111,32,117,59,32,103,105,118,101,32,117,40,79,41,32,45,62,32,110,111,110,101,59,32,110,111,116,101,32,110,40,79,41,32,45,62,32,110,111,110,101,59,32,125,32,115,97,103,97,32,103,40,79,41,32,123,32,100,111,32,83,46,116,32,97,116,32,48,59,32,100,111,32,83,46,110,32,97,116,32,49,59,32,125]⟩
def shopR:List Rec:=[⟨⟨#[79]⟩,false,[⟨⟨#[97,99,99,111,117,110,116]⟩,[⟨4,⟨#[]⟩⟩]⟩,⟨⟨#[97,109,111,117,110,116]⟩,[⟨3,⟨#[]⟩⟩]⟩,⟨⟨#[109,101,109,111]⟩,[⟨6,⟨#[]⟩⟩,⟨4,⟨#[]⟩⟩]⟩]⟩]
def shopV:List Svc:=[⟨⟨#[83]⟩,[⟨⟨#[116]⟩,⟨#[79]⟩,3,⟨#[116,97,107,101]⟩,⟨#[117]⟩⟩,⟨⟨#[117]⟩,⟨#[79]⟩,1,⟨#[103,105,118,101]⟩,⟨#[]⟩⟩,⟨⟨#[110]⟩,⟨#[79]⟩,1,⟨#[110,111,116,101]⟩,⟨#[]⟩⟩]⟩]
def shopOf (m:ByteArray):Sch:=⟨⟨#[115,104,111,112]⟩,shopR,shopV,[⟨⟨#[103]⟩,⟨#[79]⟩,[⟨⟨#[83]⟩,m,0⟩,⟨⟨#[83]⟩,⟨#[110]⟩,1⟩]⟩]⟩
def shop:Sch:=shopOf ⟨#[116]⟩
theorem shop_parse:parse shopText=(shop,0,0):=by kernel_rfl
open Classical in
theorem val_of {rs:List Rec} {r:Rec} (hr:r∈rs) (hi:isR [] r=true):valB rs r.name=true:=by
 unfold valB
 rw [decide_eq_true_eq]
 exact Val.step hr (isP_mono (fun s hs=>by unfold inP at hs;simp at hs) (isR_iff.1 hi))
theorem shop_bottoms (m:ByteArray):run 132 (bottomsT (shopOf m)) none=none:=by
 have h:valB shopR ⟨#[79]⟩=true:=val_of (r:=shopR[0]) (by simp [shopR]) (by decide +kernel)
 unfold bottomsT bottomsR shopOf
 show run 132 [(valB shopR ⟨#[79]⟩,⟨#[79]⟩)] none=none
 rw [h]
 rfl
theorem shop_check:check shop=(⟨#[]⟩,0):=by
 unfold check flts
 rw [show run 132 (bottomsT shop) none=none from shop_bottoms _]
 rw [show run 120 (namesT shop) none=none by kernel_rfl,show run 135 (countsT shop) none=none by kernel_rfl,show run 130 (doublesT shop) none=none by kernel_rfl,show run 131 (typesT shop) none=none by kernel_rfl,show run 134 (effectsT shop) none=none by kernel_rfl,show run 133 (undosT shop) none=none by kernel_rfl,show run 240 (sagasT shop) none=none by kernel_rfl,show run 241 (stepsT shop) none=none by kernel_rfl,show run 133 (waysT shop) none=none by kernel_rfl]
 rfl
theorem shop_fine (m:ByteArray) (hm:m.size≤1000):Fine (shopOf m):=by
 refine ⟨(by decide:(4:Nat)≤1000),(by decide:(1:Nat)≤1000),(by decide:(1:Nat)≤1000),(by decide:(1:Nat)≤1000),?_,?_,?_⟩
 ·show ∀ r∈shopR,_
  unfold shopR
  simp
  decide
 ·show ∀ v∈shopV,_
  unfold shopV
  simp
  decide
 ·show ∀ g∈[_],_
  simp
  exact ⟨by decide,by decide,⟨by decide,hm⟩,by decide,by decide⟩
end Chk
set_option maxRecDepth 100000 in
set_option maxHeartbeats 8000000 in
theorem shop_any (w:World):Calls Tryz.prog 69 #[] w fun e w'=>∃ v,e=.returned v∧Below w.heap.size w w'∧Id.SchV w' (some w.heap.size) v Chk.shop:=by
 have hbl:=(Below.refl w.heap.size w).alloc (Nat.le_refl _) (.cells #[.string ⟨#[]⟩,.slice none 0 0,.slice none 0 0,.slice none 0 0] 28)
 have hq:=Bk.new w 28 #[.string ⟨#[]⟩,.slice none 0 0,.slice none 0 0,.slice none 0 0]
 go_enter Tryz.func69,Tryz.ntmps69
 go_wp2_with fail
 refine (rparse_any Chk.shopText (by decide) _).mono ?_
 rintro e w2 ⟨v,rfl,hb2,hsv⟩
 rw [Chk.shop_parse] at hsv ⊢
 have hB2:=Lib.hid (hbl.trans (hb2.mono (by simp)))
 have hq5:=hq.below hb2 hq.lt
 have HSV:=Lib.hid (Id.SchV.weak (Id.wk_le (by simp)) hsv:Id.SchV w2 (some w.heap.size) v Chk.shop)
 obtain ⟨A5,n5,c5,A6,n6,c6,A7,n7,c7,rfl,-⟩:=hsv
 have hlt5:=hq5.lt
 have hne:¬w2.heap.size=w.heap.size:=by omega
 have hne2:¬w.heap.size=w2.heap.size:=by omega
 clear hq hbl hb2
 have hsz:=hB2.out.size
 simp only
 go_upto_region 2 with (fail)
 refine wp_named (fun W3 hW3=>?_)
 obtain ⟨hb3,hq3,-⟩:=fresh_box hW3
 clear hW3
 have hB3:=Lib.hid (hB2.out.trans (hb3.mono hsz))
 have hq6:=hq5.below hb3 hq5.lt
 have HSV3:=Lib.hid (Id.SchV.below hb3 HSV.out)
 clear hb3 hq5
 obtain ⟨⟨q0,q1,q2,q3⟩,q4,q5,q6,q7⟩:=hq6.k4
 obtain ⟨⟨p0,p1,p2,p3⟩,-⟩:=hq3.k4
 go_wp2_with fail
 clear q0 q1 q2 q3 q4 q5 q6 q7 p0 p1 p2 p3
 have hqf:Bk _ w.heap.size 28 #[.string Chk.shop.name,.slice A5 n5 c5,.slice A6 n6 c6,.slice A7 n7 c7]:=((((hq6.set_ 0 (.string Chk.shop.name)).set_ 1 (.slice A5 n5 c5)).set_ 2 (.slice A6 n6 c6)).set_ 3 (.slice A7 n7 c7))
 have hBf:=((((hB3.out.setCell (p:=⟨w.heap.size,0,none⟩) (Nat.le_refl _) (.string Chk.shop.name)).setCell (p:=⟨w.heap.size,1,none⟩) (Nat.le_refl _) (.slice A5 n5 c5)).setCell (p:=⟨w.heap.size,2,none⟩) (Nat.le_refl _) (.slice A6 n6 c6)).setCell (p:=⟨w.heap.size,3,none⟩) (Nat.le_refl _) (.slice A7 n7 c7))
 have hsf:=HSV3.out.only ((((Only.set hq6 0 (.string Chk.shop.name)).trans (Only.set (hq6.set_ 0 (.string Chk.shop.name)) 1 (.slice A5 n5 c5))).trans (Only.set ((hq6.set_ 0 (.string Chk.shop.name)).set_ 1 (.slice A5 n5 c5)) 2 (.slice A6 n6 c6))).trans (Only.set (((hq6.set_ 0 (.string Chk.shop.name)).set_ 1 (.slice A5 n5 c5)).set_ 2 (.slice A6 n6 c6)) 3 (.slice A7 n7 c7))) (by decide)
 obtain ⟨⟨y0,y1,y2,y3⟩,-⟩:=hqf.k4
 refine bodyPost_ret (v:=.agg #[.string Chk.shop.name,.slice A5 n5 c5,.slice A6 n6 c6,.slice A7 n7 c7]) ?_ rfl ⟨_,rfl,hBf,hsf⟩
 rw [res_c rfl]
 go_simp
 try rfl
end Go.Proofs.YtogijkhenihaaaaGreatDoor
set_option linter.unusedVariables false
set_option linter.unusedSimpArgs false
namespace Go.Proofs.YtogijkhenihaaaaGreatDoor
open Go.RowKit Go.BigFrame
namespace Chk
open Go.Proofs.YtogijkhenihaaaaGreatDoor.Id
end Chk
end Go.Proofs.YtogijkhenihaaaaGreatDoor
set_option linter.unusedVariables false
set_option linter.unusedSimpArgs false
namespace Go.Proofs.YtogijkhenihaaaaGreatDoor
open Go.RowKit Go.BigFrame
theorem ERow.nil_none {α:Type} (w:World) (t:TypeId) (size:Nat) (E:World→List Value→α→Prop):ERow w none t size E (.slice none 0 0) []:=ERow.mono (ERow.nil w 0 t size E) (fun _ _ hr=>hr.weak (fun b' e'=>by cases e')) (fun _ _ h=>h)
end Go.Proofs.YtogijkhenihaaaaGreatDoor
set_option linter.unusedVariables false
set_option linter.unusedSimpArgs false
namespace Go.Proofs.YtogijkhenihaaaaGreatDoor
open Go.RowKit Go.BigFrame
namespace Chk
open Go.Proofs.YtogijkhenihaaaaGreatDoor.Id
def okS (x:Srt):Prop:=x.name.size≤200
def okF (y:Fld):Prop:=y.name.size≤200∧y.type.length≤40∧∀ i (h:i<y.type.length),okS y.type[i]
def okR (r:Rec):Prop:=r.name.size≤200∧r.fields.length≤40∧∀ i (h:i<r.fields.length),okF r.fields[i]
def okM (m:Mth):Prop:=m.name.size≤200∧m.arg.size≤200∧m.effect.size≤200∧m.undo.size≤200
def okV (v:Svc):Prop:=v.name.size≤200∧v.methods.length≤40∧∀ i (h:i<v.methods.length),okM v.methods[i]
def okP (p:Stp):Prop:=p.service.size≤200∧p.method.size≤200
def okG (g:Sag):Prop:=g.name.size≤200∧g.arg.size≤200∧g.steps.length≤40∧∀ i (h:i<g.steps.length),okP g.steps[i]
def SvcsOk (x:Sch):Prop:=∀ i (h:i<x.services.length),okV x.services[i]
def SagsOk (x:Sch):Prop:=∀ i (h:i<x.sagas.length),okG x.sagas[i]
def RecsOk (x:Sch):Prop:=∀ i (h:i<x.records.length),okR x.records[i]
structure FineG (x:Sch):Prop where
 nm:x.name.size≤200
 recs:x.records.length≤100
 svcs:x.services.length≤100
 sags:x.sagas.length≤100
 re:RecsOk x
 sv:SvcsOk x
 sa:SagsOk x
def GreatP (w:World) (Q:Prop) (e:Ending) (w':World):Prop:=∃ b,e=.returned (.bool b)∧Below w.heap.size w w'∧(b=false→Q)
end Chk
set_option maxRecDepth 100000 in
set_option maxHeartbeats 16000000 in
theorem cgreatv_any (v:Value) (x:Id.Sch) (w:World) (hv:Id.SchV w none v x) :
  Calls Tryz.prog 115 #[v] w (Chk.GreatP w (Chk.SvcsOk x)):=by
 have HV:=Lib.hid hv
 obtain ⟨A1,n1,c1,A2,n2,c2,A3,n3,c3,rfl,r1,r2,r3⟩:=hv
 have hn1:n1=x.records.length:=by obtain ⟨_,_,e,_⟩:=ERow.slice r1;injection e
 have hm1:n1≤9223372036854775807:=by obtain ⟨_,_,e,_,_⟩:=ERow.slice r1;injection e;omega
 have hn2:n2=x.services.length:=by obtain ⟨_,_,e,_⟩:=ERow.slice r2;injection e
 have hm2:n2≤9223372036854775807:=by obtain ⟨_,_,e,_,_⟩:=ERow.slice r2;injection e;omega
 have hn3:n3=x.sagas.length:=by obtain ⟨_,_,e,_⟩:=ERow.slice r3;injection e
 have hm3:n3≤9223372036854775807:=by obtain ⟨_,_,e,_,_⟩:=ERow.slice r3;injection e;omega
 have HN1:=Lib.hid hn1
 have H1:=Lib.hid r1
 have HN2:=Lib.hid hn2
 have H2:=Lib.hid r2
 have HN3:=Lib.hid hn3
 have H3:=Lib.hid r3
 clear r1 r2 r3 hn1 hn2 hn3
 go_enter Tryz.func115,Tryz.ntmps115
 go_upto_region 1 with (fail)
 refine wp_named (fun W0 hW0=>?_)
 obtain ⟨hb0,hq0,-⟩:=fresh_box hW0
 clear hW0
 have HB:=Lib.hid hb0
 have HQ:=Lib.hid hq0
 clear hb0 hq0
 obtain ⟨S,HSeq⟩:∃ S:Array Value,Hid (S=#[.string x.name,.slice A1 n1 c1,.slice A2 n2 c2,.slice A3 n3 c3]):=⟨_,Lib.hid rfl⟩
 rw [←HSeq.out] at HQ
 go_wp2_with fail
 go_loopw [3] (fun i wr=>∃ (k:Nat),k≤n2∧i=.int .i64 k∧Hid (∀ i (h:i<x.services.length),i<k→Chk.okV x.services[i])∧Hid (Below w.heap.size w wr)∧Hid (Bk wr w.heap.size 28 S)) (fun i _=>n2 - (intOf i).toNat)
 case atStart=>exact ⟨0,by omega,rfl,Lib.hid (fun i _ hi=>absurd hi (Nat.not_lt_zero _)),HB,HQ⟩
 case round =>
  clear HB HQ
  obtain ⟨k1,hk1,rfl,HP1,HB,HQ⟩:=hrel
  obtain ⟨W1,rfl⟩:∃ w',w'=wr:=⟨_,rfl⟩
  have i10:(0:Int)≤(k1:Int):=by omega
  by_cases hlt1:k1<n2
  case neg =>
   have hsq:=HQ.out
   rw [HSeq.out] at hsq
   obtain ⟨⟨q0,q1,q2,q3⟩,-⟩:=hsq.k4
   clear hsq
   go_wp2_with fail
   go_ret
   exact ⟨false,rfl,HB.out,fun _ i h=>HP1.out i h (by have:=HN2.out;omega)⟩
  have hka:k1<x.services.length:=by rw [←HN2.out];omega
  obtain ⟨g1,off1,cs,rfl,-,⟨u,he,HU⟩,hc⟩:=ERow.get H2.out hka (by omega)
  obtain ⟨r,Hr⟩:∃ r,Hid (∀ h:k1<x.services.length,x.services[k1]'h=r):=⟨x.services[k1]'hka,Lib.hid (fun _=>rfl)⟩
  rw [Hr.out hka] at he HU
  obtain ⟨rn,rf⟩:=r
  subst he
  simp only at HU hc
  obtain ⟨A5,n5,c5,rfl⟩:=ERow.is HU
  have hn5:n5=rf.length:=by obtain ⟨_,_,e,_⟩:=ERow.slice HU;injection e
  have hm5:n5≤9223372036854775807:=by obtain ⟨_,_,e,_,_⟩:=ERow.slice HU;injection e;omega
  have HN5:=Lib.hid hn5
  have H5:=Lib.hid HU
  have hB:=HB.out
  have a0:=hc 0 _ rfl
  have a1:=hc 1 _ rfl
  have hgl1:g1<w.heap.size:=World.block_lt_of_cell? w _ a0
  have a0:=(hB.cell hgl1).trans a0
  have a1:=(hB.cell hgl1).trans a1
  simp only [Nat.add_zero] at a0
  have i11:(k1:Int)<(n2:Int):=by omega
  have hbw:=hB.size
  have hgw1:¬g1=W1.heap.size:=by omega
  clear hc hB hka HU hn5 hbw
  have hsq:=HQ.out
  rw [HSeq.out] at hsq
  obtain ⟨⟨q0,q1,q2,q3⟩,-⟩:=hsq.k4
  clear hsq
  go_upto_region 5 with (fail)
  refine wp_named (fun V1 hV=>?_)
  obtain ⟨hbV,hqV,-⟩:=fresh_box hV
  clear hV
  have hx:=Lib.hid (HB.out.trans (Below.mono hbV HB.out.size))
  clear HB
  have HB:=hx
  clear hx
  have hx:=Lib.hid (HQ.out.below hbV HQ.out.lt)
  clear HQ
  have HQ:=hx
  clear hx
  have HR1:=Lib.hid hqV
  clear hqV hbV q0 q1 q2 q3 a0 a1
  obtain ⟨S1,HS1⟩:∃ S1:Array Value,Hid (S1=#[.string rn,.slice A5 n5 c5]):=⟨_,Lib.hid rfl⟩
  rw [←HS1.out] at HR1
  have hsq1:=HR1.out
  rw [HS1.out] at hsq1
  obtain ⟨⟨b0,b1⟩,-⟩:=hsq1.k2
  clear hsq1
  by_cases ht:rn.size≤200
  case neg =>
   have ht2:200<rn.size:=by omega
   go_wp2_with fail
   all_goals (go_ret;exact ⟨true,rfl,HB.out,fun h=>by cases h⟩)
  have ht0:=ht
  clear ht
  by_cases ht:n5≤40
  case neg =>
   have ht2:40<n5:=by omega
   go_wp2_with fail
   all_goals (go_ret;exact ⟨true,rfl,HB.out,fun h=>by cases h⟩)
  have ht1:=ht
  clear ht
  go_wp2_with fail
  clear b0 b1
  go_loopw [5] (fun i wr=>∃ (k:Nat),k≤n5∧i=.int .i64 k∧Hid (∀ i (h:i<rf.length),i<k→Chk.okM rf[i])∧Hid (Below w.heap.size w wr)∧Hid (Bk wr w.heap.size 28 S)∧Hid (Bk wr W1.heap.size 101 S1)) (fun i _=>n5 - (intOf i).toNat)
  case atStart=>exact ⟨0,by omega,rfl,Lib.hid (fun i _ hi=>absurd hi (Nat.not_lt_zero _)),HB,HQ,HR1⟩
  case round =>
   clear HB HQ HR1
   obtain ⟨k2,hk2,rfl,HP2,HB,HQ,HR1⟩:=hrel
   obtain ⟨W2,rfl⟩:∃ w',w'=wr:=⟨_,rfl⟩
   have i20:(0:Int)≤(k2:Int):=by omega
   have hsq1:=HR1.out
   rw [HS1.out] at hsq1
   obtain ⟨⟨b0,b1⟩,-⟩:=hsq1.k2
   clear hsq1
   by_cases hlt2:k2<n5
   case neg =>
    have hnew:∀ i (h:i<x.services.length),i<(k1+1)→Chk.okV x.services[i]:=fun i h hi=>by
     rcases Nat.lt_or_eq_of_le (Nat.le_of_lt_succ hi) with h1 | rfl
     ·exact HP1.out i h h1
     ·rw [Hr.out];exact ⟨ht0,by have:=HN5.out;simp only;omega,fun j hj=>HP2.out j hj (by have:=HN5.out;simp only at hj;omega)⟩
    go_wp2_with fail
    go_roundw
    case rel=>exact ⟨k1+1,by omega,by go_num,Lib.hid (hnew),HB,HQ⟩
    case measure=>simp [intOf];omega
   have hkb:k2<rf.length:=by rw [←HN5.out];exact hlt2
   obtain ⟨g2,off2,cs,rfl,-,he,hc⟩:=ERow.get H5.out hkb (by omega)
   obtain ⟨y,Hy⟩:∃ y,Hid (∀ h:k2<rf.length,rf[k2]'h=y):=⟨rf[k2]'hkb,Lib.hid (fun _=>rfl)⟩
   rw [Hy.out hkb] at he
   obtain ⟨m0,m1,m2,m3,m4⟩:=y
   unfold Id.MthE Id.Mth.cells at he
   subst he
   have hB:=HB.out
   have a0:=hc 0 _ rfl
   have a1:=hc 1 _ rfl
   have a2:=hc 2 _ rfl
   have a3:=hc 3 _ rfl
   have a4:=hc 4 _ rfl
   have hgl2:g2<w.heap.size:=World.block_lt_of_cell? w _ a0
   have a0:=(hB.cell hgl2).trans a0
   have a1:=(hB.cell hgl2).trans a1
   have a2:=(hB.cell hgl2).trans a2
   have a3:=(hB.cell hgl2).trans a3
   have a4:=(hB.cell hgl2).trans a4
   simp only [Nat.add_zero] at a0
   have i21:(k2:Int)<(n5:Int):=by omega
   have hbw:=hB.size
   have hgw2:¬g2=W2.heap.size:=by omega
   clear hc hB hkb hbw
   go_upto_region 11 with (fail)
   refine wp_named (fun V2 hV=>?_)
   obtain ⟨hbV,hqV,-⟩:=fresh_box hV
   clear hV
   have hx:=Lib.hid (HB.out.trans (Below.mono hbV HB.out.size))
   clear HB
   have HB:=hx
   clear hx
   have hx:=Lib.hid (HQ.out.below hbV HQ.out.lt)
   clear HQ
   have HQ:=hx
   clear hx
   have hx:=Lib.hid (HR1.out.below hbV HR1.out.lt)
   clear HR1
   have HR1:=hx
   clear hx
   clear hbV a0 a1 a2 a3 a4 b0 b1
   obtain ⟨⟨e0,e1,e2,e3,e4⟩,-⟩:=hqV.k5
   clear hqV
   by_cases ht:m0.size≤200
   case neg =>
    have ht2:200<m0.size:=by omega
    go_wp2_with fail
    all_goals (go_ret;exact ⟨true,rfl,HB.out,fun h=>by cases h⟩)
   have hu0:=ht
   clear ht
   by_cases ht:m1.size≤200
   case neg =>
    have ht2:200<m1.size:=by omega
    go_wp2_with fail
    all_goals (go_ret;exact ⟨true,rfl,HB.out,fun h=>by cases h⟩)
   have hu1:=ht
   clear ht
   by_cases ht:m3.size≤200
   case neg =>
    have ht2:200<m3.size:=by omega
    go_wp2_with fail
    all_goals (go_ret;exact ⟨true,rfl,HB.out,fun h=>by cases h⟩)
   have hu2:=ht
   clear ht
   by_cases ht:m4.size≤200
   case neg =>
    have ht2:200<m4.size:=by omega
    go_wp2_with fail
    all_goals (go_ret;exact ⟨true,rfl,HB.out,fun h=>by cases h⟩)
   have hu3:=ht
   clear ht
   have hnew:∀ i (h:i<rf.length),i<(k2+1)→Chk.okM rf[i]:=fun i h hi=>by
    rcases Nat.lt_or_eq_of_le (Nat.le_of_lt_succ hi) with h1 | rfl
    ·exact HP2.out i h h1
    ·rw [Hy.out];exact ⟨hu0,hu1,hu2,hu3⟩
   go_wp2_with fail
   go_roundw
   case rel=>exact ⟨k2+1,by omega,by go_num,Lib.hid (hnew),HB,HQ,HR1⟩
   case measure=>simp [intOf];omega
set_option maxRecDepth 100000 in
set_option maxHeartbeats 16000000 in
theorem cgreatg_any (v:Value) (x:Id.Sch) (w:World) (hv:Id.SchV w none v x) :
  Calls Tryz.prog 116 #[v] w (Chk.GreatP w (Chk.SagsOk x)):=by
   have HV:=Lib.hid hv
   obtain ⟨A1,n1,c1,A2,n2,c2,A3,n3,c3,rfl,r1,r2,r3⟩:=hv
   have hn1:n1=x.records.length:=by obtain ⟨_,_,e,_⟩:=ERow.slice r1;injection e
   have hm1:n1≤9223372036854775807:=by obtain ⟨_,_,e,_,_⟩:=ERow.slice r1;injection e;omega
   have hn2:n2=x.services.length:=by obtain ⟨_,_,e,_⟩:=ERow.slice r2;injection e
   have hm2:n2≤9223372036854775807:=by obtain ⟨_,_,e,_,_⟩:=ERow.slice r2;injection e;omega
   have hn3:n3=x.sagas.length:=by obtain ⟨_,_,e,_⟩:=ERow.slice r3;injection e
   have hm3:n3≤9223372036854775807:=by obtain ⟨_,_,e,_,_⟩:=ERow.slice r3;injection e;omega
   have HN1:=Lib.hid hn1
   have H1:=Lib.hid r1
   have HN2:=Lib.hid hn2
   have H2:=Lib.hid r2
   have HN3:=Lib.hid hn3
   have H3:=Lib.hid r3
   clear r1 r2 r3 hn1 hn2 hn3
   go_enter Tryz.func116,Tryz.ntmps116
   go_upto_region 1 with (fail)
   refine wp_named (fun W0 hW0=>?_)
   obtain ⟨hb0,hq0,-⟩:=fresh_box hW0
   clear hW0
   have HB:=Lib.hid hb0
   have HQ:=Lib.hid hq0
   clear hb0 hq0
   obtain ⟨S,HSeq⟩:∃ S:Array Value,Hid (S=#[.string x.name,.slice A1 n1 c1,.slice A2 n2 c2,.slice A3 n3 c3]):=⟨_,Lib.hid rfl⟩
   rw [←HSeq.out] at HQ
   go_wp2_with fail
   go_loopw [3] (fun i wr=>∃ (k:Nat),k≤n3∧i=.int .i64 k∧Hid (∀ i (h:i<x.sagas.length),i<k→Chk.okG x.sagas[i])∧Hid (Below w.heap.size w wr)∧Hid (Bk wr w.heap.size 28 S)) (fun i _=>n3 - (intOf i).toNat)
   case atStart=>exact ⟨0,by omega,rfl,Lib.hid (fun i _ hi=>absurd hi (Nat.not_lt_zero _)),HB,HQ⟩
   case round =>
    clear HB HQ
    obtain ⟨k1,hk1,rfl,HP1,HB,HQ⟩:=hrel
    obtain ⟨W1,rfl⟩:∃ w',w'=wr:=⟨_,rfl⟩
    have i10:(0:Int)≤(k1:Int):=by omega
    by_cases hlt1:k1<n3
    case neg =>
     have hsq:=HQ.out
     rw [HSeq.out] at hsq
     obtain ⟨⟨q0,q1,q2,q3⟩,-⟩:=hsq.k4
     clear hsq
     go_wp2_with fail
     go_ret
     exact ⟨false,rfl,HB.out,fun _ i h=>HP1.out i h (by have:=HN3.out;omega)⟩
    have hka:k1<x.sagas.length:=by rw [←HN3.out];omega
    obtain ⟨g1,off1,cs,rfl,-,⟨u,he,HU⟩,hc⟩:=ERow.get H3.out hka (by omega)
    obtain ⟨r,Hr⟩:∃ r,Hid (∀ h:k1<x.sagas.length,x.sagas[k1]'h=r):=⟨x.sagas[k1]'hka,Lib.hid (fun _=>rfl)⟩
    rw [Hr.out hka] at he HU
    obtain ⟨rn,ra,rf⟩:=r
    subst he
    simp only at HU hc
    obtain ⟨A5,n5,c5,rfl⟩:=ERow.is HU
    have hn5:n5=rf.length:=by obtain ⟨_,_,e,_⟩:=ERow.slice HU;injection e
    have hm5:n5≤9223372036854775807:=by obtain ⟨_,_,e,_,_⟩:=ERow.slice HU;injection e;omega
    have HN5:=Lib.hid hn5
    have H5:=Lib.hid HU
    have hB:=HB.out
    have a0:=hc 0 _ rfl
    have a1:=hc 1 _ rfl
    have a2:=hc 2 _ rfl
    have hgl1:g1<w.heap.size:=World.block_lt_of_cell? w _ a0
    have a0:=(hB.cell hgl1).trans a0
    have a1:=(hB.cell hgl1).trans a1
    have a2:=(hB.cell hgl1).trans a2
    simp only [Nat.add_zero] at a0
    have i11:(k1:Int)<(n3:Int):=by omega
    have hbw:=hB.size
    have hgw1:¬g1=W1.heap.size:=by omega
    clear hc hB hka HU hn5 hbw
    have hsq:=HQ.out
    rw [HSeq.out] at hsq
    obtain ⟨⟨q0,q1,q2,q3⟩,-⟩:=hsq.k4
    clear hsq
    go_upto_region 5 with (fail)
    refine wp_named (fun V1 hV=>?_)
    obtain ⟨hbV,hqV,-⟩:=fresh_box hV
    clear hV
    have hx:=Lib.hid (HB.out.trans (Below.mono hbV HB.out.size))
    clear HB
    have HB:=hx
    clear hx
    have hx:=Lib.hid (HQ.out.below hbV HQ.out.lt)
    clear HQ
    have HQ:=hx
    clear hx
    have HR1:=Lib.hid hqV
    clear hqV hbV q0 q1 q2 q3 a0 a1 a2
    obtain ⟨S1,HS1⟩:∃ S1:Array Value,Hid (S1=#[.string rn,.string ra,.slice A5 n5 c5]):=⟨_,Lib.hid rfl⟩
    rw [←HS1.out] at HR1
    have hsq1:=HR1.out
    rw [HS1.out] at hsq1
    obtain ⟨⟨b0,b1,b2⟩,-⟩:=hsq1.k3
    clear hsq1
    by_cases ht:rn.size≤200
    case neg =>
     have ht2:200<rn.size:=by omega
     go_wp2_with fail
     all_goals (go_ret;exact ⟨true,rfl,HB.out,fun h=>by cases h⟩)
    have ht0:=ht
    clear ht
    by_cases ht:ra.size≤200
    case neg =>
     have ht2:200<ra.size:=by omega
     go_wp2_with fail
     all_goals (go_ret;exact ⟨true,rfl,HB.out,fun h=>by cases h⟩)
    have ht1:=ht
    clear ht
    by_cases ht:n5≤40
    case neg =>
     have ht2:40<n5:=by omega
     go_wp2_with fail
     all_goals (go_ret;exact ⟨true,rfl,HB.out,fun h=>by cases h⟩)
    have ht2:=ht
    clear ht
    go_wp2_with fail
    clear b0 b1 b2
    go_loopw [5] (fun i wr=>∃ (k:Nat),k≤n5∧i=.int .i64 k∧Hid (∀ i (h:i<rf.length),i<k→Chk.okP rf[i])∧Hid (Below w.heap.size w wr)∧Hid (Bk wr w.heap.size 28 S)∧Hid (Bk wr W1.heap.size 105 S1)) (fun i _=>n5 - (intOf i).toNat)
    case atStart=>exact ⟨0,by omega,rfl,Lib.hid (fun i _ hi=>absurd hi (Nat.not_lt_zero _)),HB,HQ,HR1⟩
    case round =>
     clear HB HQ HR1
     obtain ⟨k2,hk2,rfl,HP2,HB,HQ,HR1⟩:=hrel
     obtain ⟨W2,rfl⟩:∃ w',w'=wr:=⟨_,rfl⟩
     have i20:(0:Int)≤(k2:Int):=by omega
     have hsq1:=HR1.out
     rw [HS1.out] at hsq1
     obtain ⟨⟨b0,b1,b2⟩,-⟩:=hsq1.k3
     clear hsq1
     by_cases hlt2:k2<n5
     case neg =>
      have hnew:∀ i (h:i<x.sagas.length),i<(k1+1)→Chk.okG x.sagas[i]:=fun i h hi=>by
       rcases Nat.lt_or_eq_of_le (Nat.le_of_lt_succ hi) with h1 | rfl
       ·exact HP1.out i h h1
       ·rw [Hr.out];exact ⟨ht0,ht1,by have:=HN5.out;simp only;omega,fun j hj=>HP2.out j hj (by have:=HN5.out;simp only at hj;omega)⟩
      go_wp2_with fail
      go_roundw
      case rel=>exact ⟨k1+1,by omega,by go_num,Lib.hid (hnew),HB,HQ⟩
      case measure=>simp [intOf];omega
     have hkb:k2<rf.length:=by rw [←HN5.out];exact hlt2
     obtain ⟨g2,off2,cs,rfl,-,he,hc⟩:=ERow.get H5.out hkb (by omega)
     obtain ⟨y,Hy⟩:∃ y,Hid (∀ h:k2<rf.length,rf[k2]'h=y):=⟨rf[k2]'hkb,Lib.hid (fun _=>rfl)⟩
     rw [Hy.out hkb] at he
     obtain ⟨p0,p1,p2⟩:=y
     unfold Id.StpE Id.Stp.cells at he
     subst he
     have hB:=HB.out
     have a0:=hc 0 _ rfl
     have a1:=hc 1 _ rfl
     have a2:=hc 2 _ rfl
     have hgl2:g2<w.heap.size:=World.block_lt_of_cell? w _ a0
     have a0:=(hB.cell hgl2).trans a0
     have a1:=(hB.cell hgl2).trans a1
     have a2:=(hB.cell hgl2).trans a2
     simp only [Nat.add_zero] at a0
     have i21:(k2:Int)<(n5:Int):=by omega
     clear hc hB hkb
     by_cases ht:p0.size≤200
     case neg =>
      have ht2:200<p0.size:=by omega
      go_wp2_with fail
      all_goals (go_ret;exact ⟨true,rfl,HB.out,fun h=>by cases h⟩)
     have hu0:=ht
     clear ht
     by_cases ht:p1.size≤200
     case neg =>
      have ht2:200<p1.size:=by omega
      go_wp2_with fail
      all_goals (go_ret;exact ⟨true,rfl,HB.out,fun h=>by cases h⟩)
     have hu1:=ht
     clear ht
     have hnew:∀ i (h:i<rf.length),i<(k2+1)→Chk.okP rf[i]:=fun i h hi=>by
      rcases Nat.lt_or_eq_of_le (Nat.le_of_lt_succ hi) with h1 | rfl
      ·exact HP2.out i h h1
      ·rw [Hy.out];exact ⟨hu0,hu1⟩
     go_wp2_with fail
     go_roundw
     case rel=>exact ⟨k2+1,by omega,by go_num,Lib.hid (hnew),HB,HQ,HR1⟩
     case measure=>simp [intOf];omega
set_option maxRecDepth 100000 in
set_option maxHeartbeats 16000000 in
theorem cgreat_any (v:Value) (x:Id.Sch) (w:World) (hv:Id.SchV w none v x) :
  Calls Tryz.prog 48 #[v] w (Chk.GreatP w (Chk.FineG x)):=by
     have HV:=Lib.hid hv
     obtain ⟨A1,n1,c1,A2,n2,c2,A3,n3,c3,rfl,r1,r2,r3⟩:=hv
     have hn1:n1=x.records.length:=by obtain ⟨_,_,e,_⟩:=ERow.slice r1;injection e
     have hm1:n1≤9223372036854775807:=by obtain ⟨_,_,e,_,_⟩:=ERow.slice r1;injection e;omega
     have hn2:n2=x.services.length:=by obtain ⟨_,_,e,_⟩:=ERow.slice r2;injection e
     have hm2:n2≤9223372036854775807:=by obtain ⟨_,_,e,_,_⟩:=ERow.slice r2;injection e;omega
     have hn3:n3=x.sagas.length:=by obtain ⟨_,_,e,_⟩:=ERow.slice r3;injection e
     have hm3:n3≤9223372036854775807:=by obtain ⟨_,_,e,_,_⟩:=ERow.slice r3;injection e;omega
     have HN1:=Lib.hid hn1
     have H1:=Lib.hid r1
     have HN2:=Lib.hid hn2
     have H2:=Lib.hid r2
     have HN3:=Lib.hid hn3
     have H3:=Lib.hid r3
     clear r1 r2 r3 hn1 hn2 hn3
     go_enter Tryz.func48,Tryz.ntmps48
     go_upto_region 1 with (fail)
     refine wp_named (fun W0 hW0=>?_)
     obtain ⟨hb0,hq0,-⟩:=fresh_box hW0
     clear hW0
     have HB:=Lib.hid hb0
     have HQ:=Lib.hid hq0
     clear hb0 hq0
     obtain ⟨S,HSeq⟩:∃ S:Array Value,Hid (S=#[.string x.name,.slice A1 n1 c1,.slice A2 n2 c2,.slice A3 n3 c3]):=⟨_,Lib.hid rfl⟩
     rw [←HSeq.out] at HQ
     have hsq:=HQ.out
     rw [HSeq.out] at hsq
     obtain ⟨⟨q0,q1,q2,q3⟩,-⟩:=hsq.k4
     clear hsq
     by_cases ht:n1≤100
     case neg =>
      have ht2:100<n1:=by omega
      go_wp2_with fail
      all_goals (go_ret;exact ⟨true,rfl,HB.out,fun h=>by cases h⟩)
     have g1x:=ht
     clear ht
     by_cases ht:n2≤100
     case neg =>
      have ht2:100<n2:=by omega
      go_wp2_with fail
      all_goals (go_ret;exact ⟨true,rfl,HB.out,fun h=>by cases h⟩)
     have g2x:=ht
     clear ht
     by_cases ht:n3≤100
     case neg =>
      have ht2:100<n3:=by omega
      go_wp2_with fail
      all_goals (go_ret;exact ⟨true,rfl,HB.out,fun h=>by cases h⟩)
     have g3x:=ht
     clear ht
     by_cases ht:x.name.size≤200
     case neg =>
      have ht2:200<x.name.size:=by omega
      go_wp2_with fail
      all_goals (go_ret;exact ⟨true,rfl,HB.out,fun h=>by cases h⟩)
     have g4x:=ht
     clear ht
     go_wp2_with fail
     clear q0 q1 q2 q3
     go_loopw [3] (fun i wr=>∃ (k:Nat),k≤n1∧i=.int .i64 k∧Hid (∀ i (h:i<x.records.length),i<k→Chk.okR x.records[i])∧Hid (Below w.heap.size w wr)∧Hid (Bk wr w.heap.size 28 S)) (fun i _=>n1 - (intOf i).toNat)
     case atStart=>exact ⟨0,by omega,rfl,Lib.hid (fun i _ hi=>absurd hi (Nat.not_lt_zero _)),HB,HQ⟩
     case round =>
      clear HB HQ
      obtain ⟨k1,hk1,rfl,HP1,HB,HQ⟩:=hrel
      obtain ⟨W1,rfl⟩:∃ w',w'=wr:=⟨_,rfl⟩
      have i10:(0:Int)≤(k1:Int):=by omega
      by_cases hlt1:k1<n1
      case neg =>
       have hsq:=HQ.out
       rw [HSeq.out] at hsq
       obtain ⟨⟨q0,q1,q2,q3⟩,-⟩:=hsq.k4
       clear hsq
       have HRE:Hid (Chk.RecsOk x):=Lib.hid (fun i h=>HP1.out i h (by have:=HN1.out;omega))
       go_wp2_with fail
       refine (cgreatv_any _ x _ (Id.SchV.below HB.out HV.out)).mono ?_
       rintro e Wv ⟨bv,rfl,hbv,hv⟩
       have HVV:=Lib.hid hv
       clear hv q0 q1 q2 q3
       have hx:=Lib.hid (HB.out.trans (Below.mono hbv HB.out.size))
       clear HB
       have HB:=hx
       clear hx
       have hx:=Lib.hid (HQ.out.below hbv HQ.out.lt)
       clear HQ
       have HQ:=hx
       clear hx
       have hsq:=HQ.out
       rw [HSeq.out] at hsq
       obtain ⟨⟨q0,q1,q2,q3⟩,-⟩:=hsq.k4
       clear hsq
       cases bv
       case true =>
        go_wp2_with fail
        go_ret
        exact ⟨true,rfl,HB.out,fun h=>by cases h⟩
       case false =>
        go_wp2_with fail
        refine (cgreatg_any _ x _ (Id.SchV.below HB.out HV.out)).mono ?_
        rintro e Wg ⟨bg,rfl,hbg,hg⟩
        have HGG:=Lib.hid hg
        clear hg q0 q1 q2 q3
        have hx:=Lib.hid (HB.out.trans (Below.mono hbg HB.out.size))
        clear HB
        have HB:=hx
        clear hx
        have hx:=Lib.hid (HQ.out.below hbg HQ.out.lt)
        clear HQ
        have HQ:=hx
        clear hx
        go_wp2_with fail
        go_ret
        exact ⟨bg,rfl,HB.out,fun h=>⟨g4x,by have:=HN1.out;omega,by have:=HN2.out;omega,by have:=HN3.out;omega,HRE.out,HVV.out (by first | rfl | trivial),HGG.out h⟩⟩
      have hka:k1<x.records.length:=by rw [←HN1.out];omega
      obtain ⟨g1,off1,cs,rfl,-,⟨u,he,HU⟩,hc⟩:=ERow.get H1.out hka (by omega)
      obtain ⟨r,Hr⟩:∃ r,Hid (∀ h:k1<x.records.length,x.records[k1]'h=r):=⟨x.records[k1]'hka,Lib.hid (fun _=>rfl)⟩
      rw [Hr.out hka] at he HU
      obtain ⟨rn,rc,rf⟩:=r
      subst he
      simp only at HU hc
      obtain ⟨A5,n5,c5,rfl⟩:=ERow.is HU
      have hn5:n5=rf.length:=by obtain ⟨_,_,e,_⟩:=ERow.slice HU;injection e
      have hm5:n5≤9223372036854775807:=by obtain ⟨_,_,e,_,_⟩:=ERow.slice HU;injection e;omega
      have HN5:=Lib.hid hn5
      have H5:=Lib.hid HU
      have hB:=HB.out
      have a0:=hc 0 _ rfl
      have a1:=hc 1 _ rfl
      have a2:=hc 2 _ rfl
      have hgl1:g1<w.heap.size:=World.block_lt_of_cell? w _ a0
      have a0:=(hB.cell hgl1).trans a0
      have a1:=(hB.cell hgl1).trans a1
      have a2:=(hB.cell hgl1).trans a2
      simp only [Nat.add_zero] at a0
      have i11:(k1:Int)<(n1:Int):=by omega
      have hbw:=hB.size
      have hgw1:¬g1=W1.heap.size:=by omega
      clear hc hB hka HU hn5 hbw
      have hsq:=HQ.out
      rw [HSeq.out] at hsq
      obtain ⟨⟨q0,q1,q2,q3⟩,-⟩:=hsq.k4
      clear hsq
      go_upto_region 7 with (fail)
      refine wp_named (fun V1 hV=>?_)
      obtain ⟨hbV,hqV,-⟩:=fresh_box hV
      clear hV
      have hx:=Lib.hid (HB.out.trans (Below.mono hbV HB.out.size))
      clear HB
      have HB:=hx
      clear hx
      have hx:=Lib.hid (HQ.out.below hbV HQ.out.lt)
      clear HQ
      have HQ:=hx
      clear hx
      have HR1:=Lib.hid hqV
      clear hqV hbV q0 q1 q2 q3 a0 a1 a2
      obtain ⟨S1,HS1⟩:∃ S1:Array Value,Hid (S1=#[.string rn,.bool rc,.slice A5 n5 c5]):=⟨_,Lib.hid rfl⟩
      rw [←HS1.out] at HR1
      have hsq1:=HR1.out
      rw [HS1.out] at hsq1
      obtain ⟨⟨b0,b1,b2⟩,-⟩:=hsq1.k3
      clear hsq1
      by_cases ht:rn.size≤200
      case neg =>
       have ht2:200<rn.size:=by omega
       go_wp2_with fail
       all_goals (go_ret;exact ⟨true,rfl,HB.out,fun h=>by cases h⟩)
      have ht0:=ht
      clear ht
      by_cases ht:n5≤40
      case neg =>
       have ht2:40<n5:=by omega
       go_wp2_with fail
       all_goals (go_ret;exact ⟨true,rfl,HB.out,fun h=>by cases h⟩)
      have ht1:=ht
      clear ht
      go_wp2_with fail
      clear b0 b1 b2
      go_loopw [5] (fun i wr=>∃ (k:Nat),k≤n5∧i=.int .i64 k∧Hid (∀ i (h:i<rf.length),i<k→Chk.okF rf[i])∧Hid (Below w.heap.size w wr)∧Hid (Bk wr w.heap.size 28 S)∧Hid (Bk wr W1.heap.size 42 S1)) (fun i _=>n5 - (intOf i).toNat)
      case atStart=>exact ⟨0,by omega,rfl,Lib.hid (fun i _ hi=>absurd hi (Nat.not_lt_zero _)),HB,HQ,HR1⟩
      case round =>
       clear HB HQ HR1
       obtain ⟨k2,hk2,rfl,HP2,HB,HQ,HR1⟩:=hrel
       obtain ⟨W2,rfl⟩:∃ w',w'=wr:=⟨_,rfl⟩
       have i20:(0:Int)≤(k2:Int):=by omega
       have hsq1:=HR1.out
       rw [HS1.out] at hsq1
       obtain ⟨⟨b0,b1,b2⟩,-⟩:=hsq1.k3
       clear hsq1
       by_cases hlt2:k2<n5
       case neg =>
        have hnew:∀ i (h:i<x.records.length),i<(k1+1)→Chk.okR x.records[i]:=fun i h hi=>by
         rcases Nat.lt_or_eq_of_le (Nat.le_of_lt_succ hi) with h1 | rfl
         ·exact HP1.out i h h1
         ·rw [Hr.out];exact ⟨ht0,by have:=HN5.out;simp only;omega,fun j hj=>HP2.out j hj (by have:=HN5.out;simp only at hj;omega)⟩
        go_wp2_with fail
        go_roundw
        case rel=>exact ⟨k1+1,by omega,by go_num,Lib.hid (hnew),HB,HQ⟩
        case measure=>simp [intOf];omega
       have hkb:k2<rf.length:=by rw [←HN5.out];exact hlt2
       obtain ⟨g2,off2,cs,rfl,-,⟨u,he,HU⟩,hc⟩:=ERow.get H5.out hkb (by omega)
       obtain ⟨y,Hy⟩:∃ y,Hid (∀ h:k2<rf.length,rf[k2]'h=y):=⟨rf[k2]'hkb,Lib.hid (fun _=>rfl)⟩
       rw [Hy.out hkb] at he HU
       obtain ⟨yn,yt⟩:=y
       subst he
       simp only at HU hc
       obtain ⟨A7,n7,c7,rfl⟩:=ERow.is HU
       have hn7:n7=yt.length:=by obtain ⟨_,_,e,_⟩:=ERow.slice HU;injection e
       have hm7:n7≤9223372036854775807:=by obtain ⟨_,_,e,_,_⟩:=ERow.slice HU;injection e;omega
       have HN7:=Lib.hid hn7
       have H7:=Lib.hid HU
       have hB:=HB.out
       have a0:=hc 0 _ rfl
       have a1:=hc 1 _ rfl
       have hgl2:g2<w.heap.size:=World.block_lt_of_cell? w _ a0
       have f0:=a0
       have f1:=a1
       have a0:=(hB.cell hgl2).trans a0
       have a1:=(hB.cell hgl2).trans a1
       simp only [Nat.add_zero] at a0 f0
       have HA0:=Lib.hid f0
       have HA1:=Lib.hid f1
       have i21:(k2:Int)<(n5:Int):=by omega
       clear hc hB hkb HU hn7 f0 f1
       by_cases ht:yn.size≤200
       case neg =>
        have ht2:200<yn.size:=by omega
        go_wp2_with fail
        all_goals (go_ret;exact ⟨true,rfl,HB.out,fun h=>by cases h⟩)
       have hu0:=ht
       clear ht
       by_cases ht:n7≤40
       case neg =>
        have ht2:40<n7:=by omega
        go_wp2_with fail
        all_goals (go_ret;exact ⟨true,rfl,HB.out,fun h=>by cases h⟩)
       have hu1:=ht
       clear ht
       go_wp2_with fail
       clear a0 a1 b0 b1 b2
       go_loopw [6] (fun i wr=>∃ (k:Nat),k≤n7∧i=.int .i64 k∧Hid (∀ i (h:i<yt.length),i<k→Chk.okS yt[i])∧Hid (Below w.heap.size w wr)∧Hid (Bk wr w.heap.size 28 S)∧Hid (Bk wr W1.heap.size 42 S1)) (fun i _=>n7 - (intOf i).toNat)
       case atStart=>exact ⟨0,by omega,rfl,Lib.hid (fun i _ hi=>absurd hi (Nat.not_lt_zero _)),HB,HQ,HR1⟩
       case round =>
        clear HB HQ HR1
        obtain ⟨k3,hk3,rfl,HP3,HB,HQ,HR1⟩:=hrel
        obtain ⟨W3,rfl⟩:∃ w',w'=wr:=⟨_,rfl⟩
        have i30:(0:Int)≤(k3:Int):=by omega
        have hsq1:=HR1.out
        rw [HS1.out] at hsq1
        obtain ⟨⟨b0,b1,b2⟩,-⟩:=hsq1.k3
        clear hsq1
        have a1:=(HB.out.cell hgl2).trans HA1.out
        by_cases hlt3:k3<n7
        case neg =>
         have hnew:∀ i (h:i<rf.length),i<(k2+1)→Chk.okF rf[i]:=fun i h hi=>by
          rcases Nat.lt_or_eq_of_le (Nat.le_of_lt_succ hi) with h1 | rfl
          ·exact HP2.out i h h1
          ·rw [Hy.out];exact ⟨hu0,by have:=HN7.out;simp only;omega,fun j hj=>HP3.out j hj (by have:=HN7.out;simp only at hj;omega)⟩
         go_wp2_with fail
         go_roundw
         case rel=>exact ⟨k2+1,by omega,by go_num,Lib.hid (hnew),HB,HQ,HR1⟩
         case measure=>simp [intOf];omega
        have hkc:k3<yt.length:=by rw [←HN7.out];exact hlt3
        obtain ⟨g3,off3,cs,rfl,-,he,hc⟩:=ERow.get H7.out hkc (by omega)
        obtain ⟨z,Hz⟩:∃ z,Hid (∀ h:k3<yt.length,yt[k3]'h=z):=⟨yt[k3]'hkc,Lib.hid (fun _=>rfl)⟩
        rw [Hz.out hkc] at he
        obtain ⟨zk,zn⟩:=z
        unfold Id.SortE Id.Srt.cells at he
        subst he
        have s0:=hc 0 _ rfl
        have s1:=hc 1 _ rfl
        have hgl3:g3<w.heap.size:=World.block_lt_of_cell? w _ s0
        have s0:=(HB.out.cell hgl3).trans s0
        have s1:=(HB.out.cell hgl3).trans s1
        simp only [Nat.add_zero] at s0
        have i31:(k3:Int)<(n7:Int):=by omega
        clear hc hkc
        by_cases ht:zn.size≤200
        case neg =>
         have ht2:200<zn.size:=by omega
         go_wp2_with fail
         all_goals (go_ret;exact ⟨true,rfl,HB.out,fun h=>by cases h⟩)
        have hz0:=ht
        clear ht
        have hnew:∀ i (h:i<yt.length),i<(k3+1)→Chk.okS yt[i]:=fun i h hi=>by
         rcases Nat.lt_or_eq_of_le (Nat.le_of_lt_succ hi) with h1 | rfl
         ·exact HP3.out i h h1
         ·rw [Hz.out];exact hz0
        go_wp2_with fail
        go_roundw
        case rel=>exact ⟨k3+1,by omega,by go_num,Lib.hid (hnew),HB,HQ,HR1⟩
        case measure=>simp [intOf];omega
end Go.Proofs.YtogijkhenihaaaaGreatDoor
set_option linter.unusedVariables false
set_option linter.unusedSimpArgs false
namespace Go.Proofs.YtogijkhenihaaaaGreatDoor
open Go.RowKit Go.ChangeShapes Go.WideShapes Go.Deep Go.Joins
section
variable {H : Type} {enc : TypeId × Value → H} {P : Program} {w : World} {base : Nat} {spare : Nat → Bool} {held : Bool}
end
section
variable {H : Type} {enc : TypeId × Value → H} {w : World} {base : Nat} {spare : Nat → Bool} {held : Bool}
end
end Go.Proofs.YtogijkhenihaaaaGreatDoor
set_option linter.unusedVariables false
set_option linter.unusedSimpArgs false
namespace Go.Proofs.YtogijkhenihaaaaGreatDoor
namespace Chk
open Go.Proofs.YtogijkhenihaaaaGreatDoor.Id
def apart (a b:ByteArray):Prop:=(a.toList==b.toList)=false
end Chk
end Go.Proofs.YtogijkhenihaaaaGreatDoor
set_option linter.unusedVariables false
set_option linter.unusedSimpArgs false
namespace Go.Proofs.YtogijkhenihaaaaGreatDoor
open Go.RowKit Go.BigFrame
/-- Within a law over a schema: its box, what lay there. -/
structure Chk.Lx (w wr:World) (S:Array Value):Prop where
 bel:Below w.heap.size w wr
 box:Bk wr w.heap.size 28 S
theorem Chk.Lx.below {w wr w':World} {S:Array Value} (h:Chk.Lx w wr S) (hb:Below wr.heap.size wr w'):Chk.Lx w w' S:=⟨h.bel.trans (hb.mono h.bel.size),h.box.below hb h.box.lt⟩
theorem Chk.Lx.start {w wr:World} {S:Array Value} (h:wr=w.alloc (.cells S 28)):Chk.Lx w wr S:=by
 subst h
 exact ⟨(Below.refl _ _).alloc (Nat.le_refl _) _,Bk.new _ _ _⟩
theorem Chk.Lx.only {w wr w':World} {S:Array Value} {e:TypeId} (h:Chk.Lx w wr S) (hb:Below w.heap.size wr w') (ho:Only e wr w') (he:28≠e):Chk.Lx w w' S:=⟨h.bel.trans hb,ho.bk h.box he⟩
end Go.Proofs.YtogijkhenihaaaaGreatDoor
set_option linter.unusedVariables false
set_option linter.unusedSimpArgs false
namespace Go.Proofs.YtogijkhenihaaaaGreatDoor
namespace Chk
open Go.Proofs.YtogijkhenihaaaaGreatDoor.Id
/-! Levels. -/
def lvl (rs:List Rec) (l:List Bool) (n:ByteArray):Bool:=match rs,l with
 | r::rs,b::l=>if r.name.toList==n.toList then b else lvl rs l n
 | _,_=>false
def lvT (rs:List Rec) (l:List Bool) (t:List Srt):Bool:=match t with
 | []=>false
 | x::_=>x.kind != 7||lvl rs l x.name
/-- Pointwise. -/
def Le (a b:List Bool):Prop:=a.length=b.length∧∀ i,∀ (h:i<a.length) (h':i<b.length),a[i]=true→b[i]=true
theorem lvl_mono:∀ {rs:List Rec} {a b:List Bool} {n:ByteArray},Le a b→lvl rs a n=true→lvl rs b n=true
 | [],a,b,n,_,h=>by unfold lvl at h;cases h
 | r::rs,[],b,n,_,h=>by unfold lvl at h;cases h
 | r::rs,x::a,[],n,hl,h=>by have:=hl.1;simp at this
 | r::rs,x::a,y::b,n,hl,h=>by
  unfold lvl at h ⊢
  split at h
  next hn=>rw [if_pos hn];exact hl.2 0 (by simp) (by simp) h
  next hn =>
   rw [if_neg hn]
   refine lvl_mono ⟨by have:=hl.1;simpa using this,fun i h1 h2 h3=>?_⟩ h
   have:=hl.2 (i+1) (by simp;omega) (by simp;omega) (by simpa using h3)
   simpa using this
theorem lvT_mono {rs:List Rec} {a b:List Bool} (h:Le a b) {t:List Srt} (ht:lvT rs a t=true):lvT rs b t=true:=by
 cases t with
 | nil=>exact ht
 | cons x t =>
  unfold lvT at ht ⊢
  rw [Bool.or_eq_true] at ht ⊢
  exact ht.imp id (lvl_mono h)
/-! The document's tests. -/
/-! Rule 3 as the document goes through it. -/
def docV (p:ByteArray × Nat):Value:=.tuple #[.string p.1,.int .i64 (p.2:Int)]
end Chk
end Go.Proofs.YtogijkhenihaaaaGreatDoor
