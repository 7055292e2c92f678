import Derived.Test.YtogijkhenihaaaaGreatDoorGT12
set_option linter.all false
set_option maxRecDepth 100000
set_option maxHeartbeats 0
namespace Go.Proofs.YtogijkhenihaaaaGreatDoor
open Lib (hid)
section
open Go.BigFrame Go.RowKit
namespace Chk
open Id
def IE:ByteArray:=⟨#[109,111,100,117,108,101,32,115,104,111,112,59,32,114,101,99,111,114,100,32,79,32,123,32,97,99,99,111,117,110,116,58,32,116,101,120,116,59,32,97,109,111,117,110,116,58,32,105,110,116,59,32,109,101,109,111,58,32,111,112,116,32,116,101,120,116,59,32,125,32,115,101,114,118,105,99,101,32,83,32,123,32,116,97,107,101,32,116,40,79,41,32,45,62,32,105,110,116,32,117,110,100,111,32,117,59,32,103,105,118,101,32,117,40,79,41,32,45,62,32,110,111,110,101,59,32,110,111,116,101,32,110,40,79,41,32,45,62,32,110,111,110,101,59,32,125,32,115,97,103,97,32,103,40,79,41,32,123,32,100,111,32,83,46,116,32,97,116,32,48,59,32,100,111,32,83,46,110,32,97,116,32,49,59,32,125]⟩
def Zk:List Rec:=[⟨⟨#[79]⟩,false,[⟨⟨#[97,99,99,111,117,110,116]⟩,[⟨4,⟨#[]⟩⟩]⟩,⟨⟨#[97,109,111,117,110,116]⟩,[⟨3,⟨#[]⟩⟩]⟩,⟨⟨#[109,101,109,111]⟩,[⟨6,⟨#[]⟩⟩,⟨4,⟨#[]⟩⟩]⟩]⟩]
def Zj:List Svc:=[⟨⟨#[83]⟩,[⟨⟨#[116]⟩,⟨#[79]⟩,3,⟨#[116,97,107,101]⟩,⟨#[117]⟩⟩,⟨⟨#[117]⟩,⟨#[79]⟩,1,⟨#[103,105,118,101]⟩,⟨#[]⟩⟩,⟨⟨#[110]⟩,⟨#[79]⟩,1,⟨#[110,111,116,101]⟩,⟨#[]⟩⟩]⟩]
def XW(m:ByteArray):Sch:=⟨⟨#[115,104,111,112]⟩,Zk,Zj,[⟨⟨#[103]⟩,⟨#[79]⟩,[⟨⟨#[83]⟩,m,0⟩,⟨⟨#[83]⟩,⟨#[110]⟩,1⟩]⟩]⟩
def shop:Sch:=XW ⟨#[116]⟩
theorem Og:parse IE=(shop,0,0):=by kernel_rfl
open Classical in
theorem XO{rs:List Rec}{r:Rec}(hr:r∈rs)(hi:isR [] r=true):yR rs r.name=true:=by
 unfold yR;rw[decide_eq_true_eq];exact Val.step hr (DC (λs hs=>by unfold inP at hs;simp at hs) (Fv.1 hi))
end Chk
theorem ZF(w:World):Calls Tryz.prog 69 #[] w λe w'=>∃ v,e=.returned v/\Below w.heap.size w w'/\Id.aY w' (some w.heap.size) v Chk.shop:=by
 have hbl:=(Below.refl w.heap.size w).alloc (xB _) (.cells #[.string ⟨#[]⟩,.slice none 0 0,.slice none 0 0,.slice none 0 0] 28);have hq:=Bk.new w 28 #[.string ⟨#[]⟩,.slice none 0 0,.slice none 0 0,.slice none 0 0];go_enter Tryz.func69,Tryz.ntmps69;go_wp2_with fail;refine(Oq Chk.IE (by decide) _).mono ?_;rintro e w2⟨v,rfl,hb2,hsv⟩;rw[Chk.Og]at hsv ⊢;have hB2:=hid (hbl.trans (hb2.mono (by simp)));have hq5:=hq.below hb2 hq.lt;have HSV:=hid (Id.aY.weak (Id.Ec (by simp)) hsv:Id.aY w2 (some w.heap.size) v Chk.shop);obtain⟨A5,n5,c5,A6,n6,c6,A7,n7,c7,rfl,-⟩:=hsv;have aaL:=hq5.lt;have hne:¬w2.heap.size=w.heap.size:=by omega
 have hne2:¬w.heap.size=w2.heap.size:=by omega
 clear hq hbl hb2;have hsz:=hB2.out.size;simp only;go_upto_region 2 with(fail)
 refine ak (λW3 hW3=>?_);obtain⟨hb3,hq3,-⟩:=ay hW3;clear hW3;have hB3:=hid (hB2.out.trans (hb3.mono hsz));have hq6:=hq5.below hb3 hq5.lt;have aak:=hid (Id.aY.below hb3 HSV.out);clear hb3 hq5;obtain⟨⟨q0,q1,q2,q3⟩,q4,q5,q6,q7⟩:=hq6.k4;obtain⟨⟨p0,p1,p2,p3⟩,-⟩:=hq3.k4;go_wp2_with fail;clear q0 q1 q2 q3 q4 q5 q6 q7 p0 p1 p2 p3;have hqf:Bk _ w.heap.size 28 #[.string Chk.shop.name,.slice A5 n5 c5,.slice A6 n6 c6,.slice A7 n7 c7]:=((((hq6.au 0 (.string Chk.shop.name)).au 1 (.slice A5 n5 c5)).au 2 (.slice A6 n6 c6)).au 3 (.slice A7 n7 c7));have hBf:=((((hB3.out.setCell (p:=⟨w.heap.size,0,none⟩) (xB _) (.string Chk.shop.name)).setCell (p:=⟨w.heap.size,1,none⟩) (xB _) (.slice A5 n5 c5)).setCell (p:=⟨w.heap.size,2,none⟩) (xB _) (.slice A6 n6 c6)).setCell (p:=⟨w.heap.size,3,none⟩) (xB _) (.slice A7 n7 c7));have hsf:=aak.out.only ((((Only.set hq6 0 (.string Chk.shop.name)).trans (Only.set (hq6.au 0 (.string Chk.shop.name)) 1 (.slice A5 n5 c5))).trans (Only.set ((hq6.au 0 (.string Chk.shop.name)).au 1 (.slice A5 n5 c5)) 2 (.slice A6 n6 c6))).trans (Only.set (((hq6.au 0 (.string Chk.shop.name)).au 1 (.slice A5 n5 c5)).au 2 (.slice A6 n6 c6)) 3 (.slice A7 n7 c7))) (by decide);obtain⟨⟨y0,y1,y2,y3⟩,-⟩:=hqf.k4;refine bodyPost_ret (v:=.agg #[.string Chk.shop.name,.slice A5 n5 c5,.slice A6 n6 c6,.slice A7 n7 c7]) ?_ rfl ⟨_,rfl,hBf,hsf⟩;rw[iM rfl];go_simp;try rfl
namespace Chk
open Id
end Chk
theorem ah.Jv{α:Type}(w:World)(t:TypeId)(size:Nat)(E:World->List Value->α->Prop):ah w none t size E (.slice none 0 0) []:=ah.mono (ah.nil w 0 t size E) (λ_ _ hr=>hr.weak (λb' e'=>by cases e')) (λ_ _ h=>h)
theorem KQ{n k:Nat}{Q:Nat->Prop}(h:∀ i,i<k->Q i)(hk:Q k):∀ i,i<k+1->Q i:=λi hi=>by
 rcases Nat.lt_or_eq_of_le (Nat.le_of_lt_succ hi)with h1|rfl
 ·exact h i h1
 ·exact hk
namespace Chk
open Id
def okS(x:Srt):Prop:=x.name.size<=200
def okF(y:Fld):Prop:=y.name.size<=200/\y.type.length<=40/\∀ i (h:i<y.type.length),okS y.type[i]
def okR(r:Rec):Prop:=r.name.size<=200/\r.fields.length<=40/\∀ i (h:i<r.fields.length),okF r.fields[i]
def okM(m:Mth):Prop:=m.name.size<=200/\m.arg.size<=200/\m.effect.size<=200/\m.undo.size<=200
def okV(v:Svc):Prop:=v.name.size<=200/\v.methods.length<=40/\∀ i (h:i<v.methods.length),okM v.methods[i]
def okP(p:Stp):Prop:=p.service.size<=200/\p.method.size<=200
def okG(g:Sag):Prop:=g.name.size<=200/\g.arg.size<=200/\g.steps.length<=40/\∀ i (h:i<g.steps.length),okP g.steps[i]
def Tq(x:Sch):Prop:=∀ i (h:i<x.services.length),okV x.services[i]
def Tt(x:Sch):Prop:=∀ i (h:i<x.sagas.length),okG x.sagas[i]
def Tv(x:Sch):Prop:=∀ i (h:i<x.records.length),okR x.records[i]
structure Ir(x:Sch):Prop where
 nm:x.name.size<=200
 recs:x.records.length<=100
 oW:x.services.length<=100
 oZ:x.sagas.length<=100
 re:Tv x
 sv:Tq x
 sa:Tt x
def EW(w:World)(Q:Prop)(e:Ending)(w':World):Prop:=∃ b,e=.returned (.bool b)/\Below w.heap.size w w'/\(b=false->Q)
theorem Ir.fine{x:Sch}(h:Ir x):Fine x:=by
 obtain⟨h1,h2,h3,h4,h5,h6,h7⟩:=h;refine⟨by omega,by omega,by omega,by omega,λr hr=>?_,λv hv=>?_,λg hg=>?_⟩
 ·obtain⟨i,hi,rfl⟩:=List.getElem_of_mem hr
  obtain⟨a,b,c⟩:=h5 i hi;refine⟨by omega,by omega,λf hf=>?_⟩;obtain⟨j,hj,rfl⟩:=List.getElem_of_mem hf;obtain⟨a,b,c⟩:=c j hj;refine⟨by omega,by omega,λt ht=>?_⟩;obtain⟨k,hk,rfl⟩:=List.getElem_of_mem ht;exact xM (c k hk) (by decide)
 ·obtain⟨i,hi,rfl⟩:=List.getElem_of_mem hv
  obtain⟨a,b,c⟩:=h6 i hi;refine⟨by omega,by omega,λf hf=>?_⟩;obtain⟨j,hj,rfl⟩:=List.getElem_of_mem hf;obtain⟨a,b,c,d⟩:=c j hj;exact⟨by omega,by omega,by omega,by omega⟩
 ·obtain⟨i,hi,rfl⟩:=List.getElem_of_mem hg
  obtain⟨a,a2,b,c⟩:=h7 i hi;refine⟨by omega,by omega,by omega,λf hf=>?_⟩;obtain⟨j,hj,rfl⟩:=List.getElem_of_mem hf;obtain⟨a,b⟩:=c j hj;exact⟨by omega,by omega⟩
end Chk
theorem MH(v:Value)(x:Id.Sch)(w:World)(hv:Id.aY w none v x) :
  Calls Tryz.prog 115 #[v] w (Chk.EW w (Chk.Tq x)):=by
 have HV:=hid hv;obtain⟨A1,n1,c1,A2,n2,c2,A3,n3,c3,rfl,r1,r2,r3⟩:=hv;have hn1:n1=x.records.length:=by obtain⟨_,_,e,_⟩:=ah.slice r1;injection e
 have hm1:n1<=9223372036854775807:=by obtain⟨_,_,e,_,_⟩:=ah.slice r1;injection e;omega
 have hn2:n2=x.services.length:=by obtain⟨_,_,e,_⟩:=ah.slice r2;injection e
 have hm2:n2<=9223372036854775807:=by obtain⟨_,_,e,_,_⟩:=ah.slice r2;injection e;omega
 have hn3:n3=x.sagas.length:=by obtain⟨_,_,e,_⟩:=ah.slice r3;injection e
 have hm3:n3<=9223372036854775807:=by obtain⟨_,_,e,_,_⟩:=ah.slice r3;injection e;omega
 have HN1:=hid hn1;have H1:=hid r1;have HN2:=hid hn2;have H2:=hid r2;have HN3:=hid hn3;have H3:=hid r3;clear r1 r2 r3 hn1 hn2 hn3;go_enter Tryz.func115,Tryz.ntmps115;go_upto_region 1 with(fail)
 refine ak (λW0 hW0=>?_);obtain⟨hb0,hq0,-⟩:=ay hW0;clear hW0;have HB:=hid hb0;have HQ:=hid hq0;clear hb0 hq0;obtain⟨S,dn⟩:∃ S:Array Value,Hid (S=#[.string x.name,.slice A1 n1 c1,.slice A2 n2 c2,.slice A3 n3 c3]):=⟨_,hid rfl⟩;rw[<-dn.out]at HQ;go_wp2_with fail;go_loopw [3] (λi wr=>∃(k:Nat),k<=n2/\i=.int .i64 k/\Hid (∀ i (h:i<x.services.length),i<k->Chk.okV x.services[i])/\Hid (Below w.heap.size w wr)/\Hid (Bk wr w.heap.size 28 S)) (λi _=>n2 - (intOf i).toNat)
 case atStart=>exact⟨0,by omega,rfl,hid (λi _ hi=>absurd hi (Nat.not_lt_zero _)),HB,HQ⟩
 case round =>
  clear HB HQ;obtain⟨k1,hk1,rfl,HP1,HB,HQ⟩:=hrel;obtain⟨W1,rfl⟩:∃ w',w'=wr:=⟨_,rfl⟩;have i10:(0:Int)<=(k1:Int):=by omega
  by_cases hlt1:k1<n2
  case neg =>
   have hsq:=HQ.out;rw[dn.out]at hsq;obtain⟨⟨q0,q1,q2,q3⟩,-⟩:=hsq.k4;clear hsq;go_wp2_with fail;go_ret;exact⟨false,rfl,HB.out,λ_ i h=>HP1.out i h (by have:=HN2.out;omega)⟩
  have hka:k1<x.services.length:=by rw[<-HN2.out];omega
  obtain⟨g1,off1,cs,rfl,-,⟨u,he,HU⟩,hc⟩:=ah.get H2.out hka (by omega);obtain⟨r,Hr⟩:∃ r,Hid (∀ h:k1<x.services.length,x.services[k1]'h=r):=⟨x.services[k1]'hka,hid (λ_=>rfl)⟩;rw[Hr.out hka]at he HU;obtain⟨rn,rf⟩:=r;subst he;simp only at HU hc;obtain⟨A5,n5,c5,rfl⟩:=ah.is HU;have hn5:n5=rf.length:=by obtain⟨_,_,e,_⟩:=ah.slice HU;injection e
  have hm5:n5<=9223372036854775807:=by obtain⟨_,_,e,_,_⟩:=ah.slice HU;injection e;omega
  have HN5:=hid hn5;have H5:=hid HU;have hB:=HB.out;have a0:=hc 0 _ rfl;have a1:=hc 1 _ rfl;have bF:g1<w.heap.size:=xH w _ a0;have a0:=(hB.cell bF).trans a0;have a1:=(hB.cell bF).trans a1;simp only[xK]at a0;have i11:(k1:Int)<(n2:Int):=by omega
  have hbw:=hB.size;have hgw1:¬g1=W1.heap.size:=by omega
  clear hc hB hka HU hn5 hbw;have hsq:=HQ.out;rw[dn.out]at hsq;obtain⟨⟨q0,q1,q2,q3⟩,-⟩:=hsq.k4;clear hsq;go_upto_region 5 with(fail)
  refine ak (λV1 hV=>?_);obtain⟨hbV,hqV,-⟩:=ay hV;clear hV;replace HB:=hid (HB.out.trans (Below.mono hbV HB.out.size));replace HQ:=hid (HQ.out.below hbV HQ.out.lt);have HR1:=hid hqV;clear hqV hbV q0 q1 q2 q3 a0 a1;obtain⟨S1,HS1⟩:∃ S1:Array Value,Hid (S1=#[.string rn,.slice A5 n5 c5]):=⟨_,hid rfl⟩;rw[<-HS1.out]at HR1;have jw:=HR1.out;rw[HS1.out]at jw;obtain⟨⟨b0,b1⟩,-⟩:=jw.k2;clear jw;by_cases ht:rn.size<=200
  case neg =>
   have ht2:200<rn.size:=by omega
   go_wp2_with fail;all_goals(go_ret;exact⟨true,rfl,HB.out,λh=>by cases h⟩)
  have ht0:=ht;clear ht;by_cases ht:n5<=40
  case neg =>
   have ht2:40<n5:=by omega
   go_wp2_with fail;all_goals(go_ret;exact⟨true,rfl,HB.out,λh=>by cases h⟩)
  have ht1:=ht;clear ht;go_wp2_with fail;clear b0 b1;go_loopw [5] (λi wr=>∃(k:Nat),k<=n5/\i=.int .i64 k/\Hid (∀ i (h:i<rf.length),i<k->Chk.okM rf[i])/\Hid (Below w.heap.size w wr)/\Hid (Bk wr w.heap.size 28 S)/\Hid (Bk wr W1.heap.size 101 S1)) (λi _=>n5 - (intOf i).toNat)
  case atStart=>exact⟨0,by omega,rfl,hid (λi _ hi=>absurd hi (Nat.not_lt_zero _)),HB,HQ,HR1⟩
  case round =>
   clear HB HQ HR1;obtain⟨k2,hk2,rfl,HP2,HB,HQ,HR1⟩:=hrel;obtain⟨W2,rfl⟩:∃ w',w'=wr:=⟨_,rfl⟩;have i20:(0:Int)<=(k2:Int):=by omega
   have jw:=HR1.out;rw[HS1.out]at jw;obtain⟨⟨b0,b1⟩,-⟩:=jw.k2;clear jw;by_cases hlt2:k2<n5
   case neg =>
    have hnew:∀ i (h:i<x.services.length),i<(k1+1)->Chk.okV x.services[i]:=λi h hi=>by
     rcases Nat.lt_or_eq_of_le (Nat.le_of_lt_succ hi)with h1|rfl
     ·exact HP1.out i h h1
     ·rw[Hr.out];exact⟨ht0,by have:=HN5.out;simp only;omega,λj hj=>HP2.out j hj (by have:=HN5.out;simp only at hj;omega)⟩
    go_wp2_with fail;go_roundw
    case rel=>exact⟨k1+1,by omega,by go_num,hid (hnew),HB,HQ⟩
    case measure=>simp[intOf];omega
   have hkb:k2<rf.length:=by rw[<-HN5.out];exact hlt2
   obtain⟨g2,off2,cs,rfl,-,he,hc⟩:=ah.get H5.out hkb (by omega);obtain⟨y,Hy⟩:∃ y,Hid (∀ h:k2<rf.length,rf[k2]'h=y):=⟨rf[k2]'hkb,hid (λ_=>rfl)⟩;rw[Hy.out hkb]at he;obtain⟨m0,m1,m2,m3,m4⟩:=y;unfold Id.dh Id.Mth.cells at he;subst he;have hB:=HB.out;have a0:=hc 0 _ rfl;have a1:=hc 1 _ rfl;have a2:=hc 2 _ rfl;have a3:=hc 3 _ rfl;have a4:=hc 4 _ rfl;have bV:g2<w.heap.size:=xH w _ a0;have a0:=(hB.cell bV).trans a0;have a1:=(hB.cell bV).trans a1;have a2:=(hB.cell bV).trans a2;have a3:=(hB.cell bV).trans a3;have a4:=(hB.cell bV).trans a4;simp only[xK]at a0;have i21:(k2:Int)<(n5:Int):=by omega
   have hbw:=hB.size;have wU:¬g2=W2.heap.size:=by omega
   clear hc hB hkb hbw;go_upto_region 11 with(fail)
   refine ak (λV2 hV=>?_);obtain⟨hbV,hqV,-⟩:=ay hV;clear hV;replace HB:=hid (HB.out.trans (Below.mono hbV HB.out.size));replace HQ:=hid (HQ.out.below hbV HQ.out.lt);replace HR1:=hid (HR1.out.below hbV HR1.out.lt);clear hbV a0 a1 a2 a3 a4 b0 b1;obtain⟨⟨e0,e1,e2,e3,e4⟩,-⟩:=hqV.k5;clear hqV;by_cases ht:m0.size<=200
   case neg =>
    have ht2:200<m0.size:=by omega
    go_wp2_with fail;all_goals(go_ret;exact⟨true,rfl,HB.out,λh=>by cases h⟩)
   have hu0:=ht;clear ht;by_cases ht:m1.size<=200
   case neg =>
    have ht2:200<m1.size:=by omega
    go_wp2_with fail;all_goals(go_ret;exact⟨true,rfl,HB.out,λh=>by cases h⟩)
   have hu1:=ht;clear ht;by_cases ht:m3.size<=200
   case neg =>
    have ht2:200<m3.size:=by omega
    go_wp2_with fail;all_goals(go_ret;exact⟨true,rfl,HB.out,λh=>by cases h⟩)
   have hu2:=ht;clear ht;by_cases ht:m4.size<=200
   case neg =>
    have ht2:200<m4.size:=by omega
    go_wp2_with fail;all_goals(go_ret;exact⟨true,rfl,HB.out,λh=>by cases h⟩)
   have hu3:=ht;clear ht;have hnew:∀ i (h:i<rf.length),i<(k2+1)->Chk.okM rf[i]:=λi h hi=>by
    rcases Nat.lt_or_eq_of_le (Nat.le_of_lt_succ hi)with h1|rfl
    ·exact HP2.out i h h1
    ·rw[Hy.out];exact⟨hu0,hu1,hu2,hu3⟩
   go_wp2_with fail;go_roundw
   case rel=>exact⟨k2+1,by omega,by go_num,hid (hnew),HB,HQ,HR1⟩
   case measure=>simp[intOf];omega
theorem MI(v:Value)(x:Id.Sch)(w:World)(hv:Id.aY w none v x) :
  Calls Tryz.prog 116 #[v] w (Chk.EW w (Chk.Tt x)):=by
   have HV:=hid hv;obtain⟨A1,n1,c1,A2,n2,c2,A3,n3,c3,rfl,r1,r2,r3⟩:=hv;have hn1:n1=x.records.length:=by obtain⟨_,_,e,_⟩:=ah.slice r1;injection e
   have hm1:n1<=9223372036854775807:=by obtain⟨_,_,e,_,_⟩:=ah.slice r1;injection e;omega
   have hn2:n2=x.services.length:=by obtain⟨_,_,e,_⟩:=ah.slice r2;injection e
   have hm2:n2<=9223372036854775807:=by obtain⟨_,_,e,_,_⟩:=ah.slice r2;injection e;omega
   have hn3:n3=x.sagas.length:=by obtain⟨_,_,e,_⟩:=ah.slice r3;injection e
   have hm3:n3<=9223372036854775807:=by obtain⟨_,_,e,_,_⟩:=ah.slice r3;injection e;omega
   have HN1:=hid hn1;have H1:=hid r1;have HN2:=hid hn2;have H2:=hid r2;have HN3:=hid hn3;have H3:=hid r3;clear r1 r2 r3 hn1 hn2 hn3;go_enter Tryz.func116,Tryz.ntmps116;go_upto_region 1 with(fail)
   refine ak (λW0 hW0=>?_);obtain⟨hb0,hq0,-⟩:=ay hW0;clear hW0;have HB:=hid hb0;have HQ:=hid hq0;clear hb0 hq0;obtain⟨S,dn⟩:∃ S:Array Value,Hid (S=#[.string x.name,.slice A1 n1 c1,.slice A2 n2 c2,.slice A3 n3 c3]):=⟨_,hid rfl⟩;rw[<-dn.out]at HQ;go_wp2_with fail;go_loopw [3] (λi wr=>∃(k:Nat),k<=n3/\i=.int .i64 k/\Hid (∀ i (h:i<x.sagas.length),i<k->Chk.okG x.sagas[i])/\Hid (Below w.heap.size w wr)/\Hid (Bk wr w.heap.size 28 S)) (λi _=>n3 - (intOf i).toNat)
   case atStart=>exact⟨0,by omega,rfl,hid (λi _ hi=>absurd hi (Nat.not_lt_zero _)),HB,HQ⟩
   case round =>
    clear HB HQ;obtain⟨k1,hk1,rfl,HP1,HB,HQ⟩:=hrel;obtain⟨W1,rfl⟩:∃ w',w'=wr:=⟨_,rfl⟩;have i10:(0:Int)<=(k1:Int):=by omega
    by_cases hlt1:k1<n3
    case neg =>
     have hsq:=HQ.out;rw[dn.out]at hsq;obtain⟨⟨q0,q1,q2,q3⟩,-⟩:=hsq.k4;clear hsq;go_wp2_with fail;go_ret;exact⟨false,rfl,HB.out,λ_ i h=>HP1.out i h (by have:=HN3.out;omega)⟩
    have hka:k1<x.sagas.length:=by rw[<-HN3.out];omega
    obtain⟨g1,off1,cs,rfl,-,⟨u,he,HU⟩,hc⟩:=ah.get H3.out hka (by omega);obtain⟨r,Hr⟩:∃ r,Hid (∀ h:k1<x.sagas.length,x.sagas[k1]'h=r):=⟨x.sagas[k1]'hka,hid (λ_=>rfl)⟩;rw[Hr.out hka]at he HU;obtain⟨rn,ra,rf⟩:=r;subst he;simp only at HU hc;obtain⟨A5,n5,c5,rfl⟩:=ah.is HU;have hn5:n5=rf.length:=by obtain⟨_,_,e,_⟩:=ah.slice HU;injection e
    have hm5:n5<=9223372036854775807:=by obtain⟨_,_,e,_,_⟩:=ah.slice HU;injection e;omega
    have HN5:=hid hn5;have H5:=hid HU;have hB:=HB.out;have a0:=hc 0 _ rfl;have a1:=hc 1 _ rfl;have a2:=hc 2 _ rfl;have bF:g1<w.heap.size:=xH w _ a0;have a0:=(hB.cell bF).trans a0;have a1:=(hB.cell bF).trans a1;have a2:=(hB.cell bF).trans a2;simp only[xK]at a0;have i11:(k1:Int)<(n3:Int):=by omega
    have hbw:=hB.size;have hgw1:¬g1=W1.heap.size:=by omega
    clear hc hB hka HU hn5 hbw;have hsq:=HQ.out;rw[dn.out]at hsq;obtain⟨⟨q0,q1,q2,q3⟩,-⟩:=hsq.k4;clear hsq;go_upto_region 5 with(fail)
    refine ak (λV1 hV=>?_);obtain⟨hbV,hqV,-⟩:=ay hV;clear hV;replace HB:=hid (HB.out.trans (Below.mono hbV HB.out.size));replace HQ:=hid (HQ.out.below hbV HQ.out.lt);have HR1:=hid hqV;clear hqV hbV q0 q1 q2 q3 a0 a1 a2;obtain⟨S1,HS1⟩:∃ S1:Array Value,Hid (S1=#[.string rn,.string ra,.slice A5 n5 c5]):=⟨_,hid rfl⟩;rw[<-HS1.out]at HR1;have jw:=HR1.out;rw[HS1.out]at jw;obtain⟨⟨b0,b1,b2⟩,-⟩:=jw.k3;clear jw;by_cases ht:rn.size<=200
    case neg =>
     have ht2:200<rn.size:=by omega
     go_wp2_with fail;all_goals(go_ret;exact⟨true,rfl,HB.out,λh=>by cases h⟩)
    have ht0:=ht;clear ht;by_cases ht:ra.size<=200
    case neg =>
     have ht2:200<ra.size:=by omega
     go_wp2_with fail;all_goals(go_ret;exact⟨true,rfl,HB.out,λh=>by cases h⟩)
    have ht1:=ht;clear ht;by_cases ht:n5<=40
    case neg =>
     have ht2:40<n5:=by omega
     go_wp2_with fail;all_goals(go_ret;exact⟨true,rfl,HB.out,λh=>by cases h⟩)
    have ht2:=ht;clear ht;go_wp2_with fail;clear b0 b1 b2;go_loopw [5] (λi wr=>∃(k:Nat),k<=n5/\i=.int .i64 k/\Hid (∀ i (h:i<rf.length),i<k->Chk.okP rf[i])/\Hid (Below w.heap.size w wr)/\Hid (Bk wr w.heap.size 28 S)/\Hid (Bk wr W1.heap.size 105 S1)) (λi _=>n5 - (intOf i).toNat)
    case atStart=>exact⟨0,by omega,rfl,hid (λi _ hi=>absurd hi (Nat.not_lt_zero _)),HB,HQ,HR1⟩
    case round =>
     clear HB HQ HR1;obtain⟨k2,hk2,rfl,HP2,HB,HQ,HR1⟩:=hrel;obtain⟨W2,rfl⟩:∃ w',w'=wr:=⟨_,rfl⟩;have i20:(0:Int)<=(k2:Int):=by omega
     have jw:=HR1.out;rw[HS1.out]at jw;obtain⟨⟨b0,b1,b2⟩,-⟩:=jw.k3;clear jw;by_cases hlt2:k2<n5
     case neg =>
      have hnew:∀ i (h:i<x.sagas.length),i<(k1+1)->Chk.okG x.sagas[i]:=λi h hi=>by
       rcases Nat.lt_or_eq_of_le (Nat.le_of_lt_succ hi)with h1|rfl
       ·exact HP1.out i h h1
       ·rw[Hr.out];exact⟨ht0,ht1,by have:=HN5.out;simp only;omega,λj hj=>HP2.out j hj (by have:=HN5.out;simp only at hj;omega)⟩
      go_wp2_with fail;go_roundw
      case rel=>exact⟨k1+1,by omega,by go_num,hid (hnew),HB,HQ⟩
      case measure=>simp[intOf];omega
     have hkb:k2<rf.length:=by rw[<-HN5.out];exact hlt2
     obtain⟨g2,off2,cs,rfl,-,he,hc⟩:=ah.get H5.out hkb (by omega);obtain⟨y,Hy⟩:∃ y,Hid (∀ h:k2<rf.length,rf[k2]'h=y):=⟨rf[k2]'hkb,hid (λ_=>rfl)⟩;rw[Hy.out hkb]at he;obtain⟨p0,p1,p2⟩:=y;unfold Id.eu Id.Stp.cells at he;subst he;have hB:=HB.out;have a0:=hc 0 _ rfl;have a1:=hc 1 _ rfl;have a2:=hc 2 _ rfl;have bV:g2<w.heap.size:=xH w _ a0;have a0:=(hB.cell bV).trans a0;have a1:=(hB.cell bV).trans a1;have a2:=(hB.cell bV).trans a2;simp only[xK]at a0;have i21:(k2:Int)<(n5:Int):=by omega
     clear hc hB hkb;by_cases ht:p0.size<=200
     case neg =>
      have ht2:200<p0.size:=by omega
      go_wp2_with fail;all_goals(go_ret;exact⟨true,rfl,HB.out,λh=>by cases h⟩)
     have hu0:=ht;clear ht;by_cases ht:p1.size<=200
     case neg =>
      have ht2:200<p1.size:=by omega
      go_wp2_with fail;all_goals(go_ret;exact⟨true,rfl,HB.out,λh=>by cases h⟩)
     have hu1:=ht;clear ht;have hnew:∀ i (h:i<rf.length),i<(k2+1)->Chk.okP rf[i]:=λi h hi=>by
      rcases Nat.lt_or_eq_of_le (Nat.le_of_lt_succ hi)with h1|rfl
      ·exact HP2.out i h h1
      ·rw[Hy.out];exact⟨hu0,hu1⟩
     go_wp2_with fail;go_roundw
     case rel=>exact⟨k2+1,by omega,by go_num,hid (hnew),HB,HQ,HR1⟩
     case measure=>simp[intOf];omega
theorem Qk(v:Value)(x:Id.Sch)(w:World)(hv:Id.aY w none v x) :
  Calls Tryz.prog 48 #[v] w (Chk.EW w (Chk.Ir x)):=by
     have HV:=hid hv;obtain⟨A1,n1,c1,A2,n2,c2,A3,n3,c3,rfl,r1,r2,r3⟩:=hv;have hn1:n1=x.records.length:=by obtain⟨_,_,e,_⟩:=ah.slice r1;injection e
     have hm1:n1<=9223372036854775807:=by obtain⟨_,_,e,_,_⟩:=ah.slice r1;injection e;omega
     have hn2:n2=x.services.length:=by obtain⟨_,_,e,_⟩:=ah.slice r2;injection e
     have hm2:n2<=9223372036854775807:=by obtain⟨_,_,e,_,_⟩:=ah.slice r2;injection e;omega
     have hn3:n3=x.sagas.length:=by obtain⟨_,_,e,_⟩:=ah.slice r3;injection e
     have hm3:n3<=9223372036854775807:=by obtain⟨_,_,e,_,_⟩:=ah.slice r3;injection e;omega
     have HN1:=hid hn1;have H1:=hid r1;have HN2:=hid hn2;have H2:=hid r2;have HN3:=hid hn3;have H3:=hid r3;clear r1 r2 r3 hn1 hn2 hn3;go_enter Tryz.func48,Tryz.ntmps48;go_upto_region 1 with(fail)
     refine ak (λW0 hW0=>?_);obtain⟨hb0,hq0,-⟩:=ay hW0;clear hW0;have HB:=hid hb0;have HQ:=hid hq0;clear hb0 hq0;obtain⟨S,dn⟩:∃ S:Array Value,Hid (S=#[.string x.name,.slice A1 n1 c1,.slice A2 n2 c2,.slice A3 n3 c3]):=⟨_,hid rfl⟩;rw[<-dn.out]at HQ;have hsq:=HQ.out;rw[dn.out]at hsq;obtain⟨⟨q0,q1,q2,q3⟩,-⟩:=hsq.k4;clear hsq;by_cases ht:n1<=100
     case neg =>
      have ht2:100<n1:=by omega
      go_wp2_with fail;all_goals(go_ret;exact⟨true,rfl,HB.out,λh=>by cases h⟩)
     have g1x:=ht;clear ht;by_cases ht:n2<=100
     case neg =>
      have ht2:100<n2:=by omega
      go_wp2_with fail;all_goals(go_ret;exact⟨true,rfl,HB.out,λh=>by cases h⟩)
     have g2x:=ht;clear ht;by_cases ht:n3<=100
     case neg =>
      have ht2:100<n3:=by omega
      go_wp2_with fail;all_goals(go_ret;exact⟨true,rfl,HB.out,λh=>by cases h⟩)
     have g3x:=ht;clear ht;by_cases ht:x.name.size<=200
     case neg =>
      have ht2:200<x.name.size:=by omega
      go_wp2_with fail;all_goals(go_ret;exact⟨true,rfl,HB.out,λh=>by cases h⟩)
     have g4x:=ht;clear ht;go_wp2_with fail;clear q0 q1 q2 q3;go_loopw [3] (λi wr=>∃(k:Nat),k<=n1/\i=.int .i64 k/\Hid (∀ i (h:i<x.records.length),i<k->Chk.okR x.records[i])/\Hid (Below w.heap.size w wr)/\Hid (Bk wr w.heap.size 28 S)) (λi _=>n1 - (intOf i).toNat)
     case atStart=>exact⟨0,by omega,rfl,hid (λi _ hi=>absurd hi (Nat.not_lt_zero _)),HB,HQ⟩
     case round =>
      clear HB HQ;obtain⟨k1,hk1,rfl,HP1,HB,HQ⟩:=hrel;obtain⟨W1,rfl⟩:∃ w',w'=wr:=⟨_,rfl⟩;have i10:(0:Int)<=(k1:Int):=by omega
      by_cases hlt1:k1<n1
      case neg =>
       have hsq:=HQ.out;rw[dn.out]at hsq;obtain⟨⟨q0,q1,q2,q3⟩,-⟩:=hsq.k4;clear hsq;have HRE:Hid (Chk.Tv x):=hid (λi h=>HP1.out i h (by have:=HN1.out;omega));go_wp2_with fail;refine(MH _ x _ (Id.aY.below HB.out HV.out)).mono ?_;rintro e Wv⟨bv,rfl,hbv,hv⟩;have HVV:=hid hv;clear hv q0 q1 q2 q3;replace HB:=hid (HB.out.trans (Below.mono hbv HB.out.size));replace HQ:=hid (HQ.out.below hbv HQ.out.lt);have hsq:=HQ.out;rw[dn.out]at hsq;obtain⟨⟨q0,q1,q2,q3⟩,-⟩:=hsq.k4;clear hsq;cases bv
       case true =>
        go_wp2_with fail;go_ret;exact⟨true,rfl,HB.out,λh=>by cases h⟩
       case false =>
        go_wp2_with fail;refine(MI _ x _ (Id.aY.below HB.out HV.out)).mono ?_;rintro e Wg⟨bg,rfl,hbg,hg⟩;have HGG:=hid hg;clear hg q0 q1 q2 q3;replace HB:=hid (HB.out.trans (Below.mono hbg HB.out.size));replace HQ:=hid (HQ.out.below hbg HQ.out.lt);go_wp2_with fail;go_ret;exact⟨bg,rfl,HB.out,λh=>⟨g4x,by have:=HN1.out;omega,by have:=HN2.out;omega,by have:=HN3.out;omega,HRE.out,HVV.out (by first|rfl|trivial),HGG.out h⟩⟩
      have hka:k1<x.records.length:=by rw[<-HN1.out];omega
      obtain⟨g1,off1,cs,rfl,-,⟨u,he,HU⟩,hc⟩:=ah.get H1.out hka (by omega);obtain⟨r,Hr⟩:∃ r,Hid (∀ h:k1<x.records.length,x.records[k1]'h=r):=⟨x.records[k1]'hka,hid (λ_=>rfl)⟩;rw[Hr.out hka]at he HU;obtain⟨rn,rc,rf⟩:=r;subst he;simp only at HU hc;obtain⟨A5,n5,c5,rfl⟩:=ah.is HU;have hn5:n5=rf.length:=by obtain⟨_,_,e,_⟩:=ah.slice HU;injection e
      have hm5:n5<=9223372036854775807:=by obtain⟨_,_,e,_,_⟩:=ah.slice HU;injection e;omega
      have HN5:=hid hn5;have H5:=hid HU;have hB:=HB.out;have a0:=hc 0 _ rfl;have a1:=hc 1 _ rfl;have a2:=hc 2 _ rfl;have bF:g1<w.heap.size:=xH w _ a0;have a0:=(hB.cell bF).trans a0;have a1:=(hB.cell bF).trans a1;have a2:=(hB.cell bF).trans a2;simp only[xK]at a0;have i11:(k1:Int)<(n1:Int):=by omega
      have hbw:=hB.size;have hgw1:¬g1=W1.heap.size:=by omega
      clear hc hB hka HU hn5 hbw;have hsq:=HQ.out;rw[dn.out]at hsq;obtain⟨⟨q0,q1,q2,q3⟩,-⟩:=hsq.k4;clear hsq;go_upto_region 7 with(fail)
      refine ak (λV1 hV=>?_);obtain⟨hbV,hqV,-⟩:=ay hV;clear hV;replace HB:=hid (HB.out.trans (Below.mono hbV HB.out.size));replace HQ:=hid (HQ.out.below hbV HQ.out.lt);have HR1:=hid hqV;clear hqV hbV q0 q1 q2 q3 a0 a1 a2;obtain⟨S1,HS1⟩:∃ S1:Array Value,Hid (S1=#[.string rn,.bool rc,.slice A5 n5 c5]):=⟨_,hid rfl⟩;rw[<-HS1.out]at HR1;have jw:=HR1.out;rw[HS1.out]at jw;obtain⟨⟨b0,b1,b2⟩,-⟩:=jw.k3;clear jw;by_cases ht:rn.size<=200
      case neg =>
       have ht2:200<rn.size:=by omega
       go_wp2_with fail;all_goals(go_ret;exact⟨true,rfl,HB.out,λh=>by cases h⟩)
      have ht0:=ht;clear ht;by_cases ht:n5<=40
      case neg =>
       have ht2:40<n5:=by omega
       go_wp2_with fail;all_goals(go_ret;exact⟨true,rfl,HB.out,λh=>by cases h⟩)
      have ht1:=ht;clear ht;go_wp2_with fail;clear b0 b1 b2;go_loopw [5] (λi wr=>∃(k:Nat),k<=n5/\i=.int .i64 k/\Hid (∀ i (h:i<rf.length),i<k->Chk.okF rf[i])/\Hid (Below w.heap.size w wr)/\Hid (Bk wr w.heap.size 28 S)/\Hid (Bk wr W1.heap.size 42 S1)) (λi _=>n5 - (intOf i).toNat)
      case atStart=>exact⟨0,by omega,rfl,hid (λi _ hi=>absurd hi (Nat.not_lt_zero _)),HB,HQ,HR1⟩
      case round =>
       clear HB HQ HR1;obtain⟨k2,hk2,rfl,HP2,HB,HQ,HR1⟩:=hrel;obtain⟨W2,rfl⟩:∃ w',w'=wr:=⟨_,rfl⟩;have i20:(0:Int)<=(k2:Int):=by omega
       have jw:=HR1.out;rw[HS1.out]at jw;obtain⟨⟨b0,b1,b2⟩,-⟩:=jw.k3;clear jw;by_cases hlt2:k2<n5
       case neg =>
        have hnew:∀ i (h:i<x.records.length),i<(k1+1)->Chk.okR x.records[i]:=λi h hi=>by
         rcases Nat.lt_or_eq_of_le (Nat.le_of_lt_succ hi)with h1|rfl
         ·exact HP1.out i h h1
         ·rw[Hr.out];exact⟨ht0,by have:=HN5.out;simp only;omega,λj hj=>HP2.out j hj (by have:=HN5.out;simp only at hj;omega)⟩
        go_wp2_with fail;go_roundw
        case rel=>exact⟨k1+1,by omega,by go_num,hid (hnew),HB,HQ⟩
        case measure=>simp[intOf];omega
       have hkb:k2<rf.length:=by rw[<-HN5.out];exact hlt2
       obtain⟨g2,off2,cs,rfl,-,⟨u,he,HU⟩,hc⟩:=ah.get H5.out hkb (by omega);obtain⟨y,Hy⟩:∃ y,Hid (∀ h:k2<rf.length,rf[k2]'h=y):=⟨rf[k2]'hkb,hid (λ_=>rfl)⟩;rw[Hy.out hkb]at he HU;obtain⟨yn,yt⟩:=y;subst he;simp only at HU hc;obtain⟨A7,n7,c7,rfl⟩:=ah.is HU;have hn7:n7=yt.length:=by obtain⟨_,_,e,_⟩:=ah.slice HU;injection e
       have hm7:n7<=9223372036854775807:=by obtain⟨_,_,e,_,_⟩:=ah.slice HU;injection e;omega
       have HN7:=hid hn7;have H7:=hid HU;have hB:=HB.out;have a0:=hc 0 _ rfl;have a1:=hc 1 _ rfl;have bV:g2<w.heap.size:=xH w _ a0;have f0:=a0;have f1:=a1;have a0:=(hB.cell bV).trans a0;have a1:=(hB.cell bV).trans a1;simp only[xK]at a0 f0;have HA0:=hid f0;have HA1:=hid f1;have i21:(k2:Int)<(n5:Int):=by omega
       clear hc hB hkb HU hn7 f0 f1;by_cases ht:yn.size<=200
       case neg =>
        have ht2:200<yn.size:=by omega
        go_wp2_with fail;all_goals(go_ret;exact⟨true,rfl,HB.out,λh=>by cases h⟩)
       have hu0:=ht;clear ht;by_cases ht:n7<=40
       case neg =>
        have ht2:40<n7:=by omega
        go_wp2_with fail;all_goals(go_ret;exact⟨true,rfl,HB.out,λh=>by cases h⟩)
       have hu1:=ht;clear ht;go_wp2_with fail;clear a0 a1 b0 b1 b2;go_loopw [6] (λi wr=>∃(k:Nat),k<=n7/\i=.int .i64 k/\Hid (∀ i (h:i<yt.length),i<k->Chk.okS yt[i])/\Hid (Below w.heap.size w wr)/\Hid (Bk wr w.heap.size 28 S)/\Hid (Bk wr W1.heap.size 42 S1)) (λi _=>n7 - (intOf i).toNat)
       case atStart=>exact⟨0,by omega,rfl,hid (λi _ hi=>absurd hi (Nat.not_lt_zero _)),HB,HQ,HR1⟩
       case round =>
        clear HB HQ HR1;obtain⟨k3,hk3,rfl,HP3,HB,HQ,HR1⟩:=hrel;obtain⟨W3,rfl⟩:∃ w',w'=wr:=⟨_,rfl⟩;have i30:(0:Int)<=(k3:Int):=by omega
        have jw:=HR1.out;rw[HS1.out]at jw;obtain⟨⟨b0,b1,b2⟩,-⟩:=jw.k3;clear jw;have a1:=(HB.out.cell bV).trans HA1.out;by_cases hlt3:k3<n7
        case neg =>
         have hnew:∀ i (h:i<rf.length),i<(k2+1)->Chk.okF rf[i]:=λi h hi=>by
          rcases Nat.lt_or_eq_of_le (Nat.le_of_lt_succ hi)with h1|rfl
          ·exact HP2.out i h h1
          ·rw[Hy.out];exact⟨hu0,by have:=HN7.out;simp only;omega,λj hj=>HP3.out j hj (by have:=HN7.out;simp only at hj;omega)⟩
         go_wp2_with fail;go_roundw
         case rel=>exact⟨k2+1,by omega,by go_num,hid (hnew),HB,HQ,HR1⟩
         case measure=>simp[intOf];omega
        have hkc:k3<yt.length:=by rw[<-HN7.out];exact hlt3
        obtain⟨g3,aa8,cs,rfl,-,he,hc⟩:=ah.get H7.out hkc (by omega);obtain⟨z,Hz⟩:∃ z,Hid (∀ h:k3<yt.length,yt[k3]'h=z):=⟨yt[k3]'hkc,hid (λ_=>rfl)⟩;rw[Hz.out hkc]at he;obtain⟨zk,zn⟩:=z;unfold Id.dF Id.Srt.cells at he;subst he;have s0:=hc 0 _ rfl;have s1:=hc 1 _ rfl;have Y9:g3<w.heap.size:=xH w _ s0;have s0:=(HB.out.cell Y9).trans s0;have s1:=(HB.out.cell Y9).trans s1;simp only[xK]at s0;have i31:(k3:Int)<(n7:Int):=by omega
        clear hc hkc;by_cases ht:zn.size<=200
        case neg =>
         have ht2:200<zn.size:=by omega
         go_wp2_with fail;all_goals(go_ret;exact⟨true,rfl,HB.out,λh=>by cases h⟩)
        have hz0:=ht;clear ht;have hnew:∀ i (h:i<yt.length),i<(k3+1)->Chk.okS yt[i]:=λi h hi=>by
         rcases Nat.lt_or_eq_of_le (Nat.le_of_lt_succ hi)with h1|rfl
         ·exact HP3.out i h h1
         ·rw[Hz.out];exact hz0
        go_wp2_with fail;go_roundw
        case rel=>exact⟨k3+1,by omega,by go_num,hid (hnew),HB,HQ,HR1⟩
        case measure=>simp[intOf];omega
end
section
open Go.ChangeShapes Go.Deep Go.Joins Go.RowKit Go.WideShapes
section
variable {H : Type} {enc : TypeId × Value -> H} {P : Program} {w : World} {base : Nat} {spare : Nat -> Bool} {held : Bool}
theorem ER{α β:Type}(p:α->β->Prop):∀(vs:List α),(∀ x∈vs,∃ b,p x b)->∃ l:List β,l.length=vs.length/\∀ i (h:i<vs.length)(h':i<l.length),p vs[i] l[i]
 |[],_=>⟨[],rfl,λi h=>absurd h (Nat.not_lt_zero _)⟩
 |x::vs,h=>by
  obtain⟨b,hb⟩:=h x (by simp);obtain⟨l,hl,hp⟩:=ER p vs (λy hy=>h y (by simp[hy]));refine⟨b::l,by simp[hl],λi hi hi'=>?_⟩;match i with
  |0=>exact hb
  |i+1=>exact hp i (by simpa using hi) (by simpa using hi')
theorem RD{α:Type}(E:World->List Value->α->Prop){t e:TypeId}{fs:Array Field}{fuel:Nat}{v:Value}{x:DataW H × List MemPlace}(ht:P.underlying t=some (.slice e))(he:P.underlying e=some (.struct fs))
  (hone:oneCellFields P fs=true) (hC:P.cellsOf e=fs.size) (hpos:0<fs.size) (h:DataW.trod enc P w base spare held fuel t [v]=some x)
  (hE:∀ cs:List Value,cs.length=fs.size->(∀(j:Nat)(f:Field),fs[j]?=some f->∃(u:Value)(k:Nat)(y:DataW H × List MemPlace),cs[j]?=some u/\DataW.trod enc P w base spare held k f.type [u]=some y)->∃ a:α,E w cs a) :
  ∃ l:List α,ah w none e fs.size E v l:=by
 obtain⟨A,n,c,vs,rfl,hnc,hc,hA,hvl,Vb,hx⟩:=OL ht he hone hC hpos h;obtain⟨l,hl,hp⟩:=ER (λcs a=>E w cs a) vs (λcs hcs=>hE cs (hx cs hcs).1 (hx cs hcs).2);have hsz:∀ cs∈vs,cs.length=fs.size:=λcs hcs=>(hx cs hcs).1
 exact⟨l,vs,hl.symm,hsz,⟨by rw[kD hsz,hl],A,c,by rw[hl,hvl],by rw[hl,hvl];exact hnc,by unfold maxLen at hc;omega,λe=>by rw[hl,hvl];exact hA e,Vb⟩,hp⟩
end
theorem RS{q:IntKind}(hq:q.min=0){n:Int}(h:(Lit.int q n).wf=true):∃ k:Nat,n=k:=by
 have:0<=n:=by simp[Lit.wf,hq]at h;omega
 exact⟨n.toNat,by omega⟩
section
variable {H : Type} {enc : TypeId × Value -> H} {w : World} {base : Nat} {spare : Nat -> Bool} {held : Bool}
end
end
namespace Chk
open Id
def apart(a b:ByteArray):Prop:=(a.toList==b.toList)=false
end Chk
section
open Go.BigFrame Go.RowKit
structure Chk.Lx(w wr:World)(S:Array Value):Prop where
 bel:Below w.heap.size w wr
 box:Bk wr w.heap.size 28 S
theorem Chk.Lx.below{w wr w':World}{S:Array Value}(h:Chk.Lx w wr S)(hb:Below wr.heap.size wr w'):Chk.Lx w w' S:=⟨h.bel.trans (hb.mono h.bel.size),h.box.below hb h.box.lt⟩
theorem Chk.Lx.start{w wr:World}{S:Array Value}(h:wr=w.alloc (.cells S 28)):Chk.Lx w wr S:=by
 subst h;exact⟨(Below.refl _ _).alloc (xB _) _,Bk.new _ _ _⟩
theorem Chk.Lx.only{w wr w':World}{S:Array Value}{e:TypeId}(h:Chk.Lx w wr S)(hb:Below w.heap.size wr w')(ho:Only e wr w')(he:28≠e):Chk.Lx w w' S:=⟨h.bel.trans hb,ho.bk h.box he⟩
end
namespace Chk
open Id
def lvl(rs:List Rec)(l:List Bool)(n:ByteArray):Bool:=match rs,l with
 |r::rs,b::l=>if r.name.toList==n.toList then b else lvl rs l n
 |_,_=>false
def lvT(rs:List Rec)(l:List Bool)(t:List Srt):Bool:=match t with
 |[]=>false
 |x::_=>x.kind != 7||lvl rs l x.name
def Le(a b:List Bool):Prop:=a.length=b.length/\∀ i,∀(h:i<a.length)(h':i<b.length),a[i]=true->b[i]=true
theorem J8:∀{rs:List Rec}{a b:List Bool}{n:ByteArray},Le a b->lvl rs a n=true->lvl rs b n=true
 |[],a,b,n,_,h=>by unfold lvl at h;cases h
 |r::rs,[],b,n,_,h=>by unfold lvl at h;cases h
 |r::rs,x::a,[],n,hl,h=>by have:=hl.1;simp at this
 |r::rs,x::a,y::b,n,hl,h=>by
  unfold lvl at h ⊢;split at h
  next hn=>rw[if_pos hn];exact hl.2 0 (by simp) (by simp) h
  next hn =>
   rw[if_neg hn];refine J8 ⟨by have:=hl.1;simpa using this,λi h1 h2 h3=>?_⟩ h;have:=hl.2 (i+1) (by simp;omega) (by simp;omega) (by simpa using h3);simpa using this
theorem JB{rs:List Rec}{a b:List Bool}(h:Le a b){t:List Srt}(ht:lvT rs a t=true):lvT rs b t=true:=by
 cases t with
 |nil=>exact ht
 |cons x t =>
  unfold lvT at ht ⊢;rw[Bool.or_eq_true]at ht ⊢;exact ht.imp id (J8 h)
def YQ(x:Sch):List (ByteArray × List ByteArray):=x.records.map (λr=>(r.name,r.fields.map (·.name)))++(x.services.map (λv=>(v.name,v.methods.map (·.name)))++x.sagas.map (λg=>(g.name,[])))
def Vr(p:ByteArray × Nat):Value:=.tuple #[.string p.1,.int .i64 (p.2:Int)]
end Chk
section
open Go.BigFrame Go.RowKit
namespace Prn
open Id Chk
theorem rF{α β:Type}{f:α->List β}{l:List α}{m:Nat}(h:∀ a∈l,(f a).length<=m):(l.flatMap f).length<=l.length * m:=by
 induction l with
 |nil=>simp
 |cons a l ih =>
  rw[yJ,xI,xJ,Nat.succ_mul];have:=h a (by simp);have:=ih (λb hb=>h b (by simp[hb]));omega
theorem Pg{m:Nat}:∀{l:List ByteArray},(∀ u∈l,u.size<=m)->(jl l).length<=l.length * (m+1)
 |[],h=>by simp[jl]
 |a::l,h=>by
  have h1:a.data.toList.length<=m:=by have:=h a (by simp);simpa using this
  have h2:(l.flatMap λu=>32::u.data.toList).length<=l.length * (m+1):=rF (λu hu=>by have:=h u (by simp[hu]);simpa using this);show(a.data.toList++_).length<=_
  rw[xI,xJ,Nat.succ_mul];omega
theorem Xr{f:Fld}(h:f.type.length<=1000):(iP f).length<=1003:=by simp[iP];omega
theorem WS{x:Sch}(h:Fine x){r:Rec}(hr:r∈x.records):(iZ r).length<=99301:=by
 obtain⟨_,h2,h3⟩:=h.re r hr;have:=rF (f:=iP) (l:=r.fields) (λf hf=>Xr (h3 f hf).2.1);have h4:r.fields.length * 1003<=99 * 1003:=Nat.mul_le_mul_right _ h2;simp only[iZ,xJ,xI,xO];omega
theorem TL(m:Mth):(kM m).length<=2:=by unfold kM;split<;>simp
theorem WH{x:Sch}(h:Fine x){v:Svc}(hv:v∈x.services):(jO v).length<=99301:=by
 obtain⟨_,h2,_⟩:=h.sv v hv;have:=rF (f:=gZ) (l:=v.methods) (m:=10) (λm _=>by have:=TL m;simp[gZ];omega);have h4:v.methods.length * 10<=99 * 10:=Nat.mul_le_mul_right _ h2;simp only[jO,xJ,xI,xO];omega
theorem WM{x:Sch}(h:Fine x){g:Sag}(hg:g∈x.sagas):(kV g).length<=99301:=by
 obtain⟨_,h2,_⟩:=h.sa g hg;have:=rF (f:=mZ) (l:=g.steps) (m:=7) (λm _=>by simp[mZ]);have h4:g.steps.length * 7<=99 * 7:=Nat.mul_le_mul_right _ h2;simp only[kV,xJ,xI,xO];omega
theorem Nh{x:Sch}(h:Fine x):(iW x).length<=297903003:=by
 have h1:=rF (f:=iZ) (λr hr=>WS h hr);have h2:=rF (f:=jO) (λr hr=>WH h hr);have h3:=rF (f:=kV) (λr hr=>WM h hr);have k1:x.records.length * 99301<=1000 * 99301:=Nat.mul_le_mul_right _ h.recs;have k2:x.services.length * 99301<=1000 * 99301:=Nat.mul_le_mul_right _ h.oW;have k3:x.sagas.length * 99301<=1000 * 99301:=Nat.mul_le_mul_right _ h.oZ;simp only[iW,xJ,xI];omega
theorem TU{x:Sch}(h:Right x):∀ u∈iW x,u.size<=32:=by
 have:=Rt (Jl (mP h));rwa [IG]at this
theorem XY{x:Sch}(h:Right x)(hF:Fine x):(jl (iW x)).length<=9830799099:=by
 have h1:=Pg (TU h);have h2:(iW x).length * (32+1)<=297903003 * (32+1):=Nat.mul_le_mul_right _ (Nh hF);omega
theorem Gf{x:Sch}(h:Right x){g:Sag}(hg:g∈x.sagas):∀ p∈g.steps,0<=p.at_/\p.at_<100:=λp hp=>by
 have:=(mP h).gs g hg p hp;exact⟨this.lo,by have:=this.hi;omega⟩
theorem Nv(l:List ByteArray):(jn l).size=(jl l).length:=by simp[jn,ByteArray.size]
noncomputable def text(x:Sch):ByteArray × Nat:=if(check x).2≠0 then(⟨#[]⟩,(check x).2)else if 65536<(jn (iW x)).size then(⟨#[]⟩,3)else(jn (iW x),0)
theorem text_size(x:Sch):(text x).1.size<=65536:=by
 unfold text;split
 ·exact Nat.zero_le _
 ·split
  ·exact Nat.zero_le _
  next h=>show(jn (iW x)).size<=65536;omega
noncomputable def print(x:Sch):Nat × Nat:=if(text x).2≠0 then(0,(text x).2)else(Sm.print (text x).1.data.toList,0)
end Prn
theorem Gs(v:Value)(x:Id.Sch)(hF:Chk.Fine x)(w:World)(hk:Tk.KW w)(hv:Id.aY w none v x) :
  Calls Tryz.prog 13 #[v] w λe w'=>e=.returned (Chk.Vr (Prn.text x))/\Below w.heap.size w w':=by
 obtain⟨R,HR⟩:∃ R,Hid (Prn.text x=R):=⟨_,hid rfl⟩;rw[HR.out];have HF:=hid hF;have HKW:=hid hk;have HV:=hid hv;obtain⟨A1,n1,c1,A2,n2,c2,A3,n3,c3,rfl,r1,r2,r3⟩:=hv;have HN1:Hid (n1=x.records.length):=hid (by obtain⟨_,_,e,_⟩:=ah.slice r1;injection e);have hm1:n1<=9223372036854775807:=by obtain⟨_,_,e,_,_⟩:=ah.slice r1;injection e;omega
 have H1:=hid r1;have HN2:Hid (n2=x.services.length):=hid (by obtain⟨_,_,e,_⟩:=ah.slice r2;injection e);have hm2:n2<=9223372036854775807:=by obtain⟨_,_,e,_,_⟩:=ah.slice r2;injection e;omega
 have H2:=hid r2;have HN3:Hid (n3=x.sagas.length):=hid (by obtain⟨_,_,e,_⟩:=ah.slice r3;injection e);have hm3:n3<=9223372036854775807:=by obtain⟨_,_,e,_,_⟩:=ah.slice r3;injection e;omega
 have H3:=hid r3;clear r1 r2 r3 hk hF;go_enter Tryz.func13,Tryz.ntmps13;go_upto_region 1 with(fail)
 refine ak (λV hV=>?_);have HL:=hid (Chk.Lx.start hV);clear hV;obtain⟨⟨q0,q1,q2,q3⟩,-⟩:=HL.out.box.k4;obtain⟨p,Hp⟩:∃ p,Hid (Chk.check x=p):=⟨_,hid rfl⟩;go_wp2_with fail;refine(zT _ x HF.out _ (HKW.out.below HL.out.bel) (Id.aY.below HL.out.bel HV.out)).mono ?_;rw[Hp.out];rintro e W1⟨rfl,hb⟩;have HLx:=hid (HL.out.below hb);clear HL hb q0 q1 q2 q3;obtain⟨ps,pe⟩:=p;simp only;by_cases hpe:pe=0
 case neg =>
  have HE:Hid (R=(⟨#[]⟩,pe)):=hid (by rw[<-HR.out];unfold Prn.text;rw[Hp.out,if_pos hpe]);have t1:((pe:Int) != 0)=true:=by rw[bne_iff_ne];omega
  have t2:¬(pe:Int)=0:=by omega
  have t3:((pe:Int)==0)=false:=by rw[xG];omega
  clear hpe;go_wp2_with fail;go_ret2;exact⟨by rw[HE.out];rfl,HLx.out.bel⟩
 subst hpe;have hRt:=Chk.qp (x:=x) (by rw[Hp.out]);have HRt:=hid hRt;have HRR:Hid ((if 65536<(Prn.jn (Prn.iW x)).size then((⟨#[]⟩:ByteArray),3)else(Prn.jn (Prn.iW x),0))=R):=hid (by rw[<-HR.out];unfold Prn.text;rw[Hp.out];exact(if_neg (by simp)).symm);have HJL:=hid (Prn.XY hRt HF.out);have HLEN:=hid (Prn.Nh HF.out);clear hRt HR Hp;obtain⟨⟨q0,q1,q2,q3⟩,-⟩:=HLx.out.box.k4;have bq:=HLx.out.bel.size;go_upto_region 5 with(fail)
 refine ak (λW2 hW=>?_);obtain⟨hbx,hqx,-⟩:=ay hW;have HBX:=hid (HLx.out.box.below hbx HLx.out.box.lt);have hb2:=HLx.out.bel.trans (hbx.mono bq);have hwr:Prn.Wr W2 w.heap.size W1.heap.size []:=⟨bq,hb2.size,_,hqx,ah.nil _ _ _ _ _⟩;have HP:=hid (Prn.Put.start hb2 hwr);clear hW hbx hqx hb2 hwr HLx q0 q1 q2 q3;obtain⟨⟨q0,q1,q2,q3⟩,-⟩:=HBX.out.k4;have HSW:Hid (Prn.iW x=[Id.bT,x.name,Id.aK]++x.records.flatMap Prn.iZ++x.services.flatMap Prn.jO++x.sagas.flatMap Prn.kV):=hid (by simp[Prn.iW]);have hlen:(x.records.flatMap Prn.iZ).length+(x.services.flatMap Prn.jO).length+(x.sagas.flatMap Prn.kV).length+3<=297903003:=by have h:=HLEN.out;rw[HSW.out]at h;simp only[xI,xJ,xO]at h;omega
 have Qs:=HBX;go_wp2_with fail;refine(fJ W1.heap.size [] [Id.bT,x.name,Id.aK] 3 #[.string Id.bT,.string x.name,.string Id.aK] rfl rfl w W2 _ _ HP.out (by simp)).mono ?_;rintro e W3⟨rfl,hp⟩;have HP3:=hid hp;have YE:=hp.on.bk Qs.out (by decide) (by decide);clear hp HP q0 q1 q2 q3;have HBX:=hid YE;clear YE;obtain⟨⟨q0,q1,q2,q3⟩,-⟩:=HBX.out.k4;go_wp2_with fail;go_loopw [32] (λi wr=>∃(k:Nat),k<=n1/\i=.int .i64 k/\Hid (Prn.Put w W2 W1.heap.size [] ([Id.bT,x.name,Id.aK]++(x.records.take k).flatMap Prn.iZ) wr)) (λi _=>n1 - (intOf i).toNat)
 case atStart=>exact⟨0,by omega,rfl,HP3⟩
 case round =>
  clear q0 q1 q2 q3 HP3 HBX;obtain⟨k,hk,rfl,HP⟩:=hrel;obtain⟨V1,rfl⟩:∃ w',w'=wr:=⟨_,rfl⟩;have ik0:(0:Int)<=(k:Int):=by omega
  have HBX:=hid (HP.out.on.bk Qs.out (by decide) (by decide));obtain⟨⟨q0,q1,q2,q3⟩,-⟩:=HBX.out.k4;by_cases hlt:k<n1
  case neg =>
   have HPn:Hid (Prn.Put w W2 W1.heap.size [] ([Id.bT,x.name,Id.aK]++x.records.flatMap Prn.iZ) V1):=hid (by have h:=HP.out;rw[yE (by have:=HN1.out;omega)]at h;exact h);clear HP;go_wp2_with fail;go_loopw [43] (λi wr=>∃(k:Nat),k<=n2/\i=.int .i64 k/\Hid (Prn.Put w W2 W1.heap.size [] ([Id.bT,x.name,Id.aK]++x.records.flatMap Prn.iZ++(x.services.take k).flatMap Prn.jO) wr)) (λi _=>n2 - (intOf i).toNat)
   case atStart=>exact⟨0,by omega,rfl,hid (HPn.out.cast (by rw[List.take_zero,List.flatMap_nil,List.append_nil]))⟩
   case round =>
    clear q0 q1 q2 q3 HPn HBX;obtain⟨k,hk,rfl,HP⟩:=hrel;obtain⟨V1,rfl⟩:∃ w',w'=wr:=⟨_,rfl⟩;have ik0:(0:Int)<=(k:Int):=by omega
    have HBX:=hid (HP.out.on.bk Qs.out (by decide) (by decide));obtain⟨⟨q0,q1,q2,q3⟩,-⟩:=HBX.out.k4;by_cases hlt:k<n2
    case neg =>
     have HPn:Hid (Prn.Put w W2 W1.heap.size [] ([Id.bT,x.name,Id.aK]++x.records.flatMap Prn.iZ++x.services.flatMap Prn.jO) V1):=hid (by have h:=HP.out;rw[yE (by have:=HN2.out;omega)]at h;exact h);clear HP;go_wp2_with fail;go_loopw [54] (λi wr=>∃(k:Nat),k<=n3/\i=.int .i64 k/\Hid (Prn.Put w W2 W1.heap.size [] ([Id.bT,x.name,Id.aK]++x.records.flatMap Prn.iZ++x.services.flatMap Prn.jO++(x.sagas.take k).flatMap Prn.kV) wr)) (λi _=>n3 - (intOf i).toNat)
     case atStart=>exact⟨0,by omega,rfl,hid (HPn.out.cast (by rw[List.take_zero,List.flatMap_nil,List.append_nil]))⟩
     case round =>
      clear q0 q1 q2 q3 HPn HBX;obtain⟨k,hk,rfl,HP⟩:=hrel;obtain⟨V1,rfl⟩:∃ w',w'=wr:=⟨_,rfl⟩;have ik0:(0:Int)<=(k:Int):=by omega
      have HBX:=hid (HP.out.on.bk Qs.out (by decide) (by decide));obtain⟨⟨q0,q1,q2,q3⟩,-⟩:=HBX.out.k4;by_cases hlt:k<n3
      case neg =>
       have HPn:Hid (Prn.Put w W2 W1.heap.size [] ([Id.bT,x.name,Id.aK]++x.records.flatMap Prn.iZ++x.services.flatMap Prn.jO++x.sagas.flatMap Prn.kV) V1):=hid (by have h:=HP.out;rw[yE (by have:=HN3.out;omega)]at h;exact h);clear HP;have HPz:Hid (Prn.Put w W2 W1.heap.size [] (Prn.iW x) V1):=hid (HPn.out.cast HSW.out.symm);clear HPn;go_wp2_with fail;refine(Eu W1.heap.size (Prn.iW x) w.heap.size V1 (by have h:=HPz.out.wr;rw[yI]at h;exact h) (by have:=HLEN.out;omega) (by have:=HJL.out;omega)).mono ?_;rintro e V9⟨rfl,hb9⟩;have HJ9:Hid (V9=V9):=hid rfl;have HB9:=hid (HPz.out.bel.trans (hb9.mono HPz.out.bel.size));generalize Prn.jn (Prn.iW x)=J at *;clear hb9;by_cases h6:65536<J.size
       case pos =>
        have HE:Hid (R=(⟨#[]⟩,3)):=hid (by rw[<-HRR.out,if_pos h6]);have h6i:(65536:Int)<(J.size:Int):=by omega
        go_wp2_with fail;go_ret2;exact⟨by rw[HE.out];rfl,HB9.out⟩
       have HE:Hid (R=(J,0)):=hid (by rw[<-HRR.out,if_neg h6]);have h6i:¬(65536:Int)<(J.size:Int):=by omega
       go_wp2_with fail;go_ret2;exact⟨by rw[HE.out];rfl,HB9.out⟩
      have hka:k<x.sagas.length:=by rw[<-HN3.out];exact hlt
      have hmem:=xR hka;have hfl:=Prn.kH Prn.kV hka;have HTK:=hid (Prn.nK Prn.kV hka);obtain⟨g1,off1,cs,rfl,-,⟨u,he,HU⟩,hc⟩:=ah.get H3.out hka (by omega);have Zc:=hid (Prn.Gf HRt.out hmem);obtain⟨r,Hr⟩:∃ r,Hid (x.sagas[k]=r):=⟨_,hid rfl⟩;rw[Hr.out]at he HU hfl HTK Zc;subst he;have HU5:=hid HU;obtain⟨A5,n5,c5,rfl⟩:=ah.is HU;have b0:=hc 0 _ rfl;have b1:=hc 1 _ rfl;have b2:=hc 2 _ rfl;simp only[xK]at b0;have bF:g1<w.heap.size:=xH w _ b0;have b0:=(HP.out.bel.cell bF).trans b0;have b1:=(HP.out.bel.cell bF).trans b1;have b2:=(HP.out.bel.cell bF).trans b2;have bqs:=HP.out.bel.size;have wV:¬g1=V1.heap.size:=by omega
      have ik1:(k:Int)<(n3:Int):=by omega
      generalize hM:((x.sagas.take k).flatMap Prn.kV).length=m at hfl;have HM:=hid hM;generalize hM2:(Prn.kV r).length=m2 at hfl;have HM2:=hid hM2;clear hc HU hM hM2 Hr bqs hmem;go_upto_region 19 with(fail)
      refine ak (λV2 hW=>?_);obtain⟨hbx,hqx,-⟩:=ay hW;have HPc:=hid (HP.out.below hbx);obtain⟨⟨d0,d1,d2⟩,-⟩:=hqx.k3;clear hW hbx hqx HP q0 q1 q2 q3 b0 b1 b2;go_wp2_with fail;refine(O6 W1.heap.size _ r _ w V2 HPc.out.bel HPc.out.wr HU5.out Zc.out (by simp only[xI,xJ,xO,HM.out,HM2.out];omega)).mono ?_;rintro e V3⟨rfl,hp⟩;have HPg:Hid (Prn.Put w W2 W1.heap.size [] ([Id.bT,x.name,Id.aK]++x.records.flatMap Prn.iZ++x.services.flatMap Prn.jO++(x.sagas.take (k+1)).flatMap Prn.kV) V3):=hid ((HPc.out.step hp).cast (by rw[HTK.out];simp only[xU,yI]));clear hp;go_wp2_with fail;go_roundw
      case rel=>exact⟨k+1,by omega,by go_num,HPg⟩
      case measure=>simp[intOf]<;>omega
    have hka:k<x.services.length:=by rw[<-HN2.out];exact hlt
    have hmem:=xR hka;have hfl:=Prn.kH Prn.jO hka;have HTK:=hid (Prn.nK Prn.jO hka);obtain⟨g1,off1,cs,rfl,-,⟨u,he,HU⟩,hc⟩:=ah.get H2.out hka (by omega);obtain⟨r,Hr⟩:∃ r,Hid (x.services[k]=r):=⟨_,hid rfl⟩;rw[Hr.out]at he HU hfl HTK;subst he;have HU5:=hid HU;obtain⟨A5,n5,c5,rfl⟩:=ah.is HU;have b0:=hc 0 _ rfl;have b1:=hc 1 _ rfl;simp only[xK]at b0;have bF:g1<w.heap.size:=xH w _ b0;have b0:=(HP.out.bel.cell bF).trans b0;have b1:=(HP.out.bel.cell bF).trans b1;have bqs:=HP.out.bel.size;have wV:¬g1=V1.heap.size:=by omega
    have ik1:(k:Int)<(n2:Int):=by omega
    generalize hM:((x.services.take k).flatMap Prn.jO).length=m at hfl;have HM:=hid hM;generalize hM2:(Prn.jO r).length=m2 at hfl;have HM2:=hid hM2;clear hc HU hM hM2 Hr bqs hmem;go_upto_region 14 with(fail)
    refine ak (λV2 hW=>?_);obtain⟨hbx,hqx,-⟩:=ay hW;have HPc:=hid (HP.out.below hbx);obtain⟨⟨d0,d1⟩,-⟩:=hqx.k2;clear hW hbx hqx HP q0 q1 q2 q3 b0 b1;go_wp2_with fail;refine(Ic W1.heap.size _ r _ w V2 HPc.out.bel HPc.out.wr HU5.out (by simp only[xI,xJ,xO,HM.out,HM2.out];omega)).mono ?_;rintro e V3⟨rfl,hp⟩;have HPg:Hid (Prn.Put w W2 W1.heap.size [] ([Id.bT,x.name,Id.aK]++x.records.flatMap Prn.iZ++(x.services.take (k+1)).flatMap Prn.jO) V3):=hid ((HPc.out.step hp).cast (by rw[HTK.out];simp only[xU,yI]));clear hp;go_wp2_with fail;go_roundw
    case rel=>exact⟨k+1,by omega,by go_num,HPg⟩
    case measure=>simp[intOf]<;>omega
  have hka:k<x.records.length:=by rw[<-HN1.out];exact hlt
  have hmem:=xR hka;have hfl:=Prn.kH Prn.iZ hka;have HTK:=hid (Prn.nK Prn.iZ hka);obtain⟨g1,off1,cs,rfl,-,⟨u,he,HU⟩,hc⟩:=ah.get H1.out hka (by omega);obtain⟨r,Hr⟩:∃ r,Hid (x.records[k]=r):=⟨_,hid rfl⟩;rw[Hr.out]at he HU hfl HTK;subst he;have HU5:=hid HU;obtain⟨A5,n5,c5,rfl⟩:=ah.is HU;have b0:=hc 0 _ rfl;have b1:=hc 1 _ rfl;have b2:=hc 2 _ rfl;simp only[xK]at b0;have bF:g1<w.heap.size:=xH w _ b0;have b0:=(HP.out.bel.cell bF).trans b0;have b1:=(HP.out.bel.cell bF).trans b1;have b2:=(HP.out.bel.cell bF).trans b2;have bqs:=HP.out.bel.size;have wV:¬g1=V1.heap.size:=by omega
  have ik1:(k:Int)<(n1:Int):=by omega
  generalize hM:((x.records.take k).flatMap Prn.iZ).length=m at hfl;have HM:=hid hM;generalize hM2:(Prn.iZ r).length=m2 at hfl;have HM2:=hid hM2;clear hc HU hM hM2 Hr bqs hmem;go_upto_region 9 with(fail)
  refine ak (λV2 hW=>?_);obtain⟨hbx,hqx,-⟩:=ay hW;have HPc:=hid (HP.out.below hbx);obtain⟨⟨d0,d1,d2⟩,-⟩:=hqx.k3;clear hW hbx hqx HP q0 q1 q2 q3 b0 b1 b2;go_wp2_with fail;refine(IZ W1.heap.size _ r _ w V2 HPc.out.bel HPc.out.wr HU5.out (by simp only[xI,xJ,xO,HM.out,HM2.out];omega)).mono ?_;rintro e V3⟨rfl,hp⟩;have HPg:Hid (Prn.Put w W2 W1.heap.size [] ([Id.bT,x.name,Id.aK]++(x.records.take (k+1)).flatMap Prn.iZ) V3):=hid ((HPc.out.step hp).cast (by rw[HTK.out];simp only[xU,yI]));clear hp;go_wp2_with fail;go_roundw
  case rel=>exact⟨k+1,by omega,by go_num,HPg⟩
  case measure=>simp[intOf]<;>omega
theorem zf(v:Value)(x:Id.Sch)(hF:Chk.Fine x)(w:World)(hk:Tk.KW w)(hv:Id.aY w none v x) :
  Calls Tryz.prog 14 #[v] w λe w'=>e=.returned (.tuple #[.int .u64 (Prn.print x).1,.int .i64 (Prn.print x).2])/\Below w.heap.size w w':=by
 obtain⟨R,HR⟩:∃ R,Hid (Prn.print x=R):=⟨_,hid rfl⟩;rw[HR.out];have HF:=hid hF;have HKW:=hid hk;have HV:=hid hv;obtain⟨A1,n1,c1,A2,n2,c2,A3,n3,c3,rfl,r1,r2,r3⟩:=hv;clear r1 r2 r3 hk hF;go_enter Tryz.func14,Tryz.ntmps14;go_upto_region 1 with(fail)
 refine ak (λV hV=>?_);have HL:=hid (Chk.Lx.start hV);clear hV;obtain⟨⟨q0,q1,q2,q3⟩,-⟩:=HL.out.box.k4;have hts:=Prn.text_size x;obtain⟨p,Hp⟩:∃ p,Hid (Prn.text x=p):=⟨_,hid rfl⟩;rw[Hp.out]at hts;go_wp2_with fail;refine(Gs _ x HF.out _ (HKW.out.below HL.out.bel) (Id.aY.below HL.out.bel HV.out)).mono ?_;rw[Hp.out];unfold Chk.Vr;rintro e W1⟨rfl,hb⟩;have HB:=hid (HL.out.bel.trans (hb.mono HL.out.bel.size));clear HL hb q0 q1 q2 q3;obtain⟨ps,pe⟩:=p;simp only at hts ⊢;by_cases hpe:pe=0
 case neg =>
  have HE:Hid (R=(0,pe)):=hid (by rw[<-HR.out];unfold Prn.print;rw[Hp.out,if_pos hpe]);have t1:((pe:Int) != 0)=true:=by rw[bne_iff_ne];omega
  have t2:¬(pe:Int)=0:=by omega
  have t3:((pe:Int)==0)=false:=by rw[xG];omega
  clear hpe;go_wp2_with fail;go_ret2;exact⟨by rw[HE.out];rfl,HB.out⟩
 subst hpe;have HE:Hid (R=(Sm.print ps.data.toList,0)):=hid (by rw[<-HR.out];unfold Prn.print;rw[Hp.out,if_neg (by simp)]);go_wp2_with fail;refine(UE ps (by unfold maxLen;omega) _).mono ?_;rintro e W2⟨rfl,rfl⟩;go_wp2_with fail;go_ret2;exact⟨by rw[HE.out];rfl,HB.out⟩
namespace Prn
open Id Chk
def uH(t:List Srt):ByteArray:=if t.length<=12/\okP t=true then jn (t.map bK)else⟨#[]⟩
theorem U0{t:List Srt}{k:Nat}(h:k+1<t.length):okP (t.drop k)=(mid (t[k]'(by omega))&&okP (t.drop (k+1))):=by
 rw[xQ (show k<t.length by omega),xQ h];rfl
theorem Uz{t:List Srt}{k:Nat}(h:k+1=t.length):okP (t.drop k)=wW (t[k]'(by omega)):=by
 rw[xQ (show k<t.length by omega),xP (by omega)];rfl
theorem Ej{t:List Srt}(h:okP t=true):∀ u∈t.map bK,u.size<=32:=λu hu=>by
 obtain⟨x,hx,rfl⟩:=List.mem_map.1 hu;exact(wH h x hx).2
end Prn
theorem Gq(tv:Value)(t:List Id.Srt)(w:World)(hk:Tk.KW w)(ht:Id.bf w none tv t) :
  Calls Tryz.prog 120 #[tv] w λe w'=>e=.returned (.string (Prn.uH t))/\Below w.heap.size w w':=by
 obtain⟨T,HT⟩:∃ T,Hid (Prn.uH t=T):=⟨_,hid rfl⟩;rw[HT.out];unfold Prn.uH at HT;have HKW:=hid hk;have HS:=hid ht;obtain⟨A,n,c,rfl⟩:=ah.is ht;have HN:Hid (n=t.length):=hid (by obtain⟨_,_,e,_⟩:=ah.slice ht;injection e);have hm:n<=9223372036854775807:=by obtain⟨_,_,e,_,_⟩:=ah.slice ht;injection e;omega
 clear hk ht;by_cases h12:n<=12
 case neg =>
  have HE:Hid (T=⟨#[]⟩):=hid (by rw[<-HT.out,if_neg (by rw[<-HN.out];exact λh=>h12 h.1)]);have h0:((n:Int)==0)=false:=by rw[xG];omega
  have h0b:¬(n:Int)=0:=by omega
  have h1:(12:Int)<(n:Int):=by omega
  have h2:12<n:=by omega
  clear h12;go_enter Tryz.func120,Tryz.ntmps120;go_wp2_with fail;go_ret;exact⟨by rw[HE.out];rfl,Below.refl _ _⟩
 by_cases h00:n=0
 case pos =>
  have HE:Hid (T=⟨#[]⟩):=hid (by rw[<-HT.out,if_neg (by rw[List.length_eq_zero_iff.1 (HN.out.symm.trans h00)];exact λh=>by cases h.2)]);subst h00;try simp only[xY]at *
  go_enter Tryz.func120,Tryz.ntmps120;go_wp2_with fail;go_ret;exact⟨by rw[HE.out];rfl,Below.refl _ _⟩
 obtain⟨R,HR⟩:∃ R,Hid (Prn.okP t=R):=⟨_,hid rfl⟩;have HTT:Hid ((if R=true then Prn.jn (t.map Prn.bK)else⟨#[]⟩)=T):=hid (by rw[<-HT.out,HR.out];simp only[<-HN.out,h12,true_and]);have HNO:Hid (R=false->T=⟨#[]⟩):=hid (λh=>by rw[<-HTT.out,if_neg (by rw[h];decide)]);have h0:((n:Int)==0)=false:=by rw[xG];omega
 have h0b:¬(n:Int)=0:=by omega
 have h1:¬(12:Int)<(n:Int):=by omega
 have h2:¬12<n:=by omega
 have hn1:1<=n:=by omega
 clear h00 HT;go_enter Tryz.func120,Tryz.ntmps120;go_wp2_with fail;go_loopw [17] (λi wr=>∃(k:Nat),k<=n/\i=.int .i64 k/\Hid ((k<n->Prn.okP (t.drop k)=R)/\(k=n->R=true))/\Hid (Below w.heap.size w wr)) (λi _=>n - (intOf i).toNat)
 case atStart=>exact⟨0,by omega,rfl,hid ⟨λ_=>HR.out,λh=>by omega⟩,hid (Below.refl _ _)⟩
 case round =>
  obtain⟨k,hk,rfl,HK,HB⟩:=hrel;obtain⟨V,rfl⟩:∃ w',w'=wr:=⟨_,rfl⟩;have ik0:(0:Int)<=(k:Int):=by omega
  by_cases hlt:k<n
  case neg =>
   obtain rfl:k=n:=by omega
   have hRt:=HK.out.2 rfl;have HRO:Hid (Prn.okP t=true):=hid (by rw[HR.out];exact hRt);have HE:Hid (Prn.jn (t.map Prn.bK)=T):=hid (by rw[<-HTT.out,if_pos hRt]);have hbs:=HB.out.size;clear hRt HK;go_upto_region 24 with(fail)
   refine ak (λW2 hW=>?_);obtain⟨hbx,hqx,-⟩:=ay hW;have HP:=hid (Prn.Put.start (w0:=V) (b:=V.heap.size) (L:=[]) hbx ⟨xB _,hbx.size,_,hqx,ah.nil _ _ _ _ _⟩);clear hW hqx;have HB2:=hid (HB.out.trans (hbx.mono hbs));clear hbx;go_wp2_with fail;refine(rW V.heap.size _ t _ V W2 HP.out.bel HP.out.wr (λw' hb _=>ah.below (ah.below HS.out HB.out (λ_ _ h=>h)) hb (λ_ _ h=>h)) (by simp only[xO,xI,<-HN.out];omega)).mono ?_;rintro e W3⟨rfl,hp⟩;have HP3:=hid (HP.out.step hp);clear hp;go_wp2_with fail;have hjl:=Prn.Pg (Prn.Ej HRO.out);rw[List.length_map,<-HN.out]at hjl;refine(Eu V.heap.size (t.map Prn.bK) V.heap.size W3 (by have h:=HP3.out.wr;rw[yI,yI]at h;exact h) (by simp only[List.length_map,<-HN.out];omega) (by omega)).mono ?_;rw[HE.out];rintro e W4⟨rfl,hb4⟩;have HB4:=hid (HB.out.trans ((HP3.out.bel.trans (hb4.mono HP3.out.bel.size)).mono hbs));clear hb4 hjl;go_wp2_with fail;go_ret;exact⟨rfl,HB4.out⟩
  have hka:k<t.length:=by rw[<-HN.out];exact hlt
  have hK:=HK.out.1 hlt;obtain⟨g,off,cs,rfl,-,e1,hc⟩:=ah.get HS.out hka (by omega);have HX:Hid ((k+1<n->Prn.okP (t.drop k)=(Chk.mid t[k]&&Prn.okP (t.drop (k+1))))/\(k+1=n->Prn.okP (t.drop k)=Prn.wW t[k])):=hid ⟨λh=>Prn.U0 (by rw[<-HN.out];exact h),λh=>Prn.Uz (by rw[<-HN.out];exact h)⟩;obtain⟨⟨yk,yn⟩,Hy⟩:∃ y,Hid (t[k]=y):=⟨_,hid rfl⟩;rw[hK,Hy.out]at HX;rw[Hy.out]at e1;unfold Id.dF Id.Srt.cells at e1;subst e1;have a0:=hc 0 _ rfl;have a1:=hc 1 _ rfl;simp only[xK]at a0;have hgl:g<w.heap.size:=xH w _ a0;have a0:=(HB.out.cell hgl).trans a0;have a1:=(HB.out.cell hgl).trans a1;have hbs:=HB.out.size;have wV:¬g=V.heap.size:=by omega
  have ik1:(k:Int)<(n:Int):=by omega
  clear hc Hy hka hK HK;go_upto_region 6 with(fail)
  refine ak (λV1 hW=>?_);obtain⟨hbx,hqx,-⟩:=ay hW;have HB1:=hid (HB.out.trans (hbx.mono hbs));obtain⟨⟨b0,b1⟩,-⟩:=hqx.k2;clear hW hbx hqx a0 a1 HB;by_cases hl:k+1=n
  case pos =>
   have hf:=HX.out.2 hl;have HFN:=hid hf;have l1:((k:Int)==(n:Int) - 1)=true:=by rw[beq_iff_eq];omega
   have l2:(k:Int)=(n:Int) - 1:=by omega
   clear hf;by_cases h5:yk=5
   case pos =>
    subst h5;have HE:Hid (T=⟨#[]⟩):=hid (HNO.out (HFN.out.trans rfl));clear HX;go_wp2_with fail;go_ret;exact⟨by rw[HE.out];rfl,HB1.out⟩
   by_cases h6:yk=6
   case pos =>
    subst h6;have HE:Hid (T=⟨#[]⟩):=hid (HNO.out (HFN.out.trans rfl));clear HX;go_wp2_with fail;go_ret;exact⟨by rw[HE.out];rfl,HB1.out⟩
   by_cases h1:yk=1
   case pos =>
    subst h1;have hf:R=yn.toList.isEmpty:=HFN.out;cases hne:yn.toList.isEmpty
    case false =>
     have HE:Hid (T=⟨#[]⟩):=hid (HNO.out (hf.trans hne));clear HX;go_wp2_with fail;go_ret;exact⟨by rw[HE.out];rfl,HB1.out⟩
    have hRt:R=true:=hf.trans hne;clear hf;have HK2:Hid ((k+1<n->Prn.okP (t.drop (k+1))=R)/\(k+1=n->R=true)):=hid (⟨λh=>by omega,λ_=>hRt⟩);clear HX;go_wp2_with fail;go_roundw
    case rel=>exact⟨k+1,by omega,by go_num,HK2,HB1⟩
    case measure=>simp[intOf]<;>omega
   by_cases h2:yk=2
   case pos =>
    subst h2;have hf:R=yn.toList.isEmpty:=HFN.out;cases hne:yn.toList.isEmpty
    case false =>
     have HE:Hid (T=⟨#[]⟩):=hid (HNO.out (hf.trans hne));clear HX;go_wp2_with fail;go_ret;exact⟨by rw[HE.out];rfl,HB1.out⟩
    have hRt:R=true:=hf.trans hne;clear hf;have HK2:Hid ((k+1<n->Prn.okP (t.drop (k+1))=R)/\(k+1=n->R=true)):=hid (⟨λh=>by omega,λ_=>hRt⟩);clear HX;go_wp2_with fail;go_roundw
    case rel=>exact⟨k+1,by omega,by go_num,HK2,HB1⟩
    case measure=>simp[intOf]<;>omega
   by_cases h3:yk=3
   case pos =>
    subst h3;have hf:R=yn.toList.isEmpty:=HFN.out;cases hne:yn.toList.isEmpty
    case false =>
     have HE:Hid (T=⟨#[]⟩):=hid (HNO.out (hf.trans hne));clear HX;go_wp2_with fail;go_ret;exact⟨by rw[HE.out];rfl,HB1.out⟩
    have hRt:R=true:=hf.trans hne;clear hf;have HK2:Hid ((k+1<n->Prn.okP (t.drop (k+1))=R)/\(k+1=n->R=true)):=hid (⟨λh=>by omega,λ_=>hRt⟩);clear HX;go_wp2_with fail;go_roundw
    case rel=>exact⟨k+1,by omega,by go_num,HK2,HB1⟩
    case measure=>simp[intOf]<;>omega
   by_cases h4:yk=4
   case pos =>
    subst h4;have hf:R=yn.toList.isEmpty:=HFN.out;cases hne:yn.toList.isEmpty
    case false =>
     have HE:Hid (T=⟨#[]⟩):=hid (HNO.out (hf.trans hne));clear HX;go_wp2_with fail;go_ret;exact⟨by rw[HE.out];rfl,HB1.out⟩
    have hRt:R=true:=hf.trans hne;clear hf;have HK2:Hid ((k+1<n->Prn.okP (t.drop (k+1))=R)/\(k+1=n->R=true)):=hid (⟨λh=>by omega,λ_=>hRt⟩);clear HX;go_wp2_with fail;go_roundw
    case rel=>exact⟨k+1,by omega,by go_num,HK2,HB1⟩
    case measure=>simp[intOf]<;>omega
   by_cases h7:yk=7
   case pos =>
    subst h7;have HF7:Hid (R=Tk.isName yn):=hid HFN.out;obtain⟨b,HBN⟩:∃ b,Hid (Tk.isName yn=b):=⟨_,hid rfl⟩;go_wp2_with fail;refine(name_any yn _ (HKW.out.below HB1.out)).mono ?_;rw[HBN.out];rintro e V2⟨rfl,hb2⟩;have HBz:=hid (HB1.out.trans (hb2.mono HB1.out.size));clear hb2 b0 b1;cases b
    case false =>
     have HE:Hid (T=⟨#[]⟩):=hid (HNO.out (HF7.out.trans HBN.out));go_wp2_with fail;go_ret;exact⟨by rw[HE.out];rfl,HBz.out⟩
    have hRt:R=true:=HF7.out.trans HBN.out;have HK2:Hid ((k+1<n->Prn.okP (t.drop (k+1))=R)/\(k+1=n->R=true)):=hid (⟨λh=>by omega,λ_=>hRt⟩);clear HX;go_wp2_with fail;go_roundw
    case rel=>exact⟨k+1,by omega,by go_num,HK2,HBz⟩
    case measure=>simp[intOf]<;>omega
   have hRf:R=false:=by rw[HFN.out];unfold Prn.wW;simp only[h1,h2,h3,h4,h7,false_or,or_self,if_false]
   have t5:((yk:Int)==5)=false:=by rw[xG];omega
   have t6:((yk:Int)==6)=false:=by rw[xG];omega
   have t1:((yk:Int)==1)=false:=by rw[xG];omega
   have t2:((yk:Int)==2)=false:=by rw[xG];omega
   have t3:((yk:Int)==3)=false:=by rw[xG];omega
   have t4:((yk:Int)==4)=false:=by rw[xG];omega
   have t7:((yk:Int)==7)=false:=by rw[xG];omega
   have HRF:=hid hRf;clear hRf h5 h6 h1 h2 h3 h4 h7;have HE:Hid (T=⟨#[]⟩):=hid (HNO.out (HRF.out));clear HX;go_wp2_with fail;go_ret;exact⟨by rw[HE.out];rfl,HB1.out⟩
  have hf:=HX.out.1 (by omega);have HFN:=hid hf;have l1:((k:Int)==(n:Int) - 1)=false:=by rw[xG];omega
  have l2:¬(k:Int)=(n:Int) - 1:=by omega
  clear hf;by_cases h5:yk=5
  case pos =>
   subst h5;have hf:R=(yn.toList.isEmpty&&Prn.okP (t.drop (k+1))):=HFN.out;cases hne:yn.toList.isEmpty
   case false =>
    have HE:Hid (T=⟨#[]⟩):=hid (HNO.out (by rw[hf,hne];rfl));clear HX;go_wp2_with fail;go_ret;exact⟨by rw[HE.out];rfl,HB1.out⟩
   have HK3:Hid (Prn.okP (t.drop (k+1))=R):=hid (by rw[hf,hne];rfl);clear hf;have HK2:Hid ((k+1<n->Prn.okP (t.drop (k+1))=R)/\(k+1=n->R=true)):=hid (⟨λ_=>HK3.out,λh=>absurd h hl⟩);clear HX;go_wp2_with fail;go_roundw
   case rel=>exact⟨k+1,by omega,by go_num,HK2,HB1⟩
   case measure=>simp[intOf]<;>omega
  by_cases h6:yk=6
  case pos =>
   subst h6;have hf:R=(yn.toList.isEmpty&&Prn.okP (t.drop (k+1))):=HFN.out;cases hne:yn.toList.isEmpty
   case false =>
    have HE:Hid (T=⟨#[]⟩):=hid (HNO.out (by rw[hf,hne];rfl));clear HX;go_wp2_with fail;go_ret;exact⟨by rw[HE.out];rfl,HB1.out⟩
   have HK3:Hid (Prn.okP (t.drop (k+1))=R):=hid (by rw[hf,hne];rfl);clear hf;have HK2:Hid ((k+1<n->Prn.okP (t.drop (k+1))=R)/\(k+1=n->R=true)):=hid (⟨λ_=>HK3.out,λh=>absurd h hl⟩);clear HX;go_wp2_with fail;go_roundw
   case rel=>exact⟨k+1,by omega,by go_num,HK2,HB1⟩
   case measure=>simp[intOf]<;>omega
  have HRF:Hid (R=false):=hid (by rw[HFN.out];unfold Chk.mid;simp[h5,h6]);by_cases h1:yk=1
  case pos =>
   subst h1;have HE:Hid (T=⟨#[]⟩):=hid (HNO.out (HRF.out));clear HX;go_wp2_with fail;go_ret;exact⟨by rw[HE.out];rfl,HB1.out⟩
  by_cases h2:yk=2
  case pos =>
   subst h2;have HE:Hid (T=⟨#[]⟩):=hid (HNO.out (HRF.out));clear HX;go_wp2_with fail;go_ret;exact⟨by rw[HE.out];rfl,HB1.out⟩
  by_cases h3:yk=3
  case pos =>
   subst h3;have HE:Hid (T=⟨#[]⟩):=hid (HNO.out (HRF.out));clear HX;go_wp2_with fail;go_ret;exact⟨by rw[HE.out];rfl,HB1.out⟩
  by_cases h4:yk=4
  case pos =>
   subst h4;have HE:Hid (T=⟨#[]⟩):=hid (HNO.out (HRF.out));clear HX;go_wp2_with fail;go_ret;exact⟨by rw[HE.out];rfl,HB1.out⟩
  by_cases h7:yk=7
  case pos =>
   subst h7;have HE:Hid (T=⟨#[]⟩):=hid (HNO.out (HRF.out));clear HX;go_wp2_with fail;go_ret;exact⟨by rw[HE.out];rfl,HB1.out⟩
  have t5:((yk:Int)==5)=false:=by rw[xG];omega
  have t6:((yk:Int)==6)=false:=by rw[xG];omega
  have t1:((yk:Int)==1)=false:=by rw[xG];omega
  have t2:((yk:Int)==2)=false:=by rw[xG];omega
  have t3:((yk:Int)==3)=false:=by rw[xG];omega
  have t4:((yk:Int)==4)=false:=by rw[xG];omega
  have t7:((yk:Int)==7)=false:=by rw[xG];omega
  clear h5 h6 h1 h2 h3 h4 h7;have HE:Hid (T=⟨#[]⟩):=hid (HNO.out (HRF.out));clear HX;go_wp2_with fail;go_ret;exact⟨by rw[HE.out];rfl,HB1.out⟩
end
namespace Prn
open Id Chk
theorem type_of{s:ByteArray}{l:List Tk.Tok}{a:Nat}{x:List Srt}(ht:Tk.all s=(l,a,0))(hr:sorts (l,false)=(x,([],false))):Id.type s=(x,0,0):=qF ht hr
theorem QC{t:List Srt}(h:okP t=true)(hl:t.length<=12):Id.type (jn (t.map bK))=(t,0,0):=by
 have ho:mD (t.map lJ):=λu hu=>by
  obtain⟨x,hx,rfl⟩:=List.mem_map.1 hu;exact wH h x hx
 have hsz:(jn (t.map bK)).size<=65536:=by
  rw[Nv];have:=Pg (Ej h);rw[List.length_map]at this;omega
 have ha:=KP ho (by rw[Dp];exact hsz);rw[Dp]at ha;have hr:=IB h [];rw[List.append_nil]at hr;exact type_of ha (CV Nb (KL t) hr)
end Prn
section
open Go.BigFrame Go.RowKit
namespace Vl
open Id Chk
structure Node where
 kind:Nat
 int:Int
 text:ByteArray
 kids:Int
def Node.cells(n:Node):List Value:=[.int .u8 n.kind,.int .i64 n.int,.string n.text,.int .i64 n.kids]
def oC(w:World)(cs:List Value)(n:Node):Prop:=cs=n.cells
def fP(w:World)(B:Option Nat)(v:Value)(l:List Node):Prop:=ah w B 92 4 oC v l
def leaf(k:Nat)(n:Node):Bool:=n.kind==k&&(n.kids==0)&&(n.int==0||k==3||(k==2&&n.int==1))&&(n.text.toList.isEmpty||k==4)
def mQ(r:Rec)(n:Node):Option (List (List Srt)) :=
 if r.choice=true then
  if n.kind=8/\n.text.toList.isEmpty=true/\n.kids=1/\0<=n.int/\n.int<r.fields.length then some [(r.fields.map (·.type)).getD n.int.toNat []]else none
 else if n.kind=7/\n.int=0/\n.text.toList.isEmpty=true/\n.kids=r.fields.length then some (r.fields.map (·.type))else none
def Ak(lim k:Nat):Nat:=if k=6 then 1 else lim
def kW(lim k:Nat)(t:List Srt)(n:Node):Option (List (List Srt)) :=
 if n.kind=k/\n.int=0/\n.text.toList.isEmpty=true/\0<=n.kids/\n.kids<=(Ak lim k:Int)then some (List.replicate n.kids.toNat t)else none
def kR(s:Sch)(lim:Nat)(x:Srt)(t:List Srt)(n:Node):Option (List (List Srt)) :=
 if x.kind=5∨x.kind=6 then kW lim x.kind t n else mQ ((find s x.name).getD ny) n
def fQ(f:List Srt->List Node->Option (Nat × List Node)):List (List Srt)->Nat->List Node->Option (Nat × List Node)
 |[],d,r=>some (d,r)
 |t::ts,d,r=>match f t r with
  |none=>none
  |some p=>fQ f ts (max d p.1) p.2
def up(p:Option (Nat × List Node)):Option (Nat × List Node):=p.map λp=>(p.1+1,p.2)
def NW(o:Option (List (List Srt)))(f:List Srt->List Node->Option (Nat × List Node))(r:List Node):Option (Nat × List Node):=match o with
 |none=>none
 |some ks=>up (fQ f ks 0 r)
def ofF(s:Sch)(lim:Option Nat):Nat->List Srt->List Node->Option (Nat × List Node)
 |0,_,_=>none
 |_+1,[],_=>none
 |_+1,_::_,[]=>none
 |k+1,x::t,n::r =>
  if x.kind=1∨x.kind=2∨x.kind=3∨x.kind=4 then(if leaf x.kind n=true then some (1,r)else none)
  else NW (kR s (lim.getD r.length) x t n) (ofF s lim k) r
def vM(N:Nat):Nat->List Node->Option (List Node)
 |0,r=>some r
 |_+1,[]=>none
 |l+1,n::r=>if 0<=n.kids/\n.kids<=N then vM N (l+n.kids.toNat) r else none
def size(v:List Node):Nat:=v.length+(v.map (·.text.size)).sum
noncomputable def fits(s:Sch)(t:List Srt)(v:List Node):Nat :=
 if(check s).2≠0 then(check s).2 else if right s t=false then 131 else
 match ofF s none (v.length+1) t v with
 |none=>150
 |some p=>if p.2.length≠0 then 150 else if 12<p.1 then 151 else if 4096<size v then 3 else 0
def SK(N:Nat)(fn:ByteArray):List Fld->List Node->Option (List Node)
 |[],_=>none
 |f::fs,r=>match vM N 1 r with
  |none=>none
  |some r'=>if(f.name.toList==fn.toList)=true then some (r.take (r.length - r'.length))else SK N fn fs r'
def nmd(rn:ByteArray):List Srt:=[⟨7,rn⟩]
noncomputable def field(s:Sch)(rn:ByteArray)(v:List Node)(fn:ByteArray):Option (List Node) :=
 match find s rn with
 |none=>none
 |some r=>if r.choice=true then none else if fits s (nmd rn) v≠0 then none else SK v.length fn r.fields (v.drop 1)
theorem JW(N:Nat):∀(r:List Node)(a b:Nat),vM N (a+b) r=(vM N a r).bind (vM N b)
 |[],0,b=>by rw[Nat.zero_add];rfl
 |[],a+1,b=>by rw[show a+1+b=(a+b)+1 by omega];rfl
 |n::r,0,b=>by rw[Nat.zero_add];rfl
 |n::r,a+1,b=>by
  rw[show a+1+b=(a+b)+1 by omega];unfold vM;split
  ·rw[show a+b+n.kids.toNat=(a+n.kids.toNat)+b by omega]
   exact JW N r _ b
  ·rfl
theorem WC{p:Option (Nat × List Node)}{d:Nat}{r:List Node}(h:up p=some (d,r)):∃ e,d=e+1/\p=some (e,r):=by
 unfold up at h;cases p with
 |none=>cases h
 |some q =>
  obtain⟨a,b⟩:=q;simp only[Option.map_some]at h;injection h with h
  injection h with h1 h2
  subst h1 h2;exact⟨a,rfl,rfl⟩
theorem J4{N:Nat}{f:List Srt->List Node->Option (Nat × List Node)}(hf:∀ t r d r',r.length<=N->f t r=some (d,r')->1<=d/\r'.length+1<=r.length/\vM N 1 r=some r') :
  ∀(ts:List (List Srt))(d:Nat)(r:List Node)(e:Nat)(r':List Node),r.length<=N->fQ f ts d r=some (e,r')->d<=e/\r'.length+ts.length<=r.length/\vM N ts.length r=some r'
 |[],d,r,e,r',hN,h=>by
  injection h with h
  injection h with h1 h2
  subst h1 h2;exact⟨xB _,by simp,by cases r<;>rfl⟩
 |t::ts,d,r,e,r',hN,h=>by
  unfold fQ at h;split at h
  ·cases h
  ·rename_i p hp
   obtain⟨a,q⟩:=p;obtain⟨h1,h2,h3⟩:=hf t r a q hN hp;obtain⟨h4,h5,h6⟩:=J4 hf ts (max d a) q e r' (by omega:q.length<=N) h;simp only[xJ];refine⟨by omega,by omega,?_⟩;rw[show ts.length+1=1+ts.length by omega,JW,h3];exact h6
theorem UM{s:Sch}{lim:Nat}{x:Srt}{t:List Srt}{n:Node}{ks:List (List Srt)}(h:kR s lim x t n=some ks):n.kids=ks.length:=by
 unfold kR at h;split at h
 ·unfold kW at h
  split at h
  ·rename_i h1
   injection h with h
   subst h;rw[List.length_replicate];omega
  ·cases h
 ·unfold mQ at h
  split at h
  ·split at h
   ·rename_i h1
    injection h with h
    subst h;rw[h1.2.2.1];rfl
   ·cases h
  ·split at h
   ·rename_i h1
    injection h with h
    subst h;rw[h1.2.2.2,List.length_map]
   ·cases h
theorem Sj{k:Nat}{n:Node}(h:leaf k n=true):n.kids=0:=by
 unfold leaf at h;simp only[xX,beq_iff_eq]at h;exact h.1.1.2
theorem uJ{o:Option (List (List Srt))}{f:List Srt->List Node->Option (Nat × List Node)}{r:List Node}{d:Nat}{r':List Node}(h:NW o f r=some (d,r')):∃ ks e,o=some ks/\d=e+1/\fQ f ks 0 r=some (e,r'):=by
 unfold NW at h;split at h
 ·cases h
 ·rename_i ks
  obtain⟨e,h1,h2⟩:=WC h;exact⟨ks,e,rfl,h1,h2⟩
theorem Jt{s:Sch}{lim:Option Nat}{N:Nat}:∀(k:Nat)(t:List Srt)(r:List Node)(d:Nat)(r':List Node),r.length<=N->ofF s lim k t r=some (d,r')->1<=d/\r'.length+1<=r.length/\vM N 1 r=some r'
 |0,t,r,d,r',hN,h=>by unfold ofF at h;cases h
 |k+1,[],r,d,r',hN,h=>by unfold ofF at h;cases h
 |k+1,x::t,[],d,r',hN,h=>by unfold ofF at h;cases h
 |k+1,x::t,n::r,d,r',hN,h=>by
  simp only[xJ]at hN ⊢;unfold ofF at h;split at h
  ·split at h
   ·rename_i hl
    injection h with h
    injection h with h1 h2
    subst h1 h2;refine⟨xB _,xB _,?_⟩;unfold vM;rw[Sj hl,if_pos ⟨by omega,by omega⟩];cases r<;>rfl
   ·cases h
  ·obtain⟨ks,e,hks,rfl,h2⟩:=uJ h
   obtain⟨h3,h4,h5⟩:=J4 (N:=N) (Jt k) ks 0 r e r' (by omega) h2;refine⟨by omega,by omega,?_⟩;have hn:=UM hks;unfold vM;rw[hn,if_pos ⟨by omega,by omega⟩,Nat.zero_add,Int.toNat_natCast];exact h5
end Vl
namespace Vl
open Id Chk Prn
theorem CG(t:List Srt):(uH t).toList.isEmpty=!(decide (t.length<=12)&&okP t):=by
 unfold uH;by_cases h:t.length<=12/\okP t=true
 ·rw[if_pos h,decide_eq_true h.1,h.2]
  cases he:(jn (t.map bK)).toList.isEmpty
  ·rfl
  ·exfalso
   have h1:=QC h.2 h.1;rw[empty_of he]at h1;have h2:(Id.type (⟨#[]⟩:ByteArray)).2.2=120:=by decide +kernel
   rw[h1]at h2;cases h2
 ·rw[if_neg h]
  have:(decide (t.length<=12)&&okP t)=false:=by
   rw[Bool.eq_false_iff];intro h2;rw[xX,decide_eq_true_eq]at h2;exact h h2
  rw[this];decide +kernel
theorem Gv{s:ByteArray}(h:Tk.isName s=true):s.size<=32:=by
 rcases Nat.lt_or_ge 32 s.size with h1|h1
 ·have:=Tk.lq (.inr h1)
  rw[this]at h;cases h
 ·exact h1
def qK(s:Sch)(t:List Srt):Bool:=match t.getLast? with
 |none=>false
 |some x=>x.kind != 7||(find s x.name).isSome
theorem wJ{s:Sch}{n:ByteArray}{r:Rec}(h:find s n=some r):r∈s.records/\r.name=n:=by
 unfold find at h;refine⟨List.mem_of_find?_eq_some h,Tk.text_eq ?_⟩;have:=List.find?_some h;simpa using this
theorem Vo{s:Sch}(h:Right s)(x:Srt):fin s x=(wW x&&(x.kind != 7||(find s x.name).isSome)):=by
 unfold fin wW;by_cases h1:x.kind=1∨x.kind=2∨x.kind=3∨x.kind=4
 ·rw[if_pos h1,if_pos h1,show(x.kind != 7)=true by rw[bne_iff_ne];omega]
  simp
 ·rw[if_neg h1,if_neg h1]
  by_cases h7:x.kind=7
  ·rw[if_pos h7,if_pos h7,show(x.kind != 7)=false by rw[h7];rfl,Bool.false_or]
   cases hf:find s x.name with
   |none=>simp
   |some r =>
    obtain⟨hr,hn⟩:=wJ hf;have:=(mP h).rn r hr;rw[hn]at this;rw[this];rfl
  ·rw[if_neg h7,if_neg h7,Bool.false_and]
theorem zo{s:Sch}(h:Right s):∀ t:List Srt,okT s t=(okP t&&qK s t)
 |[]=>rfl
 |[x]=>Vo h x
 |x::y::l=>by
  show(mid x&&okT s (y::l))=(mid x&&okP (y::l)&&qK s (x::y::l))
  rw[zo h (y::l),Bool.and_assoc];rfl
theorem CQ{s:Sch}(h:Right s)(t:List Srt):right s t=(!(uH t).toList.isEmpty&&qK s t):=by
 rw[CG,Bool.not_not];unfold right;rw[zo h,Bool.and_assoc]
def kZ(rs:List Rec)(n:ByteArray):Rec:=(rs.reverse.find? λr=>r.name.toList==n.toList).getD ny
theorem OX(rs:List Rec)(r:Rec)(n:ByteArray):kZ (rs++[r]) n=if(r.name.toList==n.toList)=true then r else kZ rs n:=by
 unfold kZ;rw[List.reverse_append,List.reverse_singleton,List.singleton_append,List.find?_cons];cases h:(r.name.toList==n.toList)<;>rfl
theorem OY{s:Sch}(h:Right s)(n:ByteArray):kZ s.records n=(find s n).getD ny:=by
 unfold kZ;cases hf:s.records.reverse.find? (λr=>r.name.toList==n.toList)with
 |some r =>
  have hm:=List.mem_reverse.1 (List.mem_of_find?_eq_some hf);have hn:r.name=n:=Tk.text_eq (by simpa using List.find?_some hf);have:=Ov h hm;rw[hn]at this;rw[this]
 |none =>
  have:find s n=none:=by
   unfold find;rw[List.find?_eq_none]at hf ⊢;exact λx hx=>hf x (List.mem_reverse.2 hx)
  rw[this]
theorem zl{s:Sch}{x:Srt}{t:List Srt}(h:okT s (x::t)=true)(hx:x.kind=5∨x.kind=6):okT s t=true:=by
 cases t with
 |nil =>
  have h:fin s x=true:=h;unfold fin at h;rw[if_neg (by omega),if_neg (by omega)]at h;cases h
 |cons y l =>
  have h:(mid x&&okT s (y::l))=true:=h;rw[xX]at h;exact h.2
theorem Jr{s:Sch}{x:Srt}{t:List Srt}(h:okT s (x::t)=true):(x.kind=1∨x.kind=2∨x.kind=3∨x.kind=4)∨x.kind=5∨x.kind=6∨(x.kind=7/\t=[]/\(find s x.name).isSome=true):=by
 cases t with
 |nil =>
  have h:fin s x=true:=h;unfold fin at h;by_cases h1:x.kind=1∨x.kind=2∨x.kind=3∨x.kind=4
  ·exact .inl h1
  ·rw[if_neg h1]at h
   by_cases h7:x.kind=7
   ·rw[if_pos h7]at h
    exact .inr (.inr (.inr ⟨h7,rfl,h⟩))
   ·rw[if_neg h7]at h
    cases h
 |cons y l =>
  have h:(mid x&&okT s (y::l))=true:=h;rw[xX]at h;have:=h.1;unfold mid at this;simp only[xX,Bool.or_eq_true,beq_iff_eq]at this;omega
theorem y8{s:Sch}{t:List Srt}(h:okT s t=true):t≠[]:=λe=>by subst e;cases h
theorem sV{s:Sch}{t:List Srt}(h:right s t=true):okT s t=true/\t.length<=12:=by
 unfold right at h;rw[xX,decide_eq_true_eq]at h;exact⟨h.2,h.1⟩
theorem Dc{s:Sch}(h:Right s){r:Rec}(hr:r∈s.records){f:Fld}(hf:f∈r.fields):right s f.type=true:=by
 have ht:=(wF.1 h).2.2.2.1;exact ht (right s f.type,Chk.part r.name f.name) (List.mem_append_left _ (List.mem_flatMap.2 ⟨r,hr,List.mem_flatMap.2 ⟨f,hf,by simp[yc]⟩⟩))
theorem PG{s:Sch}(h:Right s){r:Rec}(hr:r∈s.records):r.fields.length<=16:=by
 have ht:=(wF.1 h).2.1;have:=ht (decide ((r.fields.length:Int)<=16),r.name) (List.mem_cons_of_mem _ (List.mem_append_left _ (List.mem_flatMap.2 ⟨r,hr,by simp[uY]⟩)));rw[decide_eq_true_eq]at this;omega
def Vr(v:List Node):Option (Nat × List Node)->Int × Nat
 |none=>(-1,0)
 |some p=>((v.length:Int) - p.2.length,p.1)
def deep:Option (Nat × List Node)->Nat
 |none=>0
 |some p=>p.1
end Vl
namespace Vl
open Id Chk Prn
theorem CB{s:Sch}{t:List Srt}{v:List Node}(h:fits s t v=0):Right s/\right s t=true/\∃ d,ofF s none (v.length+1) t v=some (d,[])/\d<=12/\size v<=4096:=by
 unfold fits at h;split at h
 ·rename_i h1
  exact absurd h h1
 ·rename_i h1
  split at h
  ·cases h
  ·rename_i h2
   refine⟨qp (by omega),by simpa using h2,?_⟩;split at h
   ·cases h
   ·rename_i p hp
    obtain⟨d,r⟩:=p;split at h
    ·cases h
    ·rename_i h3
     split at h
     ·cases h
     ·rename_i h4
      split at h
      ·cases h
      ·rename_i h5
       simp only at h3 h4;obtain rfl:r=[]:=List.length_eq_zero_iff.1 (by omega);exact⟨d,hp,by omega,by omega⟩
end Vl
namespace Vl
open Id Chk Prn
def lvQ(p:List Srt->Bool)(r:Rec):Bool:=if r.choice then r.fields.any (λf=>p f.type)else r.fields.all (λf=>p f.type)
def lvT(s:Sch):Nat->List Srt->Bool
 |0,_=>false
 |_+1,[]=>false
 |d+1,x::_=>if x.kind=7 then(match find s x.name with|none=>false|some r=>lvQ (lvT s d) r)else true
theorem UD{p q:List Srt->Bool}(h:∀ t,p t=true->q t=true){r:Rec}(hr:lvQ p r=true):lvQ q r=true:=by
 unfold lvQ at hr ⊢;split at hr
 ·rename_i hc
  rw[if_pos hc];obtain⟨f,hf,hp⟩:=List.any_eq_true.1 hr;exact List.any_eq_true.2 ⟨f,hf,h _ hp⟩
 ·rename_i hc
  rw[if_neg hc];exact List.all_eq_true.2 λf hf=>h _ (List.all_eq_true.1 hr f hf)
theorem J9{s:Sch}:∀(d:Nat)(t:List Srt),lvT s d t=true->lvT s (d+1) t=true
 |0,t,h=>by unfold lvT at h;cases h
 |d+1,[],h=>by unfold lvT at h;cases h
 |d+1,x::t,h=>by
  unfold lvT at h ⊢;split at h
  ·rename_i h7
   rw[if_pos h7];split at h
   ·cases h
   ·exact UD (J9 d) h
  ·rename_i h7
   rw[if_neg h7]
theorem JB{s:Sch}{d e:Nat}(hde:d<=e){t:List Srt}(h:lvT s d t=true):lvT s e t=true:=by
 induction e with
 |zero =>
  obtain rfl:d=0:=by omega
  exact h
 |succ e ih =>
  by_cases hd:d=e+1
  ·subst hd;exact h
  ·exact J9 _ _ (ih (by omega))
abbrev Kn:=ByteArray->Nat
def dpt(kn:Kn)(t:List Srt):Nat:=match t with
 |[]=>0
 |x::_=>if x.kind=7 then kn x.name else 1
structure Qo where
 best:Nat
 worst:Nat
 miss:Bool
def gJ(kn:Kn)(a:Qo)(f:Fld):Qo :=
 ⟨if 0<dpt kn f.type/\(a.best=0∨dpt kn f.type<a.best)then dpt kn f.type else a.best,max a.worst (dpt kn f.type),a.miss||dpt kn f.type==0⟩
def qZ(kn:Kn)(r:Rec):Qo:=r.fields.foldl (gJ kn) ⟨0,0,false⟩
def uw(kn:Kn)(r:Rec):Nat × Bool:=if r.choice then((qZ kn r).best+1,decide (0<(qZ kn r).best))else((qZ kn r).worst+1,!(qZ kn r).miss)
theorem vG(kn:Kn):∀(l:List Fld)(a:Qo),
  (∀ d,(l.foldl (gJ kn) a).worst<=d↔a.worst<=d/\∀ f∈l,dpt kn f.type<=d) /\
  ((l.foldl (gJ kn) a).miss=true↔a.miss=true∨∃ f∈l,dpt kn f.type=0) /\
  ((l.foldl (gJ kn) a).best=0↔a.best=0/\∀ f∈l,dpt kn f.type=0) /\
  (∀ f∈l,dpt kn f.type≠0->(l.foldl (gJ kn) a).best<=dpt kn f.type) /\
  (a.best≠0->(l.foldl (gJ kn) a).best<=a.best) /\
  ((l.foldl (gJ kn) a).best≠a.best->∃ f∈l,dpt kn f.type=(l.foldl (gJ kn) a).best)
 |[],a=>by simp
 |f::l,a=>by
  obtain⟨h1,h2,h3,h4,h5,h6⟩:=vG kn l (gJ kn a f);rw[List.foldl_cons];have hb:(gJ kn a f).best=if 0<dpt kn f.type/\(a.best=0∨dpt kn f.type<a.best)then dpt kn f.type else a.best:=rfl
  have hw:(gJ kn a f).worst=max a.worst (dpt kn f.type):=rfl;have hm:(gJ kn a f).miss=(a.miss||dpt kn f.type==0):=rfl;generalize(l.foldl (gJ kn) (gJ kn a f))=b at *;generalize gJ kn a f=c at *;refine⟨λd=>?_,?_,?_,?_,?_,?_⟩
  ·rw[h1 d,hw]
   simp only[yH,forall_eq_or_imp];constructor
   ·rintro⟨a1,a2⟩;exact⟨by omega,by omega,a2⟩
   ·rintro⟨a1,a2,a3⟩;exact⟨by omega,a3⟩
  ·rw[h2,hm]
   simp only[yH,exists_eq_or_imp,Bool.or_eq_true,beq_iff_eq,or_assoc]
  ·rw[h3,hb]
   simp only[yH,forall_eq_or_imp];split<;>constructor<;>(rintro⟨a1,a2⟩)<;>first|(exact⟨by omega,by omega,a2⟩)|(exact⟨by omega,a2.2⟩)|omega
  ·intro g hg hd
   rcases List.mem_cons.1 hg with rfl|hg
   ·by_cases hc:c.best=0
    ·rw[hb]at hc
     split at hc<;>omega
    ·have:=h5 hc
     rw[hb]at this;split at this<;>omega
   ·exact h4 g hg hd
  ·intro ha
   by_cases hc:c.best=0
   ·rw[hb]at hc
    split at hc<;>omega
   ·have:=h5 hc
    rw[hb]at this;split at this<;>omega
  ·intro hne
   by_cases hc:b.best=c.best
   ·refine⟨f,by simp,?_⟩
    rw[hc,hb];rw[hc,hb]at hne;split at hne
    ·rename_i h;rw[if_pos h]
    ·exact absurd rfl hne
   ·obtain⟨g,hg,he⟩:=h6 hc
    exact⟨g,by simp[hg],he⟩
def Min(s:Sch)(kn:Kn):Prop:=∀ n,(kn n≠0->lvT s (kn n) [⟨7,n⟩]=true)/\∀ d,lvT s d [⟨7,n⟩]=true->kn n≠0/\kn n<=d
def Sd(s:Sch)(kn:Kn):Prop:=∀ n,kn n≠0->lvT s (kn n) [⟨7,n⟩]=true
theorem JC{s:Sch}{d:Nat}{x:Srt}{t:List Srt}:lvT s d (x::t)=lvT s d [x]:=by
 cases d with
 |zero=>rfl
 |succ d=>rfl
theorem JA{s:Sch}{d:Nat}{x:Srt}(h:x.kind=7):lvT s d [x]=lvT s d [⟨7,x.name⟩]:=by
 obtain⟨k,n⟩:=x;simp only at h;subst h;rfl
theorem Sd.dpt{s:Sch}{kn:Kn}(h:Sd s kn){t:List Srt}(hd:dpt kn t≠0):lvT s (dpt kn t) t=true:=by
 cases t with
 |nil=>exact absurd rfl hd
 |cons x t =>
  rw[JC];unfold Vl.dpt at hd ⊢;simp only at hd ⊢;by_cases h7:x.kind=7
  ·rw[if_pos h7]at hd ⊢
   rw[JA h7];exact h _ hd
  ·rw[if_neg h7]
   unfold lvT;rw[if_neg h7]
theorem Min.dpt{s:Sch}{kn:Kn}(h:Min s kn){t:List Srt}{d:Nat}(hd:lvT s d t=true):dpt kn t≠0/\dpt kn t<=d:=by
 cases t with
 |nil=>cases d<;>(unfold lvT at hd;cases hd)
 |cons x t =>
  rw[JC]at hd;unfold Vl.dpt;simp only;by_cases h7:x.kind=7
  ·rw[if_pos h7]
   rw[JA h7]at hd;exact(h _).2 d hd
  ·rw[if_neg h7]
   cases d with
   |zero=>cases hd
   |succ d=>exact⟨by omega,by omega⟩
theorem Sd.rec{s:Sch}{kn:Kn}(h:Sd s kn){n:ByteArray}{r:Rec}(hf:find s n=some r)(ho:(uw kn r).2=true):lvT s (uw kn r).1 [⟨7,n⟩]=true:=by
 obtain⟨h1,h2,h3,h4,h5,h6⟩:=vG kn r.fields ⟨0,0,false⟩;have e:r.fields.foldl (gJ kn) ⟨0,0,false⟩=qZ kn r:=rfl;rw[e]at h1 h2 h3 h4 h5 h6;unfold uw at ho ⊢;cases hc:r.choice
 ·rw[hc]at ho
  simp only[Bool.false_eq_true,if_false]at ho ⊢;unfold lvT;simp only[if_true,hf];unfold lvQ;rw[hc];simp only[Bool.false_eq_true,if_false];refine List.all_eq_true.2 λf hfm=>?_
  have hm:¬(qZ kn r).miss=true:=by simpa using ho
  rw[h2]at hm;have hd:Vl.dpt kn f.type≠0:=λe=>hm (.inr ⟨f,hfm,e⟩)
  exact JB (((h1 _).1 (xB _)).2 f hfm) (h.dpt hd)
 ·rw[hc]at ho
  simp only[if_true,decide_eq_true_eq]at ho ⊢;unfold lvT;simp only[if_true,hf];unfold lvQ;rw[hc];simp only[if_true];obtain⟨f,hfm,he⟩:=h6 (by simp only;omega);refine List.any_eq_true.2 ⟨f,hfm,?_⟩;have hd:Vl.dpt kn f.type≠0:=by omega
  have:=h.dpt hd;rw[he]at this;exact this
def Stop(s:Sch)(kn:Kn):Prop:=∀ r∈s.records,(uw kn r).2=true->kn r.name≠0/\kn r.name<=(uw kn r).1
theorem Stop.le{s:Sch}{kn:Kn}(h:Stop s kn):∀(d:Nat)(t:List Srt),lvT s d t=true->dpt kn t≠0/\dpt kn t<=d
 |0,t,hl=>by unfold lvT at hl;cases hl
 |d+1,[],hl=>by unfold lvT at hl;cases hl
 |d+1,x::t,hl=>by
  unfold lvT at hl;unfold dpt;simp only;split at hl
  ·rename_i h7
   rw[if_pos h7];split at hl
   ·cases hl
   ·rename_i r hr
    obtain⟨hm,hn⟩:=wJ hr;obtain⟨h1,h2,h3,h4,h5,h6⟩:=vG kn r.fields ⟨0,0,false⟩;have e:r.fields.foldl (gJ kn) ⟨0,0,false⟩=qZ kn r:=rfl;rw[e]at h1 h2 h3 h4 h5 h6;have hs:=h r hm;rw[hn]at hs;unfold uw at hs;unfold lvQ at hl;cases hc:r.choice
    ·rw[hc]at hs hl
     simp only[Bool.false_eq_true,if_false]at hs hl;have ha:=List.all_eq_true.1 hl;have hmiss:(qZ kn r).miss=false:=by
      rw[Bool.eq_false_iff];intro hmi;rcases h2.1 hmi with e|⟨f,hf,e⟩
      ·cases e
      ·exact(Stop.le h d f.type (ha f hf)).1 e
     obtain⟨a1,a2⟩:=hs (by rw[hmiss];rfl);refine⟨a1,xM a2 ?_⟩;have:=(h1 d).2 ⟨Nat.zero_le _,λf hf=>(Stop.le h d f.type (ha f hf)).2⟩;omega
    ·rw[hc]at hs hl
     simp only[if_true,decide_eq_true_eq]at hs hl;obtain⟨f,hf,hp⟩:=List.any_eq_true.1 hl;obtain⟨b1,b2⟩:=Stop.le h d f.type hp;have hb:(qZ kn r).best≠0:=λe=>b1 ((h3.1 e).2 f hf)
     have hb2:=h4 f hf b1;obtain⟨a1,a2⟩:=hs (by omega);exact⟨a1,by omega⟩
  ·rename_i h7
   rw[if_neg h7];exact⟨by omega,by omega⟩
theorem Stop.min{s:Sch}{kn:Kn}(h:Stop s kn)(hs:Sd s kn):Min s kn:=λn=>⟨hs n,λd hd=>by
 have:=h.le d _ hd;exact this⟩
end Vl
namespace Vl
open Id Chk Prn
theorem Bv:(⟨#[]⟩:ByteArray).toList.isEmpty=true:=by decide +kernel
theorem Min.lst{s:Sch}{kn:Kn}(h:Min s kn){n:ByteArray}{r:Rec}(hf:find s n=some r)(h0:kn n≠0):(uw kn r).2=true/\(uw kn r).1=kn n:=by
 have hs:Sd s kn:=λm hm=>(h m).1 hm
 have hl:=(h n).1 h0;obtain⟨d,hd⟩:∃ d,kn n=d+1:=⟨kn n - 1,by omega⟩;have key:(uw kn r).2=true/\(uw kn r).1<=kn n:=by
  rw[hd]at hl ⊢;unfold lvT at hl;simp only[if_true,hf]at hl;obtain⟨h1,h2,h3,h4,h5,h6⟩:=vG kn r.fields ⟨0,0,false⟩;have e:r.fields.foldl (gJ kn) ⟨0,0,false⟩=qZ kn r:=rfl;rw[e]at h1 h2 h3 h4 h5 h6;unfold lvQ at hl;unfold uw;cases hc:r.choice
  ·rw[hc]at hl
   simp only[Bool.false_eq_true,if_false]at hl ⊢;have ha:=List.all_eq_true.1 hl;have hmiss:(qZ kn r).miss=false:=by
    rw[Bool.eq_false_iff];intro hmi;rcases h2.1 hmi with e|⟨f,hf,e⟩
    ·cases e
    ·exact(h.dpt (ha f hf)).1 e
   have:=(h1 d).2 ⟨Nat.zero_le _,λf hf=>(h.dpt (ha f hf)).2⟩;exact⟨by rw[hmiss];rfl,by omega⟩
  ·rw[hc]at hl
   simp only[if_true]at hl ⊢;obtain⟨f,hfm,hp⟩:=List.any_eq_true.1 hl;obtain⟨b1,b2⟩:=h.dpt hp;have hb:(qZ kn r).best≠0:=λe=>b1 ((h3.1 e).2 f hfm)
   have hb2:=h4 f hfm b1;exact⟨by rw[decide_eq_true_eq];omega,by omega⟩
 exact⟨key.1,Nat.le_antisymm key.2 ((h n).2 _ (hs.rec hf key.1)).2⟩
def way(kn:Kn)(r:Rec)(d:Nat):Nat:=r.fields.findIdx (λf=>dpt kn f.type==d)
theorem Min.way{s:Sch}{kn:Kn}(h:Min s kn){n:ByteArray}{r:Rec}(hf:find s n=some r)(h0:kn n≠0)(hc:r.choice=true):way kn r (kn n - 1)<r.fields.length/\1<kn n:=by
 obtain⟨h1,h2⟩:=h.lst hf h0;unfold uw at h1 h2;rw[hc]at h1 h2;simp only[if_true,decide_eq_true_eq]at h1 h2;obtain⟨g1,g2,g3,g4,g5,g6⟩:=vG kn r.fields ⟨0,0,false⟩;have e:r.fields.foldl (gJ kn) ⟨0,0,false⟩=qZ kn r:=rfl;rw[e]at g6;obtain⟨f,hfm,he⟩:=g6 (by simp only;omega);refine⟨?_,by omega⟩;unfold Vl.way;rw[List.findIdx_lt_length];exact⟨f,hfm,by rw[beq_iff_eq,he];omega⟩
end Vl
end
namespace Ev
def acc(l:List UInt8):Nat->Nat
 |0=>0
 |i+1=>acc l i ||| ((l.getD i 0).toNat % 128 * 2 ^ (7 * i) % 18446744073709551616)
def jI(l:List UInt8):Nat->Nat->Nat × Int
 |0,_=>(0,0)
 |f+1,i=>if i<l.length then(if(l.getD i 0).toNat<128 then(if i=9/\1<(l.getD 9 0).toNat then(0,-1)else(acc l (i+1),(i:Int)+1))else jI l f (i+1))else(0,0)
def qm(l:List UInt8):Nat × Int:=jI l 10 0
theorem EU(l:List UInt8):∀ i,acc l i<18446744073709551616
 |0=>by simp[acc]
 |i+1=>Nat.or_lt_two_pow (n:=64) (EU l i) (Nat.mod_lt _ (by decide))
theorem DJ(l:List UInt8):∀ f i,(jI l f i).1<18446744073709551616/\(jI l f i).2<=l.length/\-1<=(jI l f i).2
 |0,i=>by simp[jI]
 |f+1,i=>by
  unfold jI;split
  ·split
   ·split
    ·exact⟨by simp,by simp,by simp⟩
    ·have:=EU l (i+1)
     simp only;omega
   ·exact DJ l f (i+1)
  ·simp
theorem yx{a b:Nat}(i:Nat)(ha:a<2 ^ i)(hb:b % 2 ^ i=0):a ||| b=a+b:=by
 have h2:2 ^ i * (b / 2 ^ i)=b:=by have:=Nat.div_add_mod b (2 ^ i);omega
 have h:=Nat.two_pow_add_eq_or_of_lt ha (b / 2 ^ i);rw[Nat.or_comm,<-h2,<-h,Nat.add_comm]
theorem sZ(i:Nat):(2:Nat) ^ (7 * i)=128 ^ i:=Nat.pow_mul 2 7 i
theorem tZ{l r:List UInt8}{i:Nat}{c:UInt8}(h:l.drop i=c::r):i<l.length/\l.getD i 0=c/\l.drop (i+1)=r:=by
 have hi:i<l.length:=by
  rcases Nat.lt_or_ge i l.length with h'|h'
  ·exact h'
  ·rw[xP h']at h;cases h
 rw[xQ hi]at h;injection h with h1 h2
 exact⟨hi,by rw[yG,yF hi];exact h1,h2⟩
theorem Gz(l r:List UInt8)(y:Nat)(hy:y<18446744073709551616):∀(g i:Nat),g+i=9->l.drop i=gY g (y / 128 ^ i)++r->acc l i=y % 128 ^ i->jI l (g+1) i=(y,(i:Int)+(gY g (y / 128 ^ i)).length)
 |g,i,hgi,hl,ha=>by
  have p0:0<128 ^ i:=Nat.pow_pos (by decide);have hdm:=Nat.div_add_mod y (128 ^ i);have hml:y % 128 ^ i<2 ^ (7 * i):=by rw[sZ];exact Nat.mod_lt _ p0
  by_cases hq:y / 128 ^ i<128
  ·have e1:gY g (y / 128 ^ i)=[UInt8.ofNat (y / 128 ^ i)]:=by
    cases g with
    |zero=>rfl
    |succ g=>rw[gY,if_pos hq]
   rw[e1,List.cons_append,yI]at hl;obtain⟨h1,h2,_⟩:=tZ hl;have hc:(l.getD i 0).toNat=y / 128 ^ i:=by rw[h2,Sm.ofNat_toNat,Nat.mod_eq_of_lt (by omega)]
   unfold jI;rw[if_pos h1,if_pos (by rw[hc];exact hq),if_neg,e1]
   ·simp only[acc]
    rw[ha,hc,Nat.mod_eq_of_lt (a:=y / 128 ^ i) hq,sZ];have e2:y / 128 ^ i * 128 ^ i=y - y % 128 ^ i:=by rw[Nat.mul_comm];omega
    rw[Nat.mod_eq_of_lt (a:=y / 128 ^ i * 128 ^ i) (by omega),yx (7 * i) hml (by rw[sZ];exact Nat.mul_mod_left _ _),e2];have:=Nat.mod_le y (128 ^ i);simp;omega
   ·rintro⟨hi9,h9⟩
    subst hi9;rw[hc]at h9;have:y / 128 ^ 9<2:=by rw[Nat.div_lt_iff_lt_mul (by decide)];omega
    omega
  ·cases g with
   |zero =>
    have hi9:i=9:=by omega
    subst hi9;have:y / 128 ^ 9<2:=by rw[Nat.div_lt_iff_lt_mul (by decide)];omega
    omega
   |succ g =>
    have e1:gY (g+1) (y / 128 ^ i)=UInt8.ofNat (y / 128 ^ i % 128+128)::gY g (y / 128 ^ (i+1)):=by
     rw[gY,if_neg hq,Nat.div_div_eq_div_mul,<-Nat.pow_succ]
    rw[e1,List.cons_append]at hl;obtain⟨h1,h2,h3⟩:=tZ hl;have hc:(l.getD i 0).toNat=y / 128 ^ i % 128+128:=by rw[h2,Sm.ofNat_toNat,Nat.mod_eq_of_lt (by omega)]
    have hle:128 ^ (i+1)<=128 ^ 9:=Nat.pow_le_pow_right (by decide) (by omega);have hps:128 ^ (i+1)=128 ^ i * 128:=Nat.pow_succ ..;have hp9:(128:Nat) ^ 9=9223372036854775808:=by decide
    have ha':acc l (i+1)=y % 128 ^ (i+1):=by
     simp only[acc];have e3:(y / 128 ^ i % 128+128) % 128=y / 128 ^ i % 128:=by omega
     rw[ha,hc,e3,sZ];have hb:y / 128 ^ i % 128 * 128 ^ i<=127 * 128 ^ i:=Nat.mul_le_mul_right _ (by omega);rw[Nat.mod_eq_of_lt (a:=y / 128 ^ i % 128 * 128 ^ i) (by omega),yx (7 * i) hml (by rw[sZ];exact Nat.mul_mod_left _ _),Nat.mod_pow_succ,Nat.mul_comm (y / 128 ^ i % 128)]
    have ih:=Gz l r y hy g (i+1) (by omega) h3 ha';unfold jI;rw[if_pos h1,if_neg (by rw[hc];omega),ih,e1];simp;omega
theorem Vg(y:Nat)(hy:y<18446744073709551616)(r:List UInt8):qm (var y++r)=(y,((var y).length:Int)):=by
 have h:=Gz (var y++r) r y hy 9 0 rfl (by simp[var]) (by simp[acc,Nat.mod_one]);simp only[Nat.pow_zero,Nat.div_one]at h;unfold qm;rw[h];simp[var]
def qQ:Nat->List UInt8->Nat
 |x,[]=>x
 |x,c::r=>qQ (x * 256 % 18446744073709551616+c.toNat) r
theorem NG(m x:Nat):∀ n,n<=m->big x n=big (x % 256 ^ m) n
 |0,_=>rfl
 |n+1,h=>by
  have ih:=NG m x n (by omega);simp only[big];rw[<-ih];congr 1
  apply UInt8.toNat_inj.1;rw[Sm.ofNat_toNat,Sm.ofNat_toNat];have e:256 ^ m=256 ^ n * (256 * 256 ^ (m - n - 1)):=by
   rw[<-Nat.pow_succ',<-Nat.pow_add];congr 1
   omega
  rw[e,Nat.mod_mul_right_div_self,Nat.mod_mul_right_mod]
theorem KH:∀(n x y:Nat),y<256 ^ n->x * 256 ^ n+y<18446744073709551616->qQ x (big y n)=x * 256 ^ n+y
 |0,x,y,hy,hx=>by simp at hy;subst hy;simp[qQ,big]
 |n+1,x,y,hy,hx=>by
  have p0:0<256 ^ n:=Nat.pow_pos (by decide);have hp:256 ^ (n+1)=256 ^ n * 256:=Nat.pow_succ ..;have hd:y / 256 ^ n<256:=by rw[Nat.div_lt_iff_lt_mul p0];omega
  have hdm:=Nat.div_add_mod y (256 ^ n);have hx2:x * 256 ^ (n+1)=(x * 256) * 256 ^ n:=by rw[hp,Nat.mul_assoc,Nat.mul_comm (256 ^ n)]
  have hx3:x * 256<18446744073709551616:=by
   have:x * 256 * 1<=x * 256 * 256 ^ n:=Nat.mul_le_mul_left _ p0;omega
  simp only[big,qQ];rw[Sm.ofNat_toNat,Nat.mod_eq_of_lt hd,Nat.mod_eq_of_lt hx3,NG n y n (xB _)];have e:(x * 256+y / 256 ^ n) * 256 ^ n=x * 256 ^ (n+1)+256 ^ n * (y / 256 ^ n):=by rw[Nat.add_mul,hx2,Nat.mul_comm (y / 256 ^ n)]
  rw[KH n _ (y % 256 ^ n) (Nat.mod_lt _ p0) (by omega),e];omega
theorem P7{l:List UInt8}{k c:Nat}(hk:k<10)(hl:k<l.length)(hc:(l.getD k 0).toNat=c)(h:c<128):jI l (10 - k) k=if k=9/\1<(l.getD 9 0).toNat then(0,-1)else(acc l (k+1),(k:Int)+1):=by
 subst hc;rw[show 10 - k=(9 - k)+1 from by omega,jI,if_pos hl,if_pos h]
theorem Vh{l:List UInt8}{k c:Nat}(hk:k<10)(hl:k<l.length)(hc:(l.getD k 0).toNat=c)(h:128<=c):jI l (10 - k) k=jI l (10 - (k+1)) (k+1):=by
 subst hc;rw[show 10 - k=(10 - (k+1))+1 from by omega,jI,if_pos hl,if_neg (by omega)]
theorem G5{l:List UInt8}{k:Nat}(h:k=10∨¬k<l.length):jI l (10 - k) k=(0,0):=by
 rcases Nat.eq_zero_or_pos (10 - k)with e|e
 ·rw[e];rfl
 ·obtain⟨g,hg⟩:∃ g,10 - k=g+1:=⟨10 - k - 1,by omega⟩
  rw[hg,jI,if_neg (by omega)]
theorem Hq:∀(l:List UInt8)(x:Nat)(c:UInt8),qQ x (l++[c])=qQ x l * 256 % 18446744073709551616+c.toNat
 |[],x,c=>rfl
 |d::l,x,c=>Hq l _ c
theorem FD:∀(l:List UInt8)(x:Nat),x<18446744073709551616->qQ x l<18446744073709551616
 |[],x,h=>h
 |d::l,x,h=>FD l _ (by
  have:=d.toNat_lt;omega)
def lit(l:List UInt8):Nat->Nat
 |0=>0
 |i+1=>lit l i+(l.getD i 0).toNat * 2 ^ (8 * i)
theorem Si(l:List UInt8):∀ i,lit l i<2 ^ (8 * i)
 |0=>by simp[lit]
 |i+1=>by
  have ih:=Si l i;have hc:=(l.getD i 0).toNat_lt;have e:2 ^ (8 * (i+1))=2 ^ (8 * i) * 256:=by rw[show 8 * (i+1)=8 * i+8 from by omega,Nat.pow_add]
  have hb:(l.getD i 0).toNat * 2 ^ (8 * i)<=255 * 2 ^ (8 * i):=Nat.mul_le_mul_right _ (by omega);simp only[lit];omega
theorem UF(l:List UInt8):lit l 4=Sm.yS l:=by
 simp only[lit,Sm.yS];omega
end Ev
