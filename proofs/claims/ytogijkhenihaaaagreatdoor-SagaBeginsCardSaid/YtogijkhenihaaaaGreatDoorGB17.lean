import Derived.Test.YtogijkhenihaaaaGreatDoorGB15
import Derived.Test.YtogijkhenihaaaaGreatDoorGB11
set_option linter.all false
set_option maxRecDepth 100000
set_option maxHeartbeats 0
namespace Go.Proofs.YtogijkhenihaaaaGreatDoor
open Lib (hid)
open Go.RowKit
section
open Go.BigFrame
namespace Chk
open Id
def Ez:ByteArray:=⟨#[109,111,100,117,108,101,32,115,104,111,112,59,32,114,101,99,111,114,100,32,79,32,123,32,97,99,99,111,117,110,116,58,32,116,101,120,116,59,32,97,109,111,117,110,116,58,32,105,110,116,59,32,109,101,109,111,58,32,111,112,116,32,116,101,120,116,59,32,125,32,115,101,114,118,105,99,101,32,83,32,123,32,116,97,107,101,32,116,40,79,41,32,45,62,32,105,110,116,32,117,110,100,111,32,117,59,32,103,105,118,101,32,117,40,79,41,32,45,62,32,110,111,110,101,59,32,110,111,116,101,32,110,40,79,41,32,45,62,32,110,111,110,101,59,32,125,32,115,97,103,97,32,103,40,79,41,32,123,32,100,111,32,83,46,116,32,97,116,32,48,59,32,100,111,32,83,46,110,32,97,116,32,49,59,32,125]⟩
def uZ:List Rec:=[⟨⟨#[79]⟩,false,[⟨⟨#[97,99,99,111,117,110,116]⟩,[⟨4,⟨#[]⟩⟩]⟩,⟨⟨#[97,109,111,117,110,116]⟩,[⟨3,⟨#[]⟩⟩]⟩,⟨⟨#[109,101,109,111]⟩,[⟨6,⟨#[]⟩⟩,⟨4,⟨#[]⟩⟩]⟩]⟩]
def IK:List Svc:=[⟨⟨#[83]⟩,[⟨⟨#[116]⟩,⟨#[79]⟩,3,⟨#[116,97,107,101]⟩,⟨#[117]⟩⟩,⟨⟨#[117]⟩,⟨#[79]⟩,1,⟨#[103,105,118,101]⟩,⟨#[]⟩⟩,⟨⟨#[110]⟩,⟨#[79]⟩,1,⟨#[110,111,116,101]⟩,⟨#[]⟩⟩]⟩]
def Aa(m:ByteArray):Sch:=⟨⟨#[115,104,111,112]⟩,uZ,IK,[⟨⟨#[103]⟩,⟨#[79]⟩,[⟨⟨#[83]⟩,m,0⟩,⟨⟨#[83]⟩,⟨#[110]⟩,1⟩]⟩]⟩
def shop:Sch:=Aa ⟨#[116]⟩
theorem IJ:parse Ez=(shop,0,0):=by kernel_rfl
open Classical in
theorem QT{rs:List Rec}{r:Rec}(hr:r∈rs)(hi:isR [] r=true):pz rs r.name=true:=by
 unfold pz;rw[decide_eq_true_eq];exact Val.step hr (zI (λs hs=>by unfold inP at hs;simp at hs) (BJ.1 hi))
theorem Ey(m:ByteArray):run 132 (jE (Aa m)) none=none:=by
 have h:pz uZ ⟨#[79]⟩=true:=QT (r:=uZ[0]) (by simp[uZ]) (by decide +kernel);unfold jE lF Aa;show run 132 [(pz uZ ⟨#[79]⟩,⟨#[79]⟩)] none=none
 rw[h];rfl
theorem zZ:check shop=(⟨#[]⟩,0):=by
 unfold check dF;rw[show run 132 (jE shop) none=none from Ey _];rw[show run 120 (namesT shop) none=none by kernel_rfl,show run 135 (gQ shop) none=none by kernel_rfl,show run 130 (eX shop) none=none by kernel_rfl,show run 131 (kJ shop) none=none by kernel_rfl,show run 134 (bU shop) none=none by kernel_rfl,show run 133 (nM shop) none=none by kernel_rfl,show run 240 (eU shop) none=none by kernel_rfl,show run 241 (cZ shop) none=none by kernel_rfl,show run 133 (dH shop) none=none by kernel_rfl];rfl
theorem Lp(m:ByteArray)(hm:m.size<=1000):Fine (Aa m):=by
 refine⟨(by decide:(4:Nat)<=1000),(by decide:(1:Nat)<=1000),(by decide:(1:Nat)<=1000),(by decide:(1:Nat)<=1000),?_,?_,?_⟩
 ·show ∀ r∈uZ,_
  unfold uZ;simp;decide
 ·show ∀ v∈IK,_
  unfold IK;simp;decide
 ·show ∀ g∈[_],_
  simp;exact⟨by decide,by decide,⟨by decide,hm⟩,by decide,by decide⟩
end Chk
theorem NT(w:World):Calls Tryz.prog 69 #[] w λe w'=>∃ v,e=.returned v/\Below w.heap.size w w'/\Id.ay w' (some w.heap.size) v Chk.shop:=by
 have hbl:=(Below.refl w.heap.size w).alloc (xB _) (.cells #[.string ⟨#[]⟩,.slice none 0 0,.slice none 0 0,.slice none 0 0] 28);have hq:=Bk.new w 28 #[.string ⟨#[]⟩,.slice none 0 0,.slice none 0 0,.slice none 0 0];go_enter Tryz.func69,Tryz.ntmps69;go_wp2_with fail;refine(Jg Chk.Ez (by decide) _).mono ?_;rintro e w2⟨v,rfl,hb2,hsv⟩;rw[Chk.IJ]at hsv ⊢;have hB2:=hid (hbl.trans (hb2.mono (by simp)));have hq5:=hq.below hb2 hq.lt;have HSV:=hid (Id.ay.weak (Id.I5 (by simp)) hsv:Id.ay w2 (some w.heap.size) v Chk.shop);obtain⟨A5,n5,c5,A6,n6,c6,A7,n7,c7,rfl,-⟩:=hsv;have U0:=hq5.lt;have hne:¬w2.heap.size=w.heap.size:=by omega
 have hne2:¬w.heap.size=w2.heap.size:=by omega
 clear hq hbl hb2;have hsz:=hB2.out.size;simp only;go_upto_region 2 with(fail)
 refine aj (λW3 hW3=>?_);obtain⟨hb3,hq3,-⟩:=au hW3;clear hW3;have hB3:=hid (hB2.out.trans (hb3.mono hsz));have hq6:=hq5.below hb3 hq5.lt;have Ub:=hid (Id.ay.below hb3 HSV.out);clear hb3 hq5;obtain⟨⟨q0,q1,q2,q3⟩,q4,q5,q6,q7⟩:=hq6.k4;obtain⟨⟨p0,p1,p2,p3⟩,-⟩:=hq3.k4;go_wp2_with fail;clear q0 q1 q2 q3 q4 q5 q6 q7 p0 p1 p2 p3;have hqf:Bk _ w.heap.size 28 #[.string Chk.shop.name,.slice A5 n5 c5,.slice A6 n6 c6,.slice A7 n7 c7]:=((((hq6.aA 0 (.string Chk.shop.name)).aA 1 (.slice A5 n5 c5)).aA 2 (.slice A6 n6 c6)).aA 3 (.slice A7 n7 c7));have hBf:=((((hB3.out.setCell (p:=⟨w.heap.size,0,none⟩) (xB _) (.string Chk.shop.name)).setCell (p:=⟨w.heap.size,1,none⟩) (xB _) (.slice A5 n5 c5)).setCell (p:=⟨w.heap.size,2,none⟩) (xB _) (.slice A6 n6 c6)).setCell (p:=⟨w.heap.size,3,none⟩) (xB _) (.slice A7 n7 c7));have hsf:=Ub.out.only ((((Only.set hq6 0 (.string Chk.shop.name)).trans (Only.set (hq6.aA 0 (.string Chk.shop.name)) 1 (.slice A5 n5 c5))).trans (Only.set ((hq6.aA 0 (.string Chk.shop.name)).aA 1 (.slice A5 n5 c5)) 2 (.slice A6 n6 c6))).trans (Only.set (((hq6.aA 0 (.string Chk.shop.name)).aA 1 (.slice A5 n5 c5)).aA 2 (.slice A6 n6 c6)) 3 (.slice A7 n7 c7))) (by decide);obtain⟨⟨y0,y1,y2,y3⟩,-⟩:=hqf.k4;refine bodyPost_ret (v:=.agg #[.string Chk.shop.name,.slice A5 n5 c5,.slice A6 n6 c6,.slice A7 n7 c7]) ?_ rfl ⟨_,rfl,hBf,hsf⟩;rw[Tj rfl];go_simp;try rfl
namespace Chk
open Id
end Chk
theorem ah.zC{α:Type}(w:World)(t:TypeId)(size:Nat)(E:World->List Value->α->Prop):ah w none t size E (.slice none 0 0) []:=ah.mono (ah.nil w 0 t size E) (λ_ _ hr=>hr.weak (λb' e'=>by cases e')) (λ_ _ h=>h)
theorem CU(v:Value)(x:Id.Sch)(name:ByteArray)(w:World)(hv:Id.ay w none v x) :
  Calls Tryz.prog 224 #[v,.string name] w λe w'=>∃ u,e=.returned (.tuple #[u,.bool (Chk.find x name).isSome])/\Below w.heap.size w w'/\Chk.Pn w' none u ((Chk.find x name).getD Chk.qL):=by
 obtain⟨R,HR⟩:∃ R,Hid (Chk.find x name=R):=⟨_,hid rfl⟩;rw[HR.out];obtain⟨A1,n1,c1,A2,n2,c2,A3,n3,c3,rfl,r1,r2,r3⟩:=hv;have r:=r1;clear r1 r2 r3;unfold Chk.find at HR;generalize x.records=rs at *;generalize x.name=xn at *;have hn1:n1=rs.length:=by obtain⟨_,_,e,_⟩:=ah.slice r;injection e
 have hm1:n1<=9223372036854775807:=by obtain⟨_,_,e,_,_⟩:=ah.slice r;injection e;omega
 have HN:=hid hn1;have H1:=hid r;clear r hn1;go_enter Tryz.func224,Tryz.ntmps224;go_upto_region 1 with(fail)
 refine aj (λW0 hW0=>?_);have HL0:Hid (Chk.Look w W0 42 #[.string ⟨#[]⟩,.bool false,.slice none 0 0]):=hid (by
  subst hW0;refine⟨((Below.refl _ _).alloc (xB _) _).alloc (by simp) _,?_,by simp⟩;have:=Bk.new (w.alloc (.cells #[.string xn,.slice A1 n1 c1,.slice A2 n2 c2,.slice A3 n3 c3] 28)) 42 #[.string ⟨#[]⟩,.bool false,.slice none 0 0];rw[World.size_alloc]at this;exact this)
 have q0:Bk W0 w.heap.size 28 #[.string xn,.slice A1 n1 c1,.slice A2 n2 c2,.slice A3 n3 c3]:=by subst hW0;exact(Bk.new w _ _).alloc _
 clear hW0;obtain⟨S,bf⟩:∃ S:Array Value,Hid (S=#[.string xn,.slice A1 n1 c1,.slice A2 n2 c2,.slice A3 n3 c3]):=⟨_,hid rfl⟩;rw[<-bf.out]at q0;have HQ0:=hid q0;clear q0;go_wp2_with fail;go_loopw [6] (λi wr=>∃ k:Nat,k<=n1/\i=.int .i64 k/\Hid ((rs.drop k).find? (λr=>r.name.toList==name.toList)=R)/\Hid (Chk.Look w wr 42 #[.string ⟨#[]⟩,.bool false,.slice none 0 0])/\Hid (Bk wr w.heap.size 28 S)) (λi _=>n1 - (intOf i).toNat)
 case atStart=>exact⟨0,by omega,rfl,HR,HL0,HQ0⟩
 case round =>
  clear HL0 HQ0;obtain⟨k,hk,rfl,HK,HL,HQ⟩:=hrel;obtain⟨Wk,rfl⟩:∃ w',w'=wr:=⟨_,rfl⟩;have i0:(0:Int)<=(k:Int):=by omega
  have hbk:=HL.out.blk;obtain⟨⟨z0,z1,z2⟩,zf0,zf1,zf2⟩:=hbk.k3;by_cases hlt:k<n1
  case neg =>
   have HE:Hid (R=none):=hid (by rw[<-HK.out];exact Chk.kC _ (by rw[<-HN.out];omega));have hsq:=HQ.out;rw[bf.out]at hsq;obtain⟨⟨q0,q1,q2,q3⟩,-⟩:=hsq.k4;clear hsq;go_wp2_with fail;have h1:=(((hbk.aA 0 (.string ⟨#[]⟩)).aA 1 (.bool false)).aA 2 (.slice none 0 0));have hb:=(((HL.out.bel.setCell (p:=⟨w.heap.size+1,0,none⟩) (by simp) (.string ⟨#[]⟩)).setCell (p:=⟨w.heap.size+1,1,none⟩) (by simp) (.bool false)).setCell (p:=⟨w.heap.size+1,2,none⟩) (by simp) (.slice none 0 0));refine bodyPost_ret (v:=.tuple #[.agg #[.string ⟨#[]⟩,.bool false,.slice none 0 0],.bool false]) ?_ rfl ⟨_,by rw[HE.out];rfl,hb,by rw[HE.out];exact⟨_,rfl,ah.zC _ _ _ _⟩⟩;clear z0 z1 z2 zf0 zf1 zf2;obtain⟨⟨y0,y1,y2⟩,_⟩:=h1.k3;rw[iV rfl];go_simp;try rfl
  have hka:k<rs.length:=by rw[<-HN.out];exact hlt
  obtain⟨g,off,cs,rfl,-,⟨u,rfl,HU⟩,hc⟩:=ah.get H1.out hka (by omega);have HD:=HK.out;rw[Chk.ku _ hka]at HD;generalize rs[k]=r at *;obtain⟨rn,rc,rf⟩:=r;simp only at HU hc HD;have hB:=HL.out.bel;have a0:=hc 0 _ rfl;have a1:=hc 1 _ rfl;have a2:=hc 2 _ rfl;have hgl:g<w.heap.size:=xH w _ a0;have a0:=(hB.cell hgl).trans a0;have a1:=(hB.cell hgl).trans a1;have a2:=(hB.cell hgl).trans a2;simp only[xK]at a0;have i1:(k:Int)<(n1:Int):=by omega
  obtain⟨A5,n5,c5,rfl⟩:=ah.is HU;have HD2:=hid HD;have HU2:=hid HU;have hne1:¬g=w.heap.size+1:=by omega
  clear hc hB HD HK hka HU;have hsq:=HQ.out;rw[bf.out]at hsq;obtain⟨⟨q0,q1,q2,q3⟩,-⟩:=hsq.k4;clear hsq;cases hn:(rn.toList==name.toList)
  case false =>
   have HK1:Hid (List.find? (λr=>r.name.toList==name.toList) (List.drop (k+1) rs)=R):=hid (by rw[<-HD2.out];simp[hn]);go_wp2_with fail;go_roundw
   case rel=>exact⟨k+1,by omega,by go_num,HK1,HL,HQ⟩
   case measure=>simp[intOf];omega
  have HE:Hid (R=some ⟨rn,rc,rf⟩):=hid (by rw[<-HD2.out];simp[hn]);go_wp2_with fail;have h1:=(((hbk.aA 0 (.string rn)).aA 1 (.bool rc)).aA 2 (.slice A5 n5 c5));have hb:=(((HL.out.bel.setCell (p:=⟨w.heap.size+1,0,none⟩) (by simp) (.string rn)).setCell (p:=⟨w.heap.size+1,1,none⟩) (by simp) (.bool rc)).setCell (p:=⟨w.heap.size+1,2,none⟩) (by simp) (.slice A5 n5 c5));refine bodyPost_ret (v:=.tuple #[.agg #[.string rn,.bool rc,.slice A5 n5 c5],.bool true]) ?_ rfl ⟨_,by rw[HE.out];rfl,hb,by rw[HE.out];exact⟨_,rfl,ah.below HU2.out hb (Id.gJ.below hb)⟩⟩;clear z0 z1 z2 zf0 zf1 zf2;obtain⟨⟨y0,y1,y2⟩,_⟩:=h1.k3;rw[iV rfl];go_simp;try rfl
theorem wK(v:Value)(x:Id.Sch)(name:ByteArray)(w:World)(hv:Id.ay w none v x) :
  Calls Tryz.prog 154 #[v,.string name] w λe w'=>∃ u,e=.returned (.tuple #[u,.bool (Chk.gq x name).isSome])/\Below w.heap.size w w'/\Chk.xw w' none u ((Chk.gq x name).getD Chk.oq):=by
 obtain⟨R,HR⟩:∃ R,Hid (Chk.gq x name=R):=⟨_,hid rfl⟩;rw[HR.out];obtain⟨A1,n1,c1,A2,n2,c2,A3,n3,c3,rfl,r1,r2,r3⟩:=hv;have r:=r3;clear r1 r2 r3;unfold Chk.gq at HR;generalize x.sagas=rs at *;generalize x.name=xn at *;have hn1:n3=rs.length:=by obtain⟨_,_,e,_⟩:=ah.slice r;injection e
 have hm1:n3<=9223372036854775807:=by obtain⟨_,_,e,_,_⟩:=ah.slice r;injection e;omega
 have HN:=hid hn1;have H1:=hid r;clear r hn1;go_enter Tryz.func154,Tryz.ntmps154;go_upto_region 1 with(fail)
 refine aj (λW0 hW0=>?_);have HL0:Hid (Chk.Look w W0 105 #[.string ⟨#[]⟩,.string ⟨#[]⟩,.slice none 0 0]):=hid (by
  subst hW0;refine⟨((Below.refl _ _).alloc (xB _) _).alloc (by simp) _,?_,by simp⟩;have:=Bk.new (w.alloc (.cells #[.string xn,.slice A1 n1 c1,.slice A2 n2 c2,.slice A3 n3 c3] 28)) 105 #[.string ⟨#[]⟩,.string ⟨#[]⟩,.slice none 0 0];rw[World.size_alloc]at this;exact this)
 have q0:Bk W0 w.heap.size 28 #[.string xn,.slice A1 n1 c1,.slice A2 n2 c2,.slice A3 n3 c3]:=by subst hW0;exact(Bk.new w _ _).alloc _
 clear hW0;obtain⟨S,bf⟩:∃ S:Array Value,Hid (S=#[.string xn,.slice A1 n1 c1,.slice A2 n2 c2,.slice A3 n3 c3]):=⟨_,hid rfl⟩;rw[<-bf.out]at q0;have HQ0:=hid q0;clear q0;go_wp2_with fail;go_loopw [6] (λi wr=>∃ k:Nat,k<=n3/\i=.int .i64 k/\Hid ((rs.drop k).find? (λr=>r.name.toList==name.toList)=R)/\Hid (Chk.Look w wr 105 #[.string ⟨#[]⟩,.string ⟨#[]⟩,.slice none 0 0])/\Hid (Bk wr w.heap.size 28 S)) (λi _=>n3 - (intOf i).toNat)
 case atStart=>exact⟨0,by omega,rfl,HR,HL0,HQ0⟩
 case round =>
  clear HL0 HQ0;obtain⟨k,hk,rfl,HK,HL,HQ⟩:=hrel;obtain⟨Wk,rfl⟩:∃ w',w'=wr:=⟨_,rfl⟩;have i0:(0:Int)<=(k:Int):=by omega
  have hbk:=HL.out.blk;obtain⟨⟨z0,z1,z2⟩,zf0,zf1,zf2⟩:=hbk.k3;by_cases hlt:k<n3
  case neg =>
   have HE:Hid (R=none):=hid (by rw[<-HK.out];exact Chk.kC _ (by rw[<-HN.out];omega));have hsq:=HQ.out;rw[bf.out]at hsq;obtain⟨⟨q0,q1,q2,q3⟩,-⟩:=hsq.k4;clear hsq;go_wp2_with fail;have h1:=(((hbk.aA 0 (.string ⟨#[]⟩)).aA 1 (.string ⟨#[]⟩)).aA 2 (.slice none 0 0));have hb:=(((HL.out.bel.setCell (p:=⟨w.heap.size+1,0,none⟩) (by simp) (.string ⟨#[]⟩)).setCell (p:=⟨w.heap.size+1,1,none⟩) (by simp) (.string ⟨#[]⟩)).setCell (p:=⟨w.heap.size+1,2,none⟩) (by simp) (.slice none 0 0));refine bodyPost_ret (v:=.tuple #[.agg #[.string ⟨#[]⟩,.string ⟨#[]⟩,.slice none 0 0],.bool false]) ?_ rfl ⟨_,by rw[HE.out];rfl,hb,by rw[HE.out];exact⟨_,rfl,ah.zC _ _ _ _⟩⟩;clear z0 z1 z2 zf0 zf1 zf2;obtain⟨⟨y0,y1,y2⟩,_⟩:=h1.k3;rw[iV rfl];go_simp;try rfl
  have hka:k<rs.length:=by rw[<-HN.out];exact hlt
  obtain⟨g,off,cs,rfl,-,⟨u,rfl,HU⟩,hc⟩:=ah.get H1.out hka (by omega);have HD:=HK.out;rw[Chk.ku _ hka]at HD;generalize rs[k]=r at *;obtain⟨rn,ra,rf⟩:=r;simp only at HU hc HD;have hB:=HL.out.bel;have a0:=hc 0 _ rfl;have a1:=hc 1 _ rfl;have a2:=hc 2 _ rfl;have hgl:g<w.heap.size:=xH w _ a0;have a0:=(hB.cell hgl).trans a0;have a1:=(hB.cell hgl).trans a1;have a2:=(hB.cell hgl).trans a2;simp only[xK]at a0;have i1:(k:Int)<(n3:Int):=by omega
  obtain⟨A5,n5,c5,rfl⟩:=ah.is HU;have HD2:=hid HD;have HU2:=hid HU;have hne1:¬g=w.heap.size+1:=by omega
  clear hc hB HD HK hka HU;have hsq:=HQ.out;rw[bf.out]at hsq;obtain⟨⟨q0,q1,q2,q3⟩,-⟩:=hsq.k4;clear hsq;cases hn:(rn.toList==name.toList)
  case false =>
   have HK1:Hid (List.find? (λr=>r.name.toList==name.toList) (List.drop (k+1) rs)=R):=hid (by rw[<-HD2.out];simp[hn]);go_wp2_with fail;go_roundw
   case rel=>exact⟨k+1,by omega,by go_num,HK1,HL,HQ⟩
   case measure=>simp[intOf];omega
  have HE:Hid (R=some ⟨rn,ra,rf⟩):=hid (by rw[<-HD2.out];simp[hn]);go_wp2_with fail;have h1:=(((hbk.aA 0 (.string rn)).aA 1 (.string ra)).aA 2 (.slice A5 n5 c5));have hb:=(((HL.out.bel.setCell (p:=⟨w.heap.size+1,0,none⟩) (by simp) (.string rn)).setCell (p:=⟨w.heap.size+1,1,none⟩) (by simp) (.string ra)).setCell (p:=⟨w.heap.size+1,2,none⟩) (by simp) (.slice A5 n5 c5));refine bodyPost_ret (v:=.tuple #[.agg #[.string rn,.string ra,.slice A5 n5 c5],.bool true]) ?_ rfl ⟨_,by rw[HE.out];rfl,hb,by rw[HE.out];exact⟨_,rfl,ah.below HU2.out hb Id.dU.kp⟩⟩;clear z0 z1 z2 zf0 zf1 zf2;obtain⟨⟨y0,y1,y2⟩,_⟩:=h1.k3;rw[iV rfl];go_simp;try rfl
theorem qh(v:Value)(x:Id.Sch)(sv name:ByteArray)(w:World)(hv:Id.ay w none v x) :
  Calls Tryz.prog 152 #[v,.string sv,.string name] w λe w'=>e=.returned (.tuple #[Chk.rV ((Chk.meth x sv name).getD Chk.oz),.bool (Chk.meth x sv name).isSome])/\Below w.heap.size w w':=by
 obtain⟨R,HR⟩:∃ R,Hid (Chk.meth x sv name=R):=⟨_,hid rfl⟩;rw[HR.out];obtain⟨A1,n1,c1,A2,n2,c2,A3,n3,c3,rfl,-,r1,-⟩:=hv;unfold Chk.meth at HR;generalize x.services=rs at *;generalize x.name=xn at *;have hn1:n2=rs.length:=by obtain⟨_,_,e,_⟩:=ah.slice r1;injection e
 have hm1:n2<=9223372036854775807:=by obtain⟨_,_,e,_,_⟩:=ah.slice r1;injection e;omega
 have HN:=hid hn1;have H1:=hid r1;clear r1 hn1;go_enter Tryz.func152,Tryz.ntmps152;go_upto_region 1 with(fail)
 refine aj (λW0 hW0=>?_);have HL0:Hid (Chk.Look w W0 180 #[.string ⟨#[]⟩,.string ⟨#[]⟩,.int .u8 0,.string ⟨#[]⟩,.string ⟨#[]⟩]):=hid (by
  subst hW0;refine⟨((Below.refl _ _).alloc (xB _) _).alloc (by simp) _,?_,by simp⟩;have:=Bk.new (w.alloc (.cells #[.string xn,.slice A1 n1 c1,.slice A2 n2 c2,.slice A3 n3 c3] 28)) 180 #[.string ⟨#[]⟩,.string ⟨#[]⟩,.int .u8 0,.string ⟨#[]⟩,.string ⟨#[]⟩];rw[World.size_alloc]at this;exact this)
 have q0:Bk W0 w.heap.size 28 #[.string xn,.slice A1 n1 c1,.slice A2 n2 c2,.slice A3 n3 c3]:=by subst hW0;exact(Bk.new w _ _).alloc _
 clear hW0;obtain⟨S,bf⟩:∃ S:Array Value,Hid (S=#[.string xn,.slice A1 n1 c1,.slice A2 n2 c2,.slice A3 n3 c3]):=⟨_,hid rfl⟩;rw[<-bf.out]at q0;have HQ0:=hid q0;clear q0;go_wp2_with fail;go_loopw [8] (λi wr=>∃ k:Nat,k<=n2/\i=.int .i64 k/\Hid ((match (rs.drop k).find? (λv=>v.name.toList==sv.toList)with|none=>none|some v=>v.methods.find? (λx=>x.name.toList==name.toList))=R)/\Hid (Chk.Look w wr 180 #[.string ⟨#[]⟩,.string ⟨#[]⟩,.int .u8 0,.string ⟨#[]⟩,.string ⟨#[]⟩])/\Hid (Bk wr w.heap.size 28 S)) (λi _=>n2 - (intOf i).toNat)
 case atStart=>exact⟨0,by omega,rfl,HR,HL0,HQ0⟩
 case round =>
  clear HL0 HQ0;obtain⟨k,hk,rfl,HK,HL,HQ⟩:=hrel;obtain⟨Wk,rfl⟩:∃ w',w'=wr:=⟨_,rfl⟩;have i0:(0:Int)<=(k:Int):=by omega
  by_cases hlt:k<n2
  case neg =>
   have HE:Hid (R=none):=hid (by rw[<-HK.out,Chk.kC _ (by rw[<-HN.out];omega)]);have hsq:=HQ.out;rw[bf.out]at hsq;obtain⟨⟨q0,q1,q2,q3⟩,-⟩:=hsq.k4;clear hsq;have hbk:=HL.out.blk;obtain⟨⟨z0,z1,z2,z3,z4⟩,zf0,zf1,zf2,zf3,zf4⟩:=hbk.k5;go_wp2_with fail;(clear z0 z1 z2 z3 z4 zf0 zf1 zf2 zf3 zf4;have h1:=((((hbk.aA 0 (.string ⟨#[]⟩)).aA 1 (.string ⟨#[]⟩)).aA 2 (.int .u8 0)).aA 3 (.string ⟨#[]⟩)).aA 4 (.string ⟨#[]⟩);obtain⟨⟨y0,y1,y2,y3,y4⟩,_⟩:=h1.k5;refine bodyPost_ret (v:=.tuple #[.agg #[.string ⟨#[]⟩,.string ⟨#[]⟩,.int .u8 0,.string ⟨#[]⟩,.string ⟨#[]⟩],.bool false]) ?_ rfl ⟨by rw[HE.out];rfl,(by have hz0:=(by first|exact HL3.out.bel|exact HL.out.bel);exact((((hz0.setCell (p:=⟨w.heap.size+1,0,none⟩) (by simp) (.string ⟨#[]⟩)).setCell (p:=⟨w.heap.size+1,1,none⟩) (by simp) (.string ⟨#[]⟩)).setCell (p:=⟨w.heap.size+1,2,none⟩) (by simp) (.int .u8 0)).setCell (p:=⟨w.heap.size+1,3,none⟩) (by simp) (.string ⟨#[]⟩)).setCell (p:=⟨w.heap.size+1,4,none⟩) (by simp) (.string ⟨#[]⟩))⟩;rw[iV rfl];go_simp;try rfl)
  have hka:k<rs.length:=by rw[<-HN.out];exact hlt
  obtain⟨g,off,cs,rfl,-,⟨u,rfl,HU⟩,hc⟩:=ah.get H1.out hka (by omega);have HD:=HK.out;rw[Chk.ku _ hka]at HD;generalize rs[k]=r at *;obtain⟨rn,rf⟩:=r;simp only at HU hc HD;have hB:=HL.out.bel;have a0:=hc 0 _ rfl;have a1:=hc 1 _ rfl;have hgl:g<w.heap.size:=xH w _ a0;have a0:=(hB.cell hgl).trans a0;have a1:=(hB.cell hgl).trans a1;simp only[xK]at a0;have i1:(k:Int)<(n2:Int):=by omega
  obtain⟨A5,n5,c5,rfl⟩:=ah.is HU;have hn5:n5=rf.length:=by obtain⟨_,_,e,_⟩:=ah.slice HU;injection e
  have hm5:n5<=9223372036854775807:=by obtain⟨_,_,e,_,_⟩:=ah.slice HU;injection e;omega
  have hbw:=HL.out.size;have hgw:¬g=Wk.heap.size:=by omega
  have HN5:=hid hn5;have HGL:=hid hgl;have HD2:=hid HD;have HU2:=hid HU;clear hc hB HD HK hka HU hn5;have hsq:=HQ.out;rw[bf.out]at hsq;obtain⟨⟨q0,q1,q2,q3⟩,-⟩:=hsq.k4;clear hsq;go_upto_region 5 with(fail)
  refine aj (λW1 hW1=>?_);obtain⟨hb1,hq1,-⟩:=au hW1;clear hW1;have HL1:=hid (HL.out.below hb1);have Uf:=hid (HQ.out.below hb1 HQ.out.lt);clear hb1 a0 a1 q0 q1 q2 q3;obtain⟨⟨b0,b1⟩,-⟩:=hq1.k2;obtain⟨S1,HS1⟩:∃ S1:Array Value,Hid (S1=#[.string rn,.slice A5 n5 c5]):=⟨_,hid rfl⟩;rw[<-HS1.out]at hq1;have HR1:=hid hq1;clear hq1;cases hn:(rn.toList==sv.toList)
  case false =>
   have HK1:Hid ((match (rs.drop (k+1)).find? (λv=>v.name.toList==sv.toList)with|none=>none|some v=>v.methods.find? (λx=>x.name.toList==name.toList))=R):=hid (by rw[<-HD2.out];simp[hn]);go_wp2_with fail;go_roundw
   case rel=>exact⟨k+1,by omega,by go_num,HK1,HL1,Uf⟩
   case measure=>simp[intOf];omega
  have HE0:Hid (rf.find? (λx=>x.name.toList==name.toList)=R):=hid (by rw[<-HD2.out];simp[hn]);go_wp2_with fail;clear b0 b1;have hne:¬Wk.heap.size=w.heap.size+1:=by omega
  go_loopw [10] (λi wr=>∃ j:Nat,j<=n5/\i=.int .i64 j/\Hid ((rf.drop j).find? (λx=>x.name.toList==name.toList)=R)/\Hid (wr=W1)) (λi _=>n5 - (intOf i).toNat)
  case atStart=>exact⟨0,by omega,rfl,HE0,hid rfl⟩
  case round =>
   obtain⟨j,hj,rfl,HK3,HW3⟩:=hrel;obtain rfl:=HW3.out;have i2:(0:Int)<=(j:Int):=by omega
   have iP:=HR1.out;rw[HS1.out]at iP;obtain⟨⟨b0,b1⟩,-⟩:=iP.k2;clear iP;have hbk:=HL1.out.blk;obtain⟨⟨z0,z1,z2,z3,z4⟩,zf0,zf1,zf2,zf3,zf4⟩:=hbk.k5;by_cases hjl:j<n5
   case neg =>
    have HE:Hid (R=none):=hid (by rw[<-HK3.out,Chk.kC _ (by rw[<-HN5.out];omega)]);have HL3:=HL1;go_wp2_with fail;(clear z0 z1 z2 z3 z4 zf0 zf1 zf2 zf3 zf4;have h1:=((((hbk.aA 0 (.string ⟨#[]⟩)).aA 1 (.string ⟨#[]⟩)).aA 2 (.int .u8 0)).aA 3 (.string ⟨#[]⟩)).aA 4 (.string ⟨#[]⟩);obtain⟨⟨y0,y1,y2,y3,y4⟩,_⟩:=h1.k5;refine bodyPost_ret (v:=.tuple #[.agg #[.string ⟨#[]⟩,.string ⟨#[]⟩,.int .u8 0,.string ⟨#[]⟩,.string ⟨#[]⟩],.bool false]) ?_ rfl ⟨by rw[HE.out];rfl,(by have hz0:=(by first|exact HL3.out.bel|exact HL.out.bel);exact((((hz0.setCell (p:=⟨w.heap.size+1,0,none⟩) (by simp) (.string ⟨#[]⟩)).setCell (p:=⟨w.heap.size+1,1,none⟩) (by simp) (.string ⟨#[]⟩)).setCell (p:=⟨w.heap.size+1,2,none⟩) (by simp) (.int .u8 0)).setCell (p:=⟨w.heap.size+1,3,none⟩) (by simp) (.string ⟨#[]⟩)).setCell (p:=⟨w.heap.size+1,4,none⟩) (by simp) (.string ⟨#[]⟩))⟩;rw[iV rfl];go_simp;try rfl)
   have hjf:j<rf.length:=by rw[<-HN5.out];exact hjl
   obtain⟨g5,Oz,cs5,rfl,-,e5,hc5⟩:=ah.get HU2.out hjf (by omega);have HD:=HK3.out;rw[Chk.ku _ hjf]at HD;generalize rf[j]=m at *;obtain⟨m0,m1,m2,m3,m4⟩:=m;unfold Id.dV Id.Mth.cells at e5;subst e5;simp only at HD hc5;have hB:=HL1.out.bel;have a0:=hc5 0 _ rfl;have a1:=hc5 1 _ rfl;have a2:=hc5 2 _ rfl;have a3:=hc5 3 _ rfl;have a4:=hc5 4 _ rfl;have wW:g5<w.heap.size:=xH w _ a0;have a0:=(hB.cell wW).trans a0;have a1:=(hB.cell wW).trans a1;have a2:=(hB.cell wW).trans a2;have a3:=(hB.cell wW).trans a3;have a4:=(hB.cell wW).trans a4;simp only[xK]at a0;have i3:(j:Int)<(n5:Int):=by omega
   have hne5:¬g5=w.heap.size+1:=by omega
   have HD2:=hid HD;clear hc5 hB HD HK3 hjf;cases hn2:(m0.toList==name.toList)
   case false =>
    have HK1:Hid (List.find? (λx=>x.name.toList==name.toList) (List.drop (j+1) rf)=R):=hid (by rw[<-HD2.out];simp[hn2]);go_wp2_with fail;go_roundw
    case rel=>exact⟨j+1,by omega,by go_num,HK1,hid (by first|rfl|trivial)⟩
    case measure=>simp[intOf];omega
   have HE:Hid (R=some ⟨m0,m1,m2,m3,m4⟩):=hid (by rw[<-HD2.out];simp[hn2]);go_wp2_with fail;clear z0 z1 z2 z3 z4 zf0 zf1 zf2 zf3 zf4;have h1:=((((hbk.aA 0 (.string m0)).aA 1 (.string m1)).aA 2 (.int .u8 m2)).aA 3 (.string m3)).aA 4 (.string m4);have hb:=((((HL1.out.bel.setCell (p:=⟨w.heap.size+1,0,none⟩) (by simp) (.string m0)).setCell (p:=⟨w.heap.size+1,1,none⟩) (by simp) (.string m1)).setCell (p:=⟨w.heap.size+1,2,none⟩) (by simp) (.int .u8 m2)).setCell (p:=⟨w.heap.size+1,3,none⟩) (by simp) (.string m3)).setCell (p:=⟨w.heap.size+1,4,none⟩) (by simp) (.string m4);obtain⟨⟨y0,y1,y2,y3,y4⟩,_⟩:=h1.k5;refine bodyPost_ret (v:=.tuple #[.agg #[.string m0,.string m1,.int .u8 m2,.string m3,.string m4],.bool true]) ?_ rfl ⟨by rw[HE.out];rfl,hb⟩;rw[iV rfl];go_simp;try rfl
namespace Chk
open Id
def okS(x:Srt):Prop:=x.name.size<=200
def okF(y:Fld):Prop:=y.name.size<=200/\y.type.length<=40/\∀ i (h:i<y.type.length),okS y.type[i]
def okR(r:Rec):Prop:=r.name.size<=200/\r.fields.length<=40/\∀ i (h:i<r.fields.length),okF r.fields[i]
def okM(m:Mth):Prop:=m.name.size<=200/\m.arg.size<=200/\m.effect.size<=200/\m.undo.size<=200
def okV(v:Svc):Prop:=v.name.size<=200/\v.methods.length<=40/\∀ i (h:i<v.methods.length),okM v.methods[i]
def okP(p:Stp):Prop:=p.service.size<=200/\p.method.size<=200
def okG(g:Sag):Prop:=g.name.size<=200/\g.arg.size<=200/\g.steps.length<=40/\∀ i (h:i<g.steps.length),okP g.steps[i]
def N8(x:Sch):Prop:=∀ i (h:i<x.services.length),okV x.services[i]
def N9(x:Sch):Prop:=∀ i (h:i<x.sagas.length),okG x.sagas[i]
def NC(x:Sch):Prop:=∀ i (h:i<x.records.length),okR x.records[i]
structure Ee(x:Sch):Prop where
 nm:x.name.size<=200
 recs:x.records.length<=100
 kU:x.services.length<=100
 kV:x.sagas.length<=100
 re:NC x
 sv:N8 x
 sa:N9 x
def Bg(w:World)(Q:Prop)(e:Ending)(w':World):Prop:=∃ b,e=.returned (.bool b)/\Below w.heap.size w w'/\(b=false->Q)
theorem Ee.fine{x:Sch}(h:Ee x):Fine x:=by
 obtain⟨h1,h2,h3,h4,h5,h6,h7⟩:=h;refine⟨by omega,by omega,by omega,by omega,λr hr=>?_,λv hv=>?_,λg hg=>?_⟩
 ·obtain⟨i,hi,rfl⟩:=List.getElem_of_mem hr
  obtain⟨a,b,c⟩:=h5 i hi;refine⟨by omega,by omega,λf hf=>?_⟩;obtain⟨j,hj,rfl⟩:=List.getElem_of_mem hf;obtain⟨a,b,c⟩:=c j hj;refine⟨by omega,by omega,λt ht=>?_⟩;obtain⟨k,hk,rfl⟩:=List.getElem_of_mem ht;exact xM (c k hk) (by decide)
 ·obtain⟨i,hi,rfl⟩:=List.getElem_of_mem hv
  obtain⟨a,b,c⟩:=h6 i hi;refine⟨by omega,by omega,λf hf=>?_⟩;obtain⟨j,hj,rfl⟩:=List.getElem_of_mem hf;obtain⟨a,b,c,d⟩:=c j hj;exact⟨by omega,by omega,by omega,by omega⟩
 ·obtain⟨i,hi,rfl⟩:=List.getElem_of_mem hg
  obtain⟨a,a2,b,c⟩:=h7 i hi;refine⟨by omega,by omega,by omega,λf hf=>?_⟩;obtain⟨j,hj,rfl⟩:=List.getElem_of_mem hf;obtain⟨a,b⟩:=c j hj;exact⟨by omega,by omega⟩
end Chk
theorem GR(v:Value)(x:Id.Sch)(w:World)(hv:Id.ay w none v x) :
  Calls Tryz.prog 115 #[v] w (Chk.Bg w (Chk.N8 x)):=by
 have HV:=hid hv;obtain⟨A1,n1,c1,A2,n2,c2,A3,n3,c3,rfl,r1,r2,r3⟩:=hv;have hn1:n1=x.records.length:=by obtain⟨_,_,e,_⟩:=ah.slice r1;injection e
 have hm1:n1<=9223372036854775807:=by obtain⟨_,_,e,_,_⟩:=ah.slice r1;injection e;omega
 have hn2:n2=x.services.length:=by obtain⟨_,_,e,_⟩:=ah.slice r2;injection e
 have hm2:n2<=9223372036854775807:=by obtain⟨_,_,e,_,_⟩:=ah.slice r2;injection e;omega
 have hn3:n3=x.sagas.length:=by obtain⟨_,_,e,_⟩:=ah.slice r3;injection e
 have hm3:n3<=9223372036854775807:=by obtain⟨_,_,e,_,_⟩:=ah.slice r3;injection e;omega
 have HN1:=hid hn1;have H1:=hid r1;have HN2:=hid hn2;have H2:=hid r2;have HN3:=hid hn3;have H3:=hid r3;clear r1 r2 r3 hn1 hn2 hn3;go_enter Tryz.func115,Tryz.ntmps115;go_upto_region 1 with(fail)
 refine aj (λW0 hW0=>?_);obtain⟨hb0,hq0,-⟩:=au hW0;clear hW0;have HB:=hid hb0;have HQ:=hid hq0;clear hb0 hq0;obtain⟨S,bf⟩:∃ S:Array Value,Hid (S=#[.string x.name,.slice A1 n1 c1,.slice A2 n2 c2,.slice A3 n3 c3]):=⟨_,hid rfl⟩;rw[<-bf.out]at HQ;go_wp2_with fail;go_loopw [3] (λi wr=>∃(k:Nat),k<=n2/\i=.int .i64 k/\Hid (∀ i (h:i<x.services.length),i<k->Chk.okV x.services[i])/\Hid (Below w.heap.size w wr)/\Hid (Bk wr w.heap.size 28 S)) (λi _=>n2 - (intOf i).toNat)
 case atStart=>exact⟨0,by omega,rfl,hid (λi _ hi=>absurd hi (Nat.not_lt_zero _)),HB,HQ⟩
 case round =>
  clear HB HQ;obtain⟨k1,hk1,rfl,HP1,HB,HQ⟩:=hrel;obtain⟨W1,rfl⟩:∃ w',w'=wr:=⟨_,rfl⟩;have i10:(0:Int)<=(k1:Int):=by omega
  by_cases hlt1:k1<n2
  case neg =>
   have hsq:=HQ.out;rw[bf.out]at hsq;obtain⟨⟨q0,q1,q2,q3⟩,-⟩:=hsq.k4;clear hsq;go_wp2_with fail;go_ret;exact⟨false,rfl,HB.out,λ_ i h=>HP1.out i h (by have:=HN2.out;omega)⟩
  have hka:k1<x.services.length:=by rw[<-HN2.out];omega
  obtain⟨g1,off1,cs,rfl,-,⟨u,he,HU⟩,hc⟩:=ah.get H2.out hka (by omega);obtain⟨r,Hr⟩:∃ r,Hid (∀ h:k1<x.services.length,x.services[k1]'h=r):=⟨x.services[k1]'hka,hid (λ_=>rfl)⟩;rw[Hr.out hka]at he HU;obtain⟨rn,rf⟩:=r;subst he;simp only at HU hc;obtain⟨A5,n5,c5,rfl⟩:=ah.is HU;have hn5:n5=rf.length:=by obtain⟨_,_,e,_⟩:=ah.slice HU;injection e
  have hm5:n5<=9223372036854775807:=by obtain⟨_,_,e,_,_⟩:=ah.slice HU;injection e;omega
  have HN5:=hid hn5;have H5:=hid HU;have hB:=HB.out;have a0:=hc 0 _ rfl;have a1:=hc 1 _ rfl;have aC:g1<w.heap.size:=xH w _ a0;have a0:=(hB.cell aC).trans a0;have a1:=(hB.cell aC).trans a1;simp only[xK]at a0;have i11:(k1:Int)<(n2:Int):=by omega
  have hbw:=hB.size;have hgw1:¬g1=W1.heap.size:=by omega
  clear hc hB hka HU hn5 hbw;have hsq:=HQ.out;rw[bf.out]at hsq;obtain⟨⟨q0,q1,q2,q3⟩,-⟩:=hsq.k4;clear hsq;go_upto_region 5 with(fail)
  refine aj (λV1 hV=>?_);obtain⟨hbV,hqV,-⟩:=au hV;clear hV;replace HB:=hid (HB.out.trans (Below.mono hbV HB.out.size));replace HQ:=hid (HQ.out.below hbV HQ.out.lt);have HR1:=hid hqV;clear hqV hbV q0 q1 q2 q3 a0 a1;obtain⟨S1,HS1⟩:∃ S1:Array Value,Hid (S1=#[.string rn,.slice A5 n5 c5]):=⟨_,hid rfl⟩;rw[<-HS1.out]at HR1;have iP:=HR1.out;rw[HS1.out]at iP;obtain⟨⟨b0,b1⟩,-⟩:=iP.k2;clear iP;by_cases ht:rn.size<=200
  case neg =>
   have ht2:200<rn.size:=by omega
   go_wp2_with fail;all_goals(go_ret;exact⟨true,rfl,HB.out,λh=>by cases h⟩)
  have ht0:=ht;clear ht;by_cases ht:n5<=40
  case neg =>
   have ht2:40<n5:=by omega
   go_wp2_with fail;all_goals(go_ret;exact⟨true,rfl,HB.out,λh=>by cases h⟩)
  have ht1:=ht;clear ht;go_wp2_with fail;clear b0 b1;go_loopw [5] (λi wr=>∃(k:Nat),k<=n5/\i=.int .i64 k/\Hid (∀ i (h:i<rf.length),i<k->Chk.okM rf[i])/\Hid (Below w.heap.size w wr)/\Hid (Bk wr w.heap.size 28 S)/\Hid (Bk wr W1.heap.size 101 S1)) (λi _=>n5 - (intOf i).toNat)
  case atStart=>exact⟨0,by omega,rfl,hid (λi _ hi=>absurd hi (Nat.not_lt_zero _)),HB,HQ,HR1⟩
  case round =>
   clear HB HQ HR1;obtain⟨k2,hk2,rfl,HP2,HB,HQ,HR1⟩:=hrel;obtain⟨W2,rfl⟩:∃ w',w'=wr:=⟨_,rfl⟩;have i20:(0:Int)<=(k2:Int):=by omega
   have iP:=HR1.out;rw[HS1.out]at iP;obtain⟨⟨b0,b1⟩,-⟩:=iP.k2;clear iP;by_cases hlt2:k2<n5
   case neg =>
    have hnew:∀ i (h:i<x.services.length),i<(k1+1)->Chk.okV x.services[i]:=λi h hi=>by
     rcases Nat.lt_or_eq_of_le (Nat.le_of_lt_succ hi)with h1|rfl
     ·exact HP1.out i h h1
     ·rw[Hr.out];exact⟨ht0,by have:=HN5.out;simp only;omega,λj hj=>HP2.out j hj (by have:=HN5.out;simp only at hj;omega)⟩
    go_wp2_with fail;go_roundw
    case rel=>exact⟨k1+1,by omega,by go_num,hid (hnew),HB,HQ⟩
    case measure=>simp[intOf];omega
   have hkb:k2<rf.length:=by rw[<-HN5.out];exact hlt2
   obtain⟨g2,off2,cs,rfl,-,he,hc⟩:=ah.get H5.out hkb (by omega);obtain⟨y,Hy⟩:∃ y,Hid (∀ h:k2<rf.length,rf[k2]'h=y):=⟨rf[k2]'hkb,hid (λ_=>rfl)⟩;rw[Hy.out hkb]at he;obtain⟨m0,m1,m2,m3,m4⟩:=y;unfold Id.dV Id.Mth.cells at he;subst he;have hB:=HB.out;have a0:=hc 0 _ rfl;have a1:=hc 1 _ rfl;have a2:=hc 2 _ rfl;have a3:=hc 3 _ rfl;have a4:=hc 4 _ rfl;have aH:g2<w.heap.size:=xH w _ a0;have a0:=(hB.cell aH).trans a0;have a1:=(hB.cell aH).trans a1;have a2:=(hB.cell aH).trans a2;have a3:=(hB.cell aH).trans a3;have a4:=(hB.cell aH).trans a4;simp only[xK]at a0;have i21:(k2:Int)<(n5:Int):=by omega
   have hbw:=hB.size;have uD:¬g2=W2.heap.size:=by omega
   clear hc hB hkb hbw;go_upto_region 11 with(fail)
   refine aj (λV2 hV=>?_);obtain⟨hbV,hqV,-⟩:=au hV;clear hV;replace HB:=hid (HB.out.trans (Below.mono hbV HB.out.size));replace HQ:=hid (HQ.out.below hbV HQ.out.lt);replace HR1:=hid (HR1.out.below hbV HR1.out.lt);clear hbV a0 a1 a2 a3 a4 b0 b1;obtain⟨⟨e0,e1,e2,e3,e4⟩,-⟩:=hqV.k5;clear hqV;by_cases ht:m0.size<=200
   case neg =>
    have ht2:200<m0.size:=by omega
    go_wp2_with fail;all_goals(go_ret;exact⟨true,rfl,HB.out,λh=>by cases h⟩)
   have hu0:=ht;clear ht;by_cases ht:m1.size<=200
   case neg =>
    have ht2:200<m1.size:=by omega
    go_wp2_with fail;all_goals(go_ret;exact⟨true,rfl,HB.out,λh=>by cases h⟩)
   have hu1:=ht;clear ht;by_cases ht:m3.size<=200
   case neg =>
    have ht2:200<m3.size:=by omega
    go_wp2_with fail;all_goals(go_ret;exact⟨true,rfl,HB.out,λh=>by cases h⟩)
   have hu2:=ht;clear ht;by_cases ht:m4.size<=200
   case neg =>
    have ht2:200<m4.size:=by omega
    go_wp2_with fail;all_goals(go_ret;exact⟨true,rfl,HB.out,λh=>by cases h⟩)
   have hu3:=ht;clear ht;have hnew:∀ i (h:i<rf.length),i<(k2+1)->Chk.okM rf[i]:=λi h hi=>by
    rcases Nat.lt_or_eq_of_le (Nat.le_of_lt_succ hi)with h1|rfl
    ·exact HP2.out i h h1
    ·rw[Hy.out];exact⟨hu0,hu1,hu2,hu3⟩
   go_wp2_with fail;go_roundw
   case rel=>exact⟨k2+1,by omega,by go_num,hid (hnew),HB,HQ,HR1⟩
   case measure=>simp[intOf];omega
theorem GU(v:Value)(x:Id.Sch)(w:World)(hv:Id.ay w none v x) :
  Calls Tryz.prog 116 #[v] w (Chk.Bg w (Chk.N9 x)):=by
   have HV:=hid hv;obtain⟨A1,n1,c1,A2,n2,c2,A3,n3,c3,rfl,r1,r2,r3⟩:=hv;have hn1:n1=x.records.length:=by obtain⟨_,_,e,_⟩:=ah.slice r1;injection e
   have hm1:n1<=9223372036854775807:=by obtain⟨_,_,e,_,_⟩:=ah.slice r1;injection e;omega
   have hn2:n2=x.services.length:=by obtain⟨_,_,e,_⟩:=ah.slice r2;injection e
   have hm2:n2<=9223372036854775807:=by obtain⟨_,_,e,_,_⟩:=ah.slice r2;injection e;omega
   have hn3:n3=x.sagas.length:=by obtain⟨_,_,e,_⟩:=ah.slice r3;injection e
   have hm3:n3<=9223372036854775807:=by obtain⟨_,_,e,_,_⟩:=ah.slice r3;injection e;omega
   have HN1:=hid hn1;have H1:=hid r1;have HN2:=hid hn2;have H2:=hid r2;have HN3:=hid hn3;have H3:=hid r3;clear r1 r2 r3 hn1 hn2 hn3;go_enter Tryz.func116,Tryz.ntmps116;go_upto_region 1 with(fail)
   refine aj (λW0 hW0=>?_);obtain⟨hb0,hq0,-⟩:=au hW0;clear hW0;have HB:=hid hb0;have HQ:=hid hq0;clear hb0 hq0;obtain⟨S,bf⟩:∃ S:Array Value,Hid (S=#[.string x.name,.slice A1 n1 c1,.slice A2 n2 c2,.slice A3 n3 c3]):=⟨_,hid rfl⟩;rw[<-bf.out]at HQ;go_wp2_with fail;go_loopw [3] (λi wr=>∃(k:Nat),k<=n3/\i=.int .i64 k/\Hid (∀ i (h:i<x.sagas.length),i<k->Chk.okG x.sagas[i])/\Hid (Below w.heap.size w wr)/\Hid (Bk wr w.heap.size 28 S)) (λi _=>n3 - (intOf i).toNat)
   case atStart=>exact⟨0,by omega,rfl,hid (λi _ hi=>absurd hi (Nat.not_lt_zero _)),HB,HQ⟩
   case round =>
    clear HB HQ;obtain⟨k1,hk1,rfl,HP1,HB,HQ⟩:=hrel;obtain⟨W1,rfl⟩:∃ w',w'=wr:=⟨_,rfl⟩;have i10:(0:Int)<=(k1:Int):=by omega
    by_cases hlt1:k1<n3
    case neg =>
     have hsq:=HQ.out;rw[bf.out]at hsq;obtain⟨⟨q0,q1,q2,q3⟩,-⟩:=hsq.k4;clear hsq;go_wp2_with fail;go_ret;exact⟨false,rfl,HB.out,λ_ i h=>HP1.out i h (by have:=HN3.out;omega)⟩
    have hka:k1<x.sagas.length:=by rw[<-HN3.out];omega
    obtain⟨g1,off1,cs,rfl,-,⟨u,he,HU⟩,hc⟩:=ah.get H3.out hka (by omega);obtain⟨r,Hr⟩:∃ r,Hid (∀ h:k1<x.sagas.length,x.sagas[k1]'h=r):=⟨x.sagas[k1]'hka,hid (λ_=>rfl)⟩;rw[Hr.out hka]at he HU;obtain⟨rn,ra,rf⟩:=r;subst he;simp only at HU hc;obtain⟨A5,n5,c5,rfl⟩:=ah.is HU;have hn5:n5=rf.length:=by obtain⟨_,_,e,_⟩:=ah.slice HU;injection e
    have hm5:n5<=9223372036854775807:=by obtain⟨_,_,e,_,_⟩:=ah.slice HU;injection e;omega
    have HN5:=hid hn5;have H5:=hid HU;have hB:=HB.out;have a0:=hc 0 _ rfl;have a1:=hc 1 _ rfl;have a2:=hc 2 _ rfl;have aC:g1<w.heap.size:=xH w _ a0;have a0:=(hB.cell aC).trans a0;have a1:=(hB.cell aC).trans a1;have a2:=(hB.cell aC).trans a2;simp only[xK]at a0;have i11:(k1:Int)<(n3:Int):=by omega
    have hbw:=hB.size;have hgw1:¬g1=W1.heap.size:=by omega
    clear hc hB hka HU hn5 hbw;have hsq:=HQ.out;rw[bf.out]at hsq;obtain⟨⟨q0,q1,q2,q3⟩,-⟩:=hsq.k4;clear hsq;go_upto_region 5 with(fail)
    refine aj (λV1 hV=>?_);obtain⟨hbV,hqV,-⟩:=au hV;clear hV;replace HB:=hid (HB.out.trans (Below.mono hbV HB.out.size));replace HQ:=hid (HQ.out.below hbV HQ.out.lt);have HR1:=hid hqV;clear hqV hbV q0 q1 q2 q3 a0 a1 a2;obtain⟨S1,HS1⟩:∃ S1:Array Value,Hid (S1=#[.string rn,.string ra,.slice A5 n5 c5]):=⟨_,hid rfl⟩;rw[<-HS1.out]at HR1;have iP:=HR1.out;rw[HS1.out]at iP;obtain⟨⟨b0,b1,b2⟩,-⟩:=iP.k3;clear iP;by_cases ht:rn.size<=200
    case neg =>
     have ht2:200<rn.size:=by omega
     go_wp2_with fail;all_goals(go_ret;exact⟨true,rfl,HB.out,λh=>by cases h⟩)
    have ht0:=ht;clear ht;by_cases ht:ra.size<=200
    case neg =>
     have ht2:200<ra.size:=by omega
     go_wp2_with fail;all_goals(go_ret;exact⟨true,rfl,HB.out,λh=>by cases h⟩)
    have ht1:=ht;clear ht;by_cases ht:n5<=40
    case neg =>
     have ht2:40<n5:=by omega
     go_wp2_with fail;all_goals(go_ret;exact⟨true,rfl,HB.out,λh=>by cases h⟩)
    have ht2:=ht;clear ht;go_wp2_with fail;clear b0 b1 b2;go_loopw [5] (λi wr=>∃(k:Nat),k<=n5/\i=.int .i64 k/\Hid (∀ i (h:i<rf.length),i<k->Chk.okP rf[i])/\Hid (Below w.heap.size w wr)/\Hid (Bk wr w.heap.size 28 S)/\Hid (Bk wr W1.heap.size 105 S1)) (λi _=>n5 - (intOf i).toNat)
    case atStart=>exact⟨0,by omega,rfl,hid (λi _ hi=>absurd hi (Nat.not_lt_zero _)),HB,HQ,HR1⟩
    case round =>
     clear HB HQ HR1;obtain⟨k2,hk2,rfl,HP2,HB,HQ,HR1⟩:=hrel;obtain⟨W2,rfl⟩:∃ w',w'=wr:=⟨_,rfl⟩;have i20:(0:Int)<=(k2:Int):=by omega
     have iP:=HR1.out;rw[HS1.out]at iP;obtain⟨⟨b0,b1,b2⟩,-⟩:=iP.k3;clear iP;by_cases hlt2:k2<n5
     case neg =>
      have hnew:∀ i (h:i<x.sagas.length),i<(k1+1)->Chk.okG x.sagas[i]:=λi h hi=>by
       rcases Nat.lt_or_eq_of_le (Nat.le_of_lt_succ hi)with h1|rfl
       ·exact HP1.out i h h1
       ·rw[Hr.out];exact⟨ht0,ht1,by have:=HN5.out;simp only;omega,λj hj=>HP2.out j hj (by have:=HN5.out;simp only at hj;omega)⟩
      go_wp2_with fail;go_roundw
      case rel=>exact⟨k1+1,by omega,by go_num,hid (hnew),HB,HQ⟩
      case measure=>simp[intOf];omega
     have hkb:k2<rf.length:=by rw[<-HN5.out];exact hlt2
     obtain⟨g2,off2,cs,rfl,-,he,hc⟩:=ah.get H5.out hkb (by omega);obtain⟨y,Hy⟩:∃ y,Hid (∀ h:k2<rf.length,rf[k2]'h=y):=⟨rf[k2]'hkb,hid (λ_=>rfl)⟩;rw[Hy.out hkb]at he;obtain⟨p0,p1,p2⟩:=y;unfold Id.dU Id.Stp.cells at he;subst he;have hB:=HB.out;have a0:=hc 0 _ rfl;have a1:=hc 1 _ rfl;have a2:=hc 2 _ rfl;have aH:g2<w.heap.size:=xH w _ a0;have a0:=(hB.cell aH).trans a0;have a1:=(hB.cell aH).trans a1;have a2:=(hB.cell aH).trans a2;simp only[xK]at a0;have i21:(k2:Int)<(n5:Int):=by omega
     clear hc hB hkb;by_cases ht:p0.size<=200
     case neg =>
      have ht2:200<p0.size:=by omega
      go_wp2_with fail;all_goals(go_ret;exact⟨true,rfl,HB.out,λh=>by cases h⟩)
     have hu0:=ht;clear ht;by_cases ht:p1.size<=200
     case neg =>
      have ht2:200<p1.size:=by omega
      go_wp2_with fail;all_goals(go_ret;exact⟨true,rfl,HB.out,λh=>by cases h⟩)
     have hu1:=ht;clear ht;have hnew:∀ i (h:i<rf.length),i<(k2+1)->Chk.okP rf[i]:=λi h hi=>by
      rcases Nat.lt_or_eq_of_le (Nat.le_of_lt_succ hi)with h1|rfl
      ·exact HP2.out i h h1
      ·rw[Hy.out];exact⟨hu0,hu1⟩
     go_wp2_with fail;go_roundw
     case rel=>exact⟨k2+1,by omega,by go_num,hid (hnew),HB,HQ,HR1⟩
     case measure=>simp[intOf];omega
theorem Kz(v:Value)(x:Id.Sch)(w:World)(hv:Id.ay w none v x) :
  Calls Tryz.prog 48 #[v] w (Chk.Bg w (Chk.Ee x)):=by
     have HV:=hid hv;obtain⟨A1,n1,c1,A2,n2,c2,A3,n3,c3,rfl,r1,r2,r3⟩:=hv;have hn1:n1=x.records.length:=by obtain⟨_,_,e,_⟩:=ah.slice r1;injection e
     have hm1:n1<=9223372036854775807:=by obtain⟨_,_,e,_,_⟩:=ah.slice r1;injection e;omega
     have hn2:n2=x.services.length:=by obtain⟨_,_,e,_⟩:=ah.slice r2;injection e
     have hm2:n2<=9223372036854775807:=by obtain⟨_,_,e,_,_⟩:=ah.slice r2;injection e;omega
     have hn3:n3=x.sagas.length:=by obtain⟨_,_,e,_⟩:=ah.slice r3;injection e
     have hm3:n3<=9223372036854775807:=by obtain⟨_,_,e,_,_⟩:=ah.slice r3;injection e;omega
     have HN1:=hid hn1;have H1:=hid r1;have HN2:=hid hn2;have H2:=hid r2;have HN3:=hid hn3;have H3:=hid r3;clear r1 r2 r3 hn1 hn2 hn3;go_enter Tryz.func48,Tryz.ntmps48;go_upto_region 1 with(fail)
     refine aj (λW0 hW0=>?_);obtain⟨hb0,hq0,-⟩:=au hW0;clear hW0;have HB:=hid hb0;have HQ:=hid hq0;clear hb0 hq0;obtain⟨S,bf⟩:∃ S:Array Value,Hid (S=#[.string x.name,.slice A1 n1 c1,.slice A2 n2 c2,.slice A3 n3 c3]):=⟨_,hid rfl⟩;rw[<-bf.out]at HQ;have hsq:=HQ.out;rw[bf.out]at hsq;obtain⟨⟨q0,q1,q2,q3⟩,-⟩:=hsq.k4;clear hsq;by_cases ht:n1<=100
     case neg =>
      have ht2:100<n1:=by omega
      go_wp2_with fail;all_goals(go_ret;exact⟨true,rfl,HB.out,λh=>by cases h⟩)
     have g1x:=ht;clear ht;by_cases ht:n2<=100
     case neg =>
      have ht2:100<n2:=by omega
      go_wp2_with fail;all_goals(go_ret;exact⟨true,rfl,HB.out,λh=>by cases h⟩)
     have g2x:=ht;clear ht;by_cases ht:n3<=100
     case neg =>
      have ht2:100<n3:=by omega
      go_wp2_with fail;all_goals(go_ret;exact⟨true,rfl,HB.out,λh=>by cases h⟩)
     have g3x:=ht;clear ht;by_cases ht:x.name.size<=200
     case neg =>
      have ht2:200<x.name.size:=by omega
      go_wp2_with fail;all_goals(go_ret;exact⟨true,rfl,HB.out,λh=>by cases h⟩)
     have g4x:=ht;clear ht;go_wp2_with fail;clear q0 q1 q2 q3;go_loopw [3] (λi wr=>∃(k:Nat),k<=n1/\i=.int .i64 k/\Hid (∀ i (h:i<x.records.length),i<k->Chk.okR x.records[i])/\Hid (Below w.heap.size w wr)/\Hid (Bk wr w.heap.size 28 S)) (λi _=>n1 - (intOf i).toNat)
     case atStart=>exact⟨0,by omega,rfl,hid (λi _ hi=>absurd hi (Nat.not_lt_zero _)),HB,HQ⟩
     case round =>
      clear HB HQ;obtain⟨k1,hk1,rfl,HP1,HB,HQ⟩:=hrel;obtain⟨W1,rfl⟩:∃ w',w'=wr:=⟨_,rfl⟩;have i10:(0:Int)<=(k1:Int):=by omega
      by_cases hlt1:k1<n1
      case neg =>
       have hsq:=HQ.out;rw[bf.out]at hsq;obtain⟨⟨q0,q1,q2,q3⟩,-⟩:=hsq.k4;clear hsq;have HRE:Hid (Chk.NC x):=hid (λi h=>HP1.out i h (by have:=HN1.out;omega));go_wp2_with fail;refine(GR _ x _ (Id.ay.below HB.out HV.out)).mono ?_;rintro e Wv⟨bv,rfl,hbv,hv⟩;have HVV:=hid hv;clear hv q0 q1 q2 q3;replace HB:=hid (HB.out.trans (Below.mono hbv HB.out.size));replace HQ:=hid (HQ.out.below hbv HQ.out.lt);have hsq:=HQ.out;rw[bf.out]at hsq;obtain⟨⟨q0,q1,q2,q3⟩,-⟩:=hsq.k4;clear hsq;cases bv
       case true =>
        go_wp2_with fail;go_ret;exact⟨true,rfl,HB.out,λh=>by cases h⟩
       case false =>
        go_wp2_with fail;refine(GU _ x _ (Id.ay.below HB.out HV.out)).mono ?_;rintro e Wg⟨bg,rfl,hbg,hg⟩;have HGG:=hid hg;clear hg q0 q1 q2 q3;replace HB:=hid (HB.out.trans (Below.mono hbg HB.out.size));replace HQ:=hid (HQ.out.below hbg HQ.out.lt);go_wp2_with fail;go_ret;exact⟨bg,rfl,HB.out,λh=>⟨g4x,by have:=HN1.out;omega,by have:=HN2.out;omega,by have:=HN3.out;omega,HRE.out,HVV.out (by first|rfl|trivial),HGG.out h⟩⟩
      have hka:k1<x.records.length:=by rw[<-HN1.out];omega
      obtain⟨g1,off1,cs,rfl,-,⟨u,he,HU⟩,hc⟩:=ah.get H1.out hka (by omega);obtain⟨r,Hr⟩:∃ r,Hid (∀ h:k1<x.records.length,x.records[k1]'h=r):=⟨x.records[k1]'hka,hid (λ_=>rfl)⟩;rw[Hr.out hka]at he HU;obtain⟨rn,rc,rf⟩:=r;subst he;simp only at HU hc;obtain⟨A5,n5,c5,rfl⟩:=ah.is HU;have hn5:n5=rf.length:=by obtain⟨_,_,e,_⟩:=ah.slice HU;injection e
      have hm5:n5<=9223372036854775807:=by obtain⟨_,_,e,_,_⟩:=ah.slice HU;injection e;omega
      have HN5:=hid hn5;have H5:=hid HU;have hB:=HB.out;have a0:=hc 0 _ rfl;have a1:=hc 1 _ rfl;have a2:=hc 2 _ rfl;have aC:g1<w.heap.size:=xH w _ a0;have a0:=(hB.cell aC).trans a0;have a1:=(hB.cell aC).trans a1;have a2:=(hB.cell aC).trans a2;simp only[xK]at a0;have i11:(k1:Int)<(n1:Int):=by omega
      have hbw:=hB.size;have hgw1:¬g1=W1.heap.size:=by omega
      clear hc hB hka HU hn5 hbw;have hsq:=HQ.out;rw[bf.out]at hsq;obtain⟨⟨q0,q1,q2,q3⟩,-⟩:=hsq.k4;clear hsq;go_upto_region 7 with(fail)
      refine aj (λV1 hV=>?_);obtain⟨hbV,hqV,-⟩:=au hV;clear hV;replace HB:=hid (HB.out.trans (Below.mono hbV HB.out.size));replace HQ:=hid (HQ.out.below hbV HQ.out.lt);have HR1:=hid hqV;clear hqV hbV q0 q1 q2 q3 a0 a1 a2;obtain⟨S1,HS1⟩:∃ S1:Array Value,Hid (S1=#[.string rn,.bool rc,.slice A5 n5 c5]):=⟨_,hid rfl⟩;rw[<-HS1.out]at HR1;have iP:=HR1.out;rw[HS1.out]at iP;obtain⟨⟨b0,b1,b2⟩,-⟩:=iP.k3;clear iP;by_cases ht:rn.size<=200
      case neg =>
       have ht2:200<rn.size:=by omega
       go_wp2_with fail;all_goals(go_ret;exact⟨true,rfl,HB.out,λh=>by cases h⟩)
      have ht0:=ht;clear ht;by_cases ht:n5<=40
      case neg =>
       have ht2:40<n5:=by omega
       go_wp2_with fail;all_goals(go_ret;exact⟨true,rfl,HB.out,λh=>by cases h⟩)
      have ht1:=ht;clear ht;go_wp2_with fail;clear b0 b1 b2;go_loopw [5] (λi wr=>∃(k:Nat),k<=n5/\i=.int .i64 k/\Hid (∀ i (h:i<rf.length),i<k->Chk.okF rf[i])/\Hid (Below w.heap.size w wr)/\Hid (Bk wr w.heap.size 28 S)/\Hid (Bk wr W1.heap.size 42 S1)) (λi _=>n5 - (intOf i).toNat)
      case atStart=>exact⟨0,by omega,rfl,hid (λi _ hi=>absurd hi (Nat.not_lt_zero _)),HB,HQ,HR1⟩
      case round =>
       clear HB HQ HR1;obtain⟨k2,hk2,rfl,HP2,HB,HQ,HR1⟩:=hrel;obtain⟨W2,rfl⟩:∃ w',w'=wr:=⟨_,rfl⟩;have i20:(0:Int)<=(k2:Int):=by omega
       have iP:=HR1.out;rw[HS1.out]at iP;obtain⟨⟨b0,b1,b2⟩,-⟩:=iP.k3;clear iP;by_cases hlt2:k2<n5
       case neg =>
        have hnew:∀ i (h:i<x.records.length),i<(k1+1)->Chk.okR x.records[i]:=λi h hi=>by
         rcases Nat.lt_or_eq_of_le (Nat.le_of_lt_succ hi)with h1|rfl
         ·exact HP1.out i h h1
         ·rw[Hr.out];exact⟨ht0,by have:=HN5.out;simp only;omega,λj hj=>HP2.out j hj (by have:=HN5.out;simp only at hj;omega)⟩
        go_wp2_with fail;go_roundw
        case rel=>exact⟨k1+1,by omega,by go_num,hid (hnew),HB,HQ⟩
        case measure=>simp[intOf];omega
       have hkb:k2<rf.length:=by rw[<-HN5.out];exact hlt2
       obtain⟨g2,off2,cs,rfl,-,⟨u,he,HU⟩,hc⟩:=ah.get H5.out hkb (by omega);obtain⟨y,Hy⟩:∃ y,Hid (∀ h:k2<rf.length,rf[k2]'h=y):=⟨rf[k2]'hkb,hid (λ_=>rfl)⟩;rw[Hy.out hkb]at he HU;obtain⟨yn,yt⟩:=y;subst he;simp only at HU hc;obtain⟨A7,n7,c7,rfl⟩:=ah.is HU;have hn7:n7=yt.length:=by obtain⟨_,_,e,_⟩:=ah.slice HU;injection e
       have hm7:n7<=9223372036854775807:=by obtain⟨_,_,e,_,_⟩:=ah.slice HU;injection e;omega
       have HN7:=hid hn7;have H7:=hid HU;have hB:=HB.out;have a0:=hc 0 _ rfl;have a1:=hc 1 _ rfl;have aH:g2<w.heap.size:=xH w _ a0;have f0:=a0;have f1:=a1;have a0:=(hB.cell aH).trans a0;have a1:=(hB.cell aH).trans a1;simp only[xK]at a0 f0;have HA0:=hid f0;have HA1:=hid f1;have i21:(k2:Int)<(n5:Int):=by omega
       clear hc hB hkb HU hn7 f0 f1;by_cases ht:yn.size<=200
       case neg =>
        have ht2:200<yn.size:=by omega
        go_wp2_with fail;all_goals(go_ret;exact⟨true,rfl,HB.out,λh=>by cases h⟩)
       have hu0:=ht;clear ht;by_cases ht:n7<=40
       case neg =>
        have ht2:40<n7:=by omega
        go_wp2_with fail;all_goals(go_ret;exact⟨true,rfl,HB.out,λh=>by cases h⟩)
       have hu1:=ht;clear ht;go_wp2_with fail;clear a0 a1 b0 b1 b2;go_loopw [6] (λi wr=>∃(k:Nat),k<=n7/\i=.int .i64 k/\Hid (∀ i (h:i<yt.length),i<k->Chk.okS yt[i])/\Hid (Below w.heap.size w wr)/\Hid (Bk wr w.heap.size 28 S)/\Hid (Bk wr W1.heap.size 42 S1)) (λi _=>n7 - (intOf i).toNat)
       case atStart=>exact⟨0,by omega,rfl,hid (λi _ hi=>absurd hi (Nat.not_lt_zero _)),HB,HQ,HR1⟩
       case round =>
        clear HB HQ HR1;obtain⟨k3,hk3,rfl,HP3,HB,HQ,HR1⟩:=hrel;obtain⟨W3,rfl⟩:∃ w',w'=wr:=⟨_,rfl⟩;have i30:(0:Int)<=(k3:Int):=by omega
        have iP:=HR1.out;rw[HS1.out]at iP;obtain⟨⟨b0,b1,b2⟩,-⟩:=iP.k3;clear iP;have a1:=(HB.out.cell aH).trans HA1.out;by_cases hlt3:k3<n7
        case neg =>
         have hnew:∀ i (h:i<rf.length),i<(k2+1)->Chk.okF rf[i]:=λi h hi=>by
          rcases Nat.lt_or_eq_of_le (Nat.le_of_lt_succ hi)with h1|rfl
          ·exact HP2.out i h h1
          ·rw[Hy.out];exact⟨hu0,by have:=HN7.out;simp only;omega,λj hj=>HP3.out j hj (by have:=HN7.out;simp only at hj;omega)⟩
         go_wp2_with fail;go_roundw
         case rel=>exact⟨k2+1,by omega,by go_num,hid (hnew),HB,HQ,HR1⟩
         case measure=>simp[intOf];omega
        have hkc:k3<yt.length:=by rw[<-HN7.out];exact hlt3
        obtain⟨g3,Us,cs,rfl,-,he,hc⟩:=ah.get H7.out hkc (by omega);obtain⟨z,Hz⟩:∃ z,Hid (∀ h:k3<yt.length,yt[k3]'h=z):=⟨yt[k3]'hkc,hid (λ_=>rfl)⟩;rw[Hz.out hkc]at he;obtain⟨zk,zn⟩:=z;unfold Id.gU Id.Srt.cells at he;subst he;have s0:=hc 0 _ rfl;have s1:=hc 1 _ rfl;have RP:g3<w.heap.size:=xH w _ s0;have s0:=(HB.out.cell RP).trans s0;have s1:=(HB.out.cell RP).trans s1;simp only[xK]at s0;have i31:(k3:Int)<(n7:Int):=by omega
        clear hc hkc;by_cases ht:zn.size<=200
        case neg =>
         have ht2:200<zn.size:=by omega
         go_wp2_with fail;all_goals(go_ret;exact⟨true,rfl,HB.out,λh=>by cases h⟩)
        have hz0:=ht;clear ht;have hnew:∀ i (h:i<yt.length),i<(k3+1)->Chk.okS yt[i]:=λi h hi=>by
         rcases Nat.lt_or_eq_of_le (Nat.le_of_lt_succ hi)with h1|rfl
         ·exact HP3.out i h h1
         ·rw[Hz.out];exact hz0
        go_wp2_with fail;go_roundw
        case rel=>exact⟨k3+1,by omega,by go_num,hid (hnew),HB,HQ,HR1⟩
        case measure=>simp[intOf];omega
end
section
open Go.ChangeShapes Go.Deep Go.Joins Go.WideShapes
section
variable {H : Type} {enc : TypeId × Value -> H} {P : Program} {w : World} {base : Nat} {spare : Nat -> Bool} {held : Bool}
theorem AZ{α β:Type}(p:α->β->Prop):∀(vs:List α),(∀ x∈vs,∃ b,p x b)->∃ l:List β,l.length=vs.length/\∀ i (h:i<vs.length)(h':i<l.length),p vs[i] l[i]
 |[],_=>⟨[],rfl,λi h=>absurd h (Nat.not_lt_zero _)⟩
 |x::vs,h=>by
  obtain⟨b,hb⟩:=h x (by simp);obtain⟨l,hl,hp⟩:=AZ p vs (λy hy=>h y (by simp[hy]));refine⟨b::l,by simp[hl],λi hi hi'=>?_⟩;match i with
  |0=>exact hb
  |i+1=>exact hp i (by simpa using hi) (by simpa using hi')
theorem mG{α:Type}(E:World->List Value->α->Prop){t e:TypeId}{fs:Array Field}{fuel:Nat}{v:Value}{x:DataW H × List MemPlace}(ht:P.underlying t=some (.slice e))(he:P.underlying e=some (.struct fs))
  (hone:oneCellFields P fs=true) (hC:P.cellsOf e=fs.size) (hpos:0<fs.size) (h:DataW.trod enc P w base spare held fuel t [v]=some x)
  (hE:∀ cs:List Value,cs.length=fs.size->(∀(j:Nat)(f:Field),fs[j]?=some f->∃(u:Value)(k:Nat)(y:DataW H × List MemPlace),cs[j]?=some u/\DataW.trod enc P w base spare held k f.type [u]=some y)->∃ a:α,E w cs a) :
  ∃ l:List α,ah w none e fs.size E v l:=by
 obtain⟨A,n,c,vs,rfl,hnc,hc,hA,hvl,OL,hx⟩:=Js ht he hone hC hpos h;obtain⟨l,hl,hp⟩:=AZ (λcs a=>E w cs a) vs (λcs hcs=>hE cs (hx cs hcs).1 (hx cs hcs).2);have hsz:∀ cs∈vs,cs.length=fs.size:=λcs hcs=>(hx cs hcs).1
 exact⟨l,vs,hl.symm,hsz,⟨by rw[lM hsz,hl],A,c,by rw[hl,hvl],by rw[hl,hvl];exact hnc,by unfold maxLen at hc;omega,λe=>by rw[hl,hvl];exact hA e,OL⟩,hp⟩
end
theorem zG{cs:List Value}{a b:Value}(hl:cs.length=2)(h0:cs[0]?=some a)(h1:cs[1]?=some b):cs=[a,b]:=by
 match cs,hl with
 |[x,y],_=>simp at h0 h1;rw[h0,h1]
theorem zF{cs:List Value}{a b c:Value}(hl:cs.length=3)(h0:cs[0]?=some a)(h1:cs[1]?=some b)(h2:cs[2]?=some c):cs=[a,b,c]:=by
 match cs,hl with
 |[x,y,z],_=>simp at h0 h1 h2;rw[h0,h1,h2]
theorem OB{cs:List Value}{a b c d e:Value}(hl:cs.length=5)(h0:cs[0]?=some a)(h1:cs[1]?=some b)(h2:cs[2]?=some c)(h3:cs[3]?=some d)(h4:cs[4]?=some e):cs=[a,b,c,d,e]:=by
 match cs,hl with
 |[x,y,z,u,v],_=>simp at h0 h1 h2 h3 h4;rw[h0,h1,h2,h3,h4]
theorem Dc{q:IntKind}(hq:q.min=0){n:Int}(h:(Lit.int q n).wf=true):∃ k:Nat,n=k:=by
 have:0<=n:=by simp[Lit.wf,hq]at h;omega
 exact⟨n.toNat,by omega⟩
section
variable {H : Type} {enc : TypeId × Value -> H} {w : World} {base : Nat} {spare : Nat -> Bool} {held : Bool}
theorem Jr{fuel:Nat}{v:Value}{x:DataW H × List MemPlace}(h:DataW.trod enc Tryz.prog w base spare held fuel 45 [v]=some x):∃ l:List Id.Srt,Id.bG w none v l :=
 mG Id.gU Tryz.underlying45 Tryz.underlying44 (by kernel_rfl) (by kernel_rfl) (by decide) h λcs hl hf=>by
  obtain⟨u0,k0,y0,e0,t0⟩:=hf 0 _ rfl;obtain⟨u1,k1,y1,e1,t1⟩:=hf 1 _ rfl;obtain⟨n0,hn0,z0⟩:=DataW.trod_int Tryz.underlying5 t0;obtain⟨n1,hn1,z1⟩:=DataW.trod_string Tryz.underlying9 t1;simp only[List.cons.injEq,and_true]at hn0 hn1;subst hn0 hn1;obtain⟨k,rfl⟩:=Dc rfl z0.2;exact⟨⟨k,n1⟩,zG hl e0 e1⟩
theorem MG{fuel:Nat}{v:Value}{x:DataW H × List MemPlace}(h:DataW.trod enc Tryz.prog w base spare held fuel 40 [v]=some x):∃ l:List Id.Fld,Id.jC w none v l :=
 mG (Id.gJ none) Tryz.underlying40 Tryz.underlying176 (by kernel_rfl) (by kernel_rfl) (by decide) h λcs hl hf=>by
  obtain⟨u0,k0,y0,e0,t0⟩:=hf 0 _ rfl;obtain⟨u1,k1,y1,e1,t1⟩:=hf 1 _ rfl;obtain⟨n0,hn0,z0⟩:=DataW.trod_string Tryz.underlying9 t0;simp only[List.cons.injEq,and_true]at hn0;subst hn0;obtain⟨l,hr⟩:=Jr t1;exact⟨⟨n0,l⟩,u1,zG hl e0 e1,hr⟩
theorem MC{fuel:Nat}{v:Value}{x:DataW H × List MemPlace}(h:DataW.trod enc Tryz.prog w base spare held fuel 24 [v]=some x):∃ l:List Id.Rec,Id.oV w none v l :=
 mG (Id.jG none) Tryz.underlying24 Tryz.underlying42 (by kernel_rfl) (by kernel_rfl) (by decide) h λcs hl hf=>by
  obtain⟨u0,k0,y0,e0,t0⟩:=hf 0 _ rfl;obtain⟨u1,k1,y1,e1,t1⟩:=hf 1 _ rfl;obtain⟨u2,k2,y2,e2,t2⟩:=hf 2 _ rfl;obtain⟨n0,hn0,z0⟩:=DataW.trod_string Tryz.underlying9 t0;obtain⟨n1,hn1,z1⟩:=DataW.trod_bool Tryz.underlying4 t1;simp only[List.cons.injEq,and_true]at hn0 hn1;subst hn0 hn1;obtain⟨l,hr⟩:=MG t2;exact⟨⟨n0,n1,l⟩,u2,zF hl e0 e1 e2,hr⟩
theorem MF{fuel:Nat}{v:Value}{x:DataW H × List MemPlace}(h:DataW.trod enc Tryz.prog w base spare held fuel 99 [v]=some x):∃ l:List Id.Mth,ah w none 180 5 Id.dV v l :=
 mG Id.dV Tryz.underlying99 Tryz.underlying180 (by kernel_rfl) (by kernel_rfl) (by decide) h λcs hl hf=>by
  obtain⟨u0,k0,y0,e0,t0⟩:=hf 0 _ rfl;obtain⟨u1,k1,y1,e1,t1⟩:=hf 1 _ rfl;obtain⟨u2,k2,y2,e2,t2⟩:=hf 2 _ rfl;obtain⟨u3,k3,y3,e3,t3⟩:=hf 3 _ rfl;obtain⟨u4,k4,y4,e4,t4⟩:=hf 4 _ rfl;obtain⟨n0,hn0,z0⟩:=DataW.trod_string Tryz.underlying9 t0;obtain⟨n1,hn1,z1⟩:=DataW.trod_string Tryz.underlying9 t1;obtain⟨n2,hn2,z2⟩:=DataW.trod_int Tryz.underlying5 t2;obtain⟨n3,hn3,z3⟩:=DataW.trod_string Tryz.underlying9 t3;obtain⟨n4,hn4,z4⟩:=DataW.trod_string Tryz.underlying9 t4;simp only[List.cons.injEq,and_true]at hn0 hn1 hn2 hn3 hn4;subst hn0 hn1 hn2 hn3 hn4;obtain⟨k,rfl⟩:=Dc rfl z2.2;exact⟨⟨n0,n1,k,n3,n4⟩,OB hl e0 e1 e2 e3 e4⟩
theorem Md{fuel:Nat}{v:Value}{x:DataW H × List MemPlace}(h:DataW.trod enc Tryz.prog w base spare held fuel 25 [v]=some x):∃ l:List Id.Svc,Id.nY w none v l :=
 mG (Id.kE none) Tryz.underlying25 Tryz.underlying101 (by kernel_rfl) (by kernel_rfl) (by decide) h λcs hl hf=>by
  obtain⟨u0,k0,y0,e0,t0⟩:=hf 0 _ rfl;obtain⟨u1,k1,y1,e1,t1⟩:=hf 1 _ rfl;obtain⟨n0,hn0,z0⟩:=DataW.trod_string Tryz.underlying9 t0;simp only[List.cons.injEq,and_true]at hn0;subst hn0;obtain⟨l,hr⟩:=MF t1;exact⟨⟨n0,l⟩,u1,zG hl e0 e1,hr⟩
theorem Me{fuel:Nat}{v:Value}{x:DataW H × List MemPlace}(h:DataW.trod enc Tryz.prog w base spare held fuel 103 [v]=some x):∃ l:List Id.Stp,ah w none 184 3 Id.dU v l :=
 mG Id.dU Tryz.underlying103 Tryz.underlying184 (by kernel_rfl) (by kernel_rfl) (by decide) h λcs hl hf=>by
  obtain⟨u0,k0,y0,e0,t0⟩:=hf 0 _ rfl;obtain⟨u1,k1,y1,e1,t1⟩:=hf 1 _ rfl;obtain⟨u2,k2,y2,e2,t2⟩:=hf 2 _ rfl;obtain⟨n0,hn0,z0⟩:=DataW.trod_string Tryz.underlying9 t0;obtain⟨n1,hn1,z1⟩:=DataW.trod_string Tryz.underlying9 t1;obtain⟨n2,hn2,z2⟩:=DataW.trod_int Tryz.underlying3 t2;simp only[List.cons.injEq,and_true]at hn0 hn1 hn2;subst hn0 hn1 hn2;exact⟨⟨n0,n1,n2⟩,zF hl e0 e1 e2⟩
theorem MB{fuel:Nat}{v:Value}{x:DataW H × List MemPlace}(h:DataW.trod enc Tryz.prog w base spare held fuel 26 [v]=some x):∃ l:List Id.Sag,Id.nZ w none v l :=
 mG (Id.kF none) Tryz.underlying26 Tryz.underlying105 (by kernel_rfl) (by kernel_rfl) (by decide) h λcs hl hf=>by
  obtain⟨u0,k0,y0,e0,t0⟩:=hf 0 _ rfl;obtain⟨u1,k1,y1,e1,t1⟩:=hf 1 _ rfl;obtain⟨u2,k2,y2,e2,t2⟩:=hf 2 _ rfl;obtain⟨n0,hn0,z0⟩:=DataW.trod_string Tryz.underlying9 t0;obtain⟨n1,hn1,z1⟩:=DataW.trod_string Tryz.underlying9 t1;simp only[List.cons.injEq,and_true]at hn0 hn1;subst hn0 hn1;obtain⟨l,hr⟩:=Me t2;exact⟨⟨n0,n1,l⟩,u2,zF hl e0 e1 e2,hr⟩
theorem Oq{b0:Nat}{r:Reach}{v:Value}{d:DataW H}{p:List MemPlace}(hv:Value.okWide Tryz.prog w r b0 28 v)(h:DataW.Trod enc Tryz.prog w base spare held 28 v d p):∃ x:Id.Sch,Id.ay w none v x:=by
 obtain⟨v0,v1,v2,v3,y0,y1,y2,y3,n,rfl,-,-,t0,t1,t2,t3⟩:=open_agg4 Tryz.underlying28 (by kernel_rfl) (by kernel_rfl) hv h;obtain⟨n0,e0,_,w0⟩:=DataW.trod_string Tryz.underlying9 t0;simp only[List.cons.injEq,and_true]at e0;subst e0;obtain⟨l1,r1⟩:=MC t1;obtain⟨l2,r2⟩:=Md t2;obtain⟨l3,r3⟩:=MB t3;obtain⟨A1,m1,c1,rfl⟩:=ah.is r1;obtain⟨A2,m2,c2,rfl⟩:=ah.is r2;obtain⟨A3,m3,c3,rfl⟩:=ah.is r3;exact⟨⟨n0,l1,l2,l3⟩,A1,m1,c1,A2,m2,c2,A3,m3,c3,rfl,r1,r2,r3⟩
end
end
