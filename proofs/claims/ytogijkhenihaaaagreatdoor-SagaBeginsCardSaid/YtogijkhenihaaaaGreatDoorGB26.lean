import Derived.Test.YtogijkhenihaaaaGreatDoorGB18
set_option linter.all false
set_option maxRecDepth 100000
set_option maxHeartbeats 0
namespace Go.Proofs.YtogijkhenihaaaaGreatDoor
open Lib (hid)
open Go.BigFrame Go.RowKit
namespace Chk
open Id
def kL(o:Option ByteArray):Value:=.tuple #[.string (o.getD ⟨#[]⟩),.bool o.isNone]
end Chk
theorem rE(s:ByteArray)(w:World):Calls Tryz.prog 241 #[.string s] w λe w'=>e=.returned (.bool (Tk.isName s))/\w=w':=(CS s w).mono λ_ _ ⟨h1,h2⟩=>⟨h1,h2.symm⟩
theorem Jk(v:Value)(x:Id.Sch)(w:World)(hv:Id.ay w none v x) :
  Calls Tryz.prog 246 #[v] w λe w'=>e=.returned (Chk.kL (Chk.ak (Chk.namesT x)))/\Below w.heap.size w w':=by
 have HV:=hid hv;obtain⟨A1,n1,c1,A2,n2,c2,A3,n3,c3,rfl,r1,r2,r3⟩:=hv;have HN1:Hid (n1=x.records.length):=hid (by obtain⟨_,_,e,_⟩:=ah.slice r1;injection e);have hm1:n1<=9223372036854775807:=by obtain⟨_,_,e,_,_⟩:=ah.slice r1;injection e;omega
 have H1:=hid r1;have HN2:Hid (n2=x.services.length):=hid (by obtain⟨_,_,e,_⟩:=ah.slice r2;injection e);have hm2:n2<=9223372036854775807:=by obtain⟨_,_,e,_,_⟩:=ah.slice r2;injection e;omega
 have H2:=hid r2;have HN3:Hid (n3=x.sagas.length):=hid (by obtain⟨_,_,e,_⟩:=ah.slice r3;injection e);have hm3:n3<=9223372036854775807:=by obtain⟨_,_,e,_,_⟩:=ah.slice r3;injection e;omega
 have H3:=hid r3;clear r1 r2 r3;obtain⟨R,HR⟩:∃ R,Hid (Chk.ak (Chk.namesT x)=R):=⟨_,hid rfl⟩;rw[HR.out];unfold Chk.namesT at HR;go_enter Tryz.func246,Tryz.ntmps246;go_upto_region 1 with(fail)
 refine aj (λV hV=>?_);have HL:=hid (Chk.Lx.start hV);clear hV;obtain⟨⟨q0,q1,q2,q3⟩,-⟩:=HL.out.box.k4;go_wp2_with fail;refine(rE x.name _).mono ?_;rintro e W2⟨rfl,rfl⟩;cases hn:Tk.isName x.name
 case false =>
  have HE:Hid (R=some ⟨#[]⟩):=hid (by rw[<-HR.out];exact Chk.fQ hn);go_wp2_with fail;go_ret2;exact⟨by rw[HE.out];rfl,HL.out.bel⟩
 have HT:Hid (_=R):=hid ((Chk.gV hn).symm.trans HR.out);clear HR;go_wp2_with fail;go_loopw [4] (λi wr=>∃(z:Nat),z<=n1/\i=.int .i64 z/\V=wr/\Hid (Chk.ak ((x.records.drop z).flatMap Chk.jR++(x.services.flatMap Chk.dQ++x.sagas.flatMap Chk.dK))=R)) (λi _=>n1 - (intOf i).toNat)
 case atStart=>exact⟨0,by omega,rfl,rfl,hid (HT.out)⟩
 case round =>
  obtain⟨k,hkk,rfl,rfl,HI⟩:=hrel;have ik0:(0:Int)<=(k:Int):=by omega
  by_cases hlt:k<n1
  case neg =>
   have HI1:Hid (Chk.ak ((x.services.flatMap Chk.dQ++x.sagas.flatMap Chk.dK))=R):=hid (by have h:=HI.out;rw[xP (by have:=HN1.out;omega)]at h;exact h);clear HI;go_wp2_with fail;go_loopw [6] (λi wr=>∃(z:Nat),z<=n2/\i=.int .i64 z/\V=wr/\Hid (Chk.ak ((x.services.drop z).flatMap Chk.dQ++x.sagas.flatMap Chk.dK)=R)) (λi _=>n2 - (intOf i).toNat)
   case atStart=>exact⟨0,by omega,rfl,rfl,hid (HI1.out)⟩
   case round =>
    obtain⟨k,hkk,rfl,rfl,HI⟩:=hrel;have ik0:(0:Int)<=(k:Int):=by omega
    by_cases hlt:k<n2
    case neg =>
     have HI1:Hid (Chk.ak (x.sagas.flatMap Chk.dK)=R):=hid (by have h:=HI.out;rw[xP (by have:=HN2.out;omega)]at h;exact h);clear HI;go_wp2_with fail;have HI0:=HI1;clear HI1;go_loopw [8] (λi wr=>∃(z:Nat),z<=n3/\i=.int .i64 z/\V=wr/\Hid (Chk.ak ((x.sagas.drop z).flatMap Chk.dK++[])=R)) (λi _=>n3 - (intOf i).toNat)
     case atStart=>exact⟨0,by omega,rfl,rfl,hid (by have h:=HI0.out;rw[<-List.append_nil (List.flatMap _ _)]at h;exact h)⟩
     case round =>
      obtain⟨k,hkk,rfl,rfl,HI⟩:=hrel;have ik0:(0:Int)<=(k:Int):=by omega
      by_cases hlt:k<n3
      case neg =>
       have HI1:Hid (Chk.ak ([])=R):=hid (by have h:=HI.out;rw[xP (by have:=HN3.out;omega)]at h;exact h);clear HI;have HE:Hid (R=none):=hid HI1.out.symm;go_wp2_with fail;go_ret2;exact⟨by rw[HE.out];rfl,HL.out.bel⟩
      have aX:k<x.sagas.length:=by rw[<-HN3.out];exact hlt
      obtain⟨g1,off1,cs,rfl,-,⟨u,he,HU⟩,hc⟩:=ah.get H3.out aX (by omega);obtain⟨r,Hr⟩:∃ r,Hid (x.sagas[k]=r):=⟨_,hid rfl⟩;rw[Hr.out]at he HU;obtain⟨rn,ra,rf⟩:=r;subst he;simp only at HU hc;obtain⟨A5,n5,c5,rfl⟩:=ah.is HU;have HN5:Hid (n5=rf.length):=hid (by obtain⟨_,_,e,_⟩:=ah.slice HU;injection e);have hm5:n5<=9223372036854775807:=by obtain⟨_,_,e,_,_⟩:=ah.slice HU;injection e;omega
      have H5:=hid HU;have HDk:Hid (x.sagas.drop k=⟨rn,ra,rf⟩::x.sagas.drop (k+1)):=hid (by rw[xQ aX,Hr.out]);have b0:=hc 0 _ rfl;have b1:=hc 1 _ rfl;have b2:=hc 2 _ rfl;simp only[xK]at b0;have aC:g1<w.heap.size:=xH w _ b0;have b0:=(HL.out.bel.cell aC).trans b0;have b1:=(HL.out.bel.cell aC).trans b1;have b2:=(HL.out.bel.cell aC).trans b2;have i11:(k:Int)<(n3:Int):=by omega
      clear hc HU Hr;have HT0:Hid (Chk.ak ((Tk.isName rn,rn)::(((x.sagas.drop (k+1)).flatMap Chk.dK++[])))=R):=hid (by have h:=HI.out;rw[HDk.out,yJ]at h;exact h);clear HI;go_wp2_with fail;refine(rE rn _).mono ?_;rintro e W2⟨rfl,rfl⟩;cases hn:Tk.isName rn
      case false =>
       have HE:Hid (R=some rn):=hid (by rw[<-HT0.out];exact Chk.fQ hn);go_wp2_with fail;go_ret2;exact⟨by rw[HE.out];rfl,HL.out.bel⟩
      have HT:Hid (_=R):=hid ((Chk.gV hn).symm.trans HT0.out);clear HT0;go_wp2_with fail;go_roundw
      case rel=>exact⟨k+1,by omega,by go_num,by first|rfl|trivial,hid (HT.out)⟩
      case measure=>simp[intOf];omega
    have aX:k<x.services.length:=by rw[<-HN2.out];exact hlt
    obtain⟨g1,off1,cs,rfl,-,⟨u,he,HU⟩,hc⟩:=ah.get H2.out aX (by omega);obtain⟨r,Hr⟩:∃ r,Hid (x.services[k]=r):=⟨_,hid rfl⟩;rw[Hr.out]at he HU;obtain⟨rn,rf⟩:=r;subst he;simp only at HU hc;obtain⟨A5,n5,c5,rfl⟩:=ah.is HU;have HN5:Hid (n5=rf.length):=hid (by obtain⟨_,_,e,_⟩:=ah.slice HU;injection e);have hm5:n5<=9223372036854775807:=by obtain⟨_,_,e,_,_⟩:=ah.slice HU;injection e;omega
    have H5:=hid HU;have HDk:Hid (x.services.drop k=⟨rn,rf⟩::x.services.drop (k+1)):=hid (by rw[xQ aX,Hr.out]);have b0:=hc 0 _ rfl;have b1:=hc 1 _ rfl;simp only[xK]at b0;have aC:g1<w.heap.size:=xH w _ b0;have b0:=(HL.out.bel.cell aC).trans b0;have b1:=(HL.out.bel.cell aC).trans b1;have i11:(k:Int)<(n2:Int):=by omega
    clear hc HU Hr;have HT0:Hid (Chk.ak ((Tk.isName rn,rn)::(rf.flatMap Chk.oM++((x.services.drop (k+1)).flatMap Chk.dQ++x.sagas.flatMap Chk.dK)))=R):=hid (by have h:=HI.out;rw[HDk.out,yJ,xU]at h;exact h);clear HI;go_wp2_with fail;refine(rE rn _).mono ?_;rintro e W2⟨rfl,rfl⟩;cases hn:Tk.isName rn
    case false =>
     have HE:Hid (R=some rn):=hid (by rw[<-HT0.out];exact Chk.fQ hn);go_wp2_with fail;go_ret2;exact⟨by rw[HE.out];rfl,HL.out.bel⟩
    have HT:Hid (_=R):=hid ((Chk.gV hn).symm.trans HT0.out);clear HT0;go_wp2_with fail;go_loopw [7] (λi wr=>∃(z:Nat),z<=n5/\i=.int .i64 z/\V=wr/\Hid (Chk.ak ((rf.drop z).flatMap Chk.oM++((x.services.drop (k+1)).flatMap Chk.dQ++x.sagas.flatMap Chk.dK))=R)) (λi _=>n5 - (intOf i).toNat)
    case atStart=>exact⟨0,by omega,rfl,rfl,hid (HT.out)⟩
    case round =>
     obtain⟨j,hkj,rfl,rfl,HJ⟩:=hrel;have ij0:(0:Int)<=(j:Int):=by omega
     by_cases hlj:j<n5
     case neg =>
      go_wp2_with fail;go_roundw
      case rel=>exact⟨k+1,by omega,by go_num,by first|rfl|trivial,hid (by have h:=HJ.out;rw[xP (by have:=HN5.out;omega)]at h;exact h)⟩
      case measure=>simp[intOf];omega
     have dL:j<rf.length:=by rw[<-HN5.out];exact hlj
     obtain⟨g2,off2,cs,rfl,-,he,hc⟩:=ah.get H5.out dL (by omega);obtain⟨r,Hr⟩:∃ r,Hid (rf[j]=r):=⟨_,hid rfl⟩;rw[Hr.out]at he;obtain⟨m0,m1,m2,m3,m4⟩:=r;unfold Id.dV Id.Mth.cells at he;subst he;have HDj:Hid (rf.drop j=⟨m0,m1,m2,m3,m4⟩::rf.drop (j+1)):=hid (by rw[xQ dL,Hr.out]);have a0:=hc 0 _ rfl;have a1:=hc 1 _ rfl;have a2:=hc 2 _ rfl;have a3:=hc 3 _ rfl;have a4:=hc 4 _ rfl;simp only[xK]at a0;have aH:g2<w.heap.size:=xH w _ a0;have a0:=(HL.out.bel.cell aH).trans a0;have a1:=(HL.out.bel.cell aH).trans a1;have a2:=(HL.out.bel.cell aH).trans a2;have a3:=(HL.out.bel.cell aH).trans a3;have a4:=(HL.out.bel.cell aH).trans a4;have i21:(j:Int)<(n5:Int):=by omega
     clear hc Hr;have HT1:Hid (Chk.ak ((Tk.isName m0,m0)::((rf.drop (j+1)).flatMap Chk.oM++((x.services.drop (k+1)).flatMap Chk.dQ++x.sagas.flatMap Chk.dK)))=R):=hid (by have h:=HJ.out;rw[HDj.out,yJ,xU]at h;exact h);clear HJ HT;go_wp2_with fail;refine(rE m0 _).mono ?_;rintro e W2⟨rfl,rfl⟩;cases hn:Tk.isName m0
     case false =>
      have HE:Hid (R=some m0):=hid (by rw[<-HT1.out];exact Chk.fQ hn);go_wp2_with fail;go_ret2;exact⟨by rw[HE.out];rfl,HL.out.bel⟩
     have HT:Hid (_=R):=hid ((Chk.gV hn).symm.trans HT1.out);clear HT1;go_wp2_with fail;go_roundw
     case rel=>exact⟨j+1,by omega,by go_num,by first|rfl|trivial,hid (HT.out)⟩
     case measure=>simp[intOf];omega
  have aX:k<x.records.length:=by rw[<-HN1.out];exact hlt
  obtain⟨g1,off1,cs,rfl,-,⟨u,he,HU⟩,hc⟩:=ah.get H1.out aX (by omega);obtain⟨r,Hr⟩:∃ r,Hid (x.records[k]=r):=⟨_,hid rfl⟩;rw[Hr.out]at he HU;obtain⟨rn,rc,rf⟩:=r;subst he;simp only at HU hc;obtain⟨A5,n5,c5,rfl⟩:=ah.is HU;have HN5:Hid (n5=rf.length):=hid (by obtain⟨_,_,e,_⟩:=ah.slice HU;injection e);have hm5:n5<=9223372036854775807:=by obtain⟨_,_,e,_,_⟩:=ah.slice HU;injection e;omega
  have H5:=hid HU;have HDk:Hid (x.records.drop k=⟨rn,rc,rf⟩::x.records.drop (k+1)):=hid (by rw[xQ aX,Hr.out]);have b0:=hc 0 _ rfl;have b1:=hc 1 _ rfl;have b2:=hc 2 _ rfl;simp only[xK]at b0;have aC:g1<w.heap.size:=xH w _ b0;have b0:=(HL.out.bel.cell aC).trans b0;have b1:=(HL.out.bel.cell aC).trans b1;have b2:=(HL.out.bel.cell aC).trans b2;have i11:(k:Int)<(n1:Int):=by omega
  clear hc HU Hr;have HT0:Hid (Chk.ak ((Tk.isName rn,rn)::(rf.flatMap Chk.qF++((x.records.drop (k+1)).flatMap Chk.jR++(x.services.flatMap Chk.dQ++x.sagas.flatMap Chk.dK))))=R):=hid (by have h:=HI.out;rw[HDk.out,yJ,xU]at h;exact h);clear HI;go_wp2_with fail;refine(rE rn _).mono ?_;rintro e W2⟨rfl,rfl⟩;cases hn:Tk.isName rn
  case false =>
   have HE:Hid (R=some rn):=hid (by rw[<-HT0.out];exact Chk.fQ hn);go_wp2_with fail;go_ret2;exact⟨by rw[HE.out];rfl,HL.out.bel⟩
  have HT:Hid (_=R):=hid ((Chk.gV hn).symm.trans HT0.out);clear HT0;go_wp2_with fail;go_loopw [5] (λi wr=>∃(z:Nat),z<=n5/\i=.int .i64 z/\V=wr/\Hid (Chk.ak ((rf.drop z).flatMap Chk.qF++((x.records.drop (k+1)).flatMap Chk.jR++(x.services.flatMap Chk.dQ++x.sagas.flatMap Chk.dK)))=R)) (λi _=>n5 - (intOf i).toNat)
  case atStart=>exact⟨0,by omega,rfl,rfl,hid (HT.out)⟩
  case round =>
   obtain⟨j,hkj,rfl,rfl,HJ⟩:=hrel;have ij0:(0:Int)<=(j:Int):=by omega
   by_cases hlj:j<n5
   case neg =>
    go_wp2_with fail;go_roundw
    case rel=>exact⟨k+1,by omega,by go_num,by first|rfl|trivial,hid (by have h:=HJ.out;rw[xP (by have:=HN5.out;omega)]at h;exact h)⟩
    case measure=>simp[intOf];omega
   have dL:j<rf.length:=by rw[<-HN5.out];exact hlj
   obtain⟨g2,off2,cs,rfl,-,⟨u,he,HU⟩,hc⟩:=ah.get H5.out dL (by omega);obtain⟨r,Hr⟩:∃ r,Hid (rf[j]=r):=⟨_,hid rfl⟩;rw[Hr.out]at he HU;obtain⟨yn,yt⟩:=r;subst he;simp only at HU hc;obtain⟨A7,n7,c7,rfl⟩:=ah.is HU;have HN7:Hid (n7=yt.length):=hid (by obtain⟨_,_,e,_⟩:=ah.slice HU;injection e);have hm7:n7<=9223372036854775807:=by obtain⟨_,_,e,_,_⟩:=ah.slice HU;injection e;omega
   have H7:=hid HU;clear HU;have HDj:Hid (rf.drop j=⟨yn,yt⟩::rf.drop (j+1)):=hid (by rw[xQ dL,Hr.out]);have a0:=hc 0 _ rfl;have a1:=hc 1 _ rfl;simp only[xK]at a0;have aH:g2<w.heap.size:=xH w _ a0;have a0:=(HL.out.bel.cell aH).trans a0;have a1:=(HL.out.bel.cell aH).trans a1;have i21:(j:Int)<(n5:Int):=by omega
   clear hc Hr;have HT1:Hid (Chk.ak ((Tk.isName yn,yn)::((rf.drop (j+1)).flatMap Chk.qF++((x.records.drop (k+1)).flatMap Chk.jR++(x.services.flatMap Chk.dQ++x.sagas.flatMap Chk.dK))))=R):=hid (by have h:=HJ.out;rw[HDj.out,yJ,xU]at h;exact h);clear HJ HT;go_wp2_with fail;refine(rE yn _).mono ?_;rintro e W2⟨rfl,rfl⟩;cases hn:Tk.isName yn
   case false =>
    have HE:Hid (R=some yn):=hid (by rw[<-HT1.out];exact Chk.fQ hn);go_wp2_with fail;go_ret2;exact⟨by rw[HE.out];rfl,HL.out.bel⟩
   have HT:Hid (_=R):=hid ((Chk.gV hn).symm.trans HT1.out);clear HT1;go_wp2_with fail;go_roundw
   case rel=>exact⟨j+1,by omega,by go_num,by first|rfl|trivial,hid (HT.out)⟩
   case measure=>simp[intOf];omega
theorem DV(a b:ByteArray)(w:World) :
  Calls Tryz.prog 270 #[.string a,.string b] w λe w'=>e=.returned (.bool (Chk.mQ a b))/\w=w':=by
 have k1:Id.fO.toList=[103,105,118,101]:=by decide +kernel
 have k2:Id.fK.toList=[116,97,107,101]:=by decide +kernel
 have k3:Id.fM.toList=[110,111,116,101]:=by decide +kernel
 unfold Chk.mQ;rw[k1,k2,k3];clear k1 k2 k3;cases h1:(a.toList==[103,105,118,101])<;>cases h2:(a.toList==[116,97,107,101])<;>cases h3:(a.toList==[110,111,116,101])<;>cases h4:(b.toList==[103,105,118,101])<;>cases h5:(b.toList==[116,97,107,101])<;>cases h6:(b.toList==[110,111,116,101])
 all_goals
  go_enter Tryz.func270,Tryz.ntmps270;go_wp2_with fail;go_ret;exact⟨rfl,rfl⟩
theorem yU(v:Value)(l:List ByteArray)(k:Nat)(hk:k<l.length)(w:World)(hv:fH w none v l) :
  Calls Tryz.prog 267 #[v,.int .i64 k] w λe w'=>e=.returned (.bool (Chk.bD (l.take k) l[k]))/\Below w.heap.size w w':=by
 obtain⟨R,HR⟩:∃ R,Hid (Chk.bD (l.take k) l[k]=R):=⟨_,hid rfl⟩;rw[HR.out];obtain⟨A,n,c,rfl⟩:=ah.is hv;have HN:Hid (n=l.length):=hid (by obtain⟨_,_,e,_⟩:=ah.slice hv;injection e);have hm:n<=9223372036854775807:=by obtain⟨_,_,e,_,_⟩:=ah.slice hv;injection e;omega
 have hkn:k<n:=by rw[HN.out];exact hk
 obtain⟨g,off,cs,rfl,-,e1,hc⟩:=ah.get hv hk (by omega);unfold o8 at e1;subst e1;have a0:=hc 0 _ rfl;simp only[xK,Nat.mul_one]at a0;obtain⟨y,Hy⟩:∃ y,Hid (l[k]=y):=⟨_,hid rfl⟩;rw[Hy.out]at HR a0;have HK:=hid hk;have HV:=hid hv;clear hv hc Hy hk;have ik:(0:Int)<=(k:Int):=by omega
 have ik2:(k:Int)<(n:Int):=by omega
 go_enter Tryz.func267,Tryz.ntmps267;go_wp2_with fail;go_loopw [5] (λi wr=>∃(j m:Nat),j<=k/\i=.int .i64 j/\wr=w.drewN m/\Hid (((l.take k).drop j).any (λz=>z.toList==y.toList)=R)) (λi _=>k - (intOf i).toNat)
 case atStart=>exact⟨0,0,by omega,rfl,rfl,HR⟩
 case round =>
  obtain⟨j,m,hj,rfl,rfl,HJ⟩:=hrel;by_cases hjk:j<k
  case neg =>
   obtain rfl:j=k:=by omega
   have HE:Hid (R=false):=hid (by rw[<-HJ.out,Chk.sH _ (by rw[List.length_take];omega)]);go_wp2_with fail;go_ret;exact⟨(by first|(rw[HE.out];done)|(rw[HE.out];rfl)),below_drewN (Below.refl _ _) _⟩
  obtain⟨g5,Oz,cs,e5,-,e1,hc⟩:=ah.get HV.out (Nat.lt_trans hjk HK.out) (by omega);injection e5 with e5
  injection e5 with e5 e6
  subst e5 e6;unfold o8 at e1;subst e1;have b0:=hc 0 _ rfl;simp only[xK,Nat.mul_one]at b0;have HD:Hid (((l[j]'(Nat.lt_trans hjk HK.out)).toList==y.toList||((l.take k).drop (j+1)).any (λz=>z.toList==y.toList))=R):=hid (by
   rw[<-HJ.out,Chk.sG (l:=l.take k) (k:=j) _ (by rw[List.length_take];have:=HK.out;omega),List.getElem_take])
  generalize l[j]'(Nat.lt_trans hjk HK.out)=z at *;have ij:(0:Int)<=(j:Int):=by omega
  have ij2:(j:Int)<(n:Int):=by omega
  have ij3:(j:Int)<(k:Int):=by omega
  clear hc HJ;cases ht:(z.toList==y.toList)
  case true =>
   have HE:Hid (R=true):=hid (by rw[<-HD.out,ht];rfl);go_wp2_with fail;go_quiet (fail);go_wp2_with fail;go_ret;exact⟨(by first|(rw[HE.out];done)|(rw[HE.out];rfl)),below_drewN (below_drewN (Below.refl _ _) _) _⟩
  have HJ2:Hid (((l.take k).drop (j+1)).any (λz=>z.toList==y.toList)=R):=hid (by rw[<-HD.out,ht];rfl);go_wp2_with fail;go_quiet (fail);go_wp2_with fail;go_roundw
  case rel=>exact⟨j+1,_,by omega,by go_num,by first|rfl|exact World.drewN_drewN _ _ _,HJ2⟩
  case measure=>simp[intOf];omega
theorem Ah(v:Value)(x:Id.Sch)(name:ByteArray)(w:World)(hv:Id.ay w none v x) :
  Calls Tryz.prog 251 #[v,.string name] w λe w'=>e=.returned (.bool (Chk.order x name))/\Below w.heap.size w w':=by
 obtain⟨R,HR⟩:∃ R,Hid (Chk.order x name=R):=⟨_,hid rfl⟩;rw[HR.out];have HV:=hid hv;obtain⟨A1,n1,c1,A2,n2,c2,A3,n3,c3,rfl,_⟩:=hv;go_enter Tryz.func251,Tryz.ntmps251;go_upto_region 1 with(fail)
 refine aj (λW0 hW0=>?_);obtain⟨hb0,hq0,hs0⟩:=au hW0;clear hW0;have HB0:=hid hb0;obtain⟨⟨q0,q1,q2,q3⟩,_⟩:=hq0.k4;clear hb0 hs0 hq0;go_wp2_with fail;refine(CU _ x name W0 (Id.ay.below HB0.out HV.out)).mono ?_;rintro e W1⟨u,rfl,hb1,hu⟩;obtain⟨B,HBr⟩:∃ B,Hid ((Chk.find x name).isSome=B):=⟨_,hid rfl⟩;obtain⟨r,Hr⟩:∃ r,Hid ((Chk.find x name).getD Chk.qL=r):=⟨_,hid rfl⟩;rw[Hr.out]at hu;rw[HBr.out];have HRr:Hid (R=(B&&Chk.Fe r)):=hid (by
  rw[<-HR.out,<-HBr.out,<-Hr.out];unfold Chk.order;cases Chk.find x name<;>rfl)
 obtain⟨rn,rc,rf⟩:=r;obtain⟨u2,rfl,hu2⟩:=hu;obtain⟨A9,n9,c9,rfl⟩:=ah.is hu2;simp only at hu2 ⊢;have hn9:n9=rf.length:=by obtain⟨_,_,e,_⟩:=ah.slice hu2;injection e
 have hm9:n9<=9223372036854775807:=by obtain⟨_,_,e,_,_⟩:=ah.slice hu2;injection e;omega
 have HN:=hid hn9;have HB1:=hid (HB0.out.trans (hb1.mono HB0.out.size));have HU:=hid hu2;clear hu2 hb1 hn9 q0 q1 q2 q3;go_upto_region 2 with(fail)
 refine aj (λW2 hW2=>?_);obtain⟨hb2,hq2,hs2⟩:=au hW2;clear hW2;have HB2:=hid (HB1.out.trans (hb2.mono HB1.out.size));have HU2:Hid (Id.jC W2 none (.slice A9 n9 c9) rf):=hid (ah.below HU.out hb2 (Id.gJ.below hb2));have HQ2:=hid hq2;obtain⟨⟨q0,q1,q2⟩,_⟩:=hq2.k3;clear hb2 hq2 hs2 HU;cases B
 case false =>
  have HE:Hid (R=false):=hid (by rw[HRr.out];rfl);go_wp2_with fail;go_ret;exact⟨(by first|(rw[HE.out];done)|(rw[HE.out];rfl)),HB2.out⟩
 cases rc
 case true =>
  have HE:Hid (R=false):=hid (by rw[HRr.out];rfl);go_wp2_with fail;go_ret;exact⟨(by first|(rw[HE.out];done)|(rw[HE.out];rfl)),HB2.out⟩
 go_wp2_with fail;clear q0 q1 q2;go_loopw [9,7,8] (λi s7 s8 wr=>∃(k:Nat)(b1 b2:Bool),k<=n9/\i=.int .i64 k/\s7=.bool b1/\s8=.bool b2/\Hid (R=((b1||(rf.drop k).any Chk.ug)&&(b2||(rf.drop k).any Chk.uf)))/\Hid (Below W2.heap.size W2 wr)) (λi _ _ _=>n9 - (intOf i).toNat)
 case atStart=>exact⟨0,false,false,by omega,rfl,rfl,rfl,HRr,hid (Below.refl _ _)⟩
 case round =>
  obtain⟨k,b1,b2,hk,rfl,rfl,rfl,HK,HB3⟩:=hrel;obtain⟨Wk,rfl⟩:∃ w',w'=wr:=⟨_,rfl⟩;have hbq:=HQ2.out.below HB3.out HQ2.out.lt;obtain⟨⟨q0,q1,q2⟩,_⟩:=hbq.k3;clear hbq;by_cases hlt:k<n9
  case neg =>
   obtain rfl:k=n9:=by omega
   have HE:Hid (R=(b1&&b2)):=hid (by rw[HK.out,Chk.sH _ (by rw[HN.out];exact xB _),Chk.sH _ (by rw[HN.out];exact xB _)];simp);have HF:Hid (Below w.heap.size w Wk):=hid (HB2.out.trans (HB3.out.mono HB2.out.size));clear HK;cases b1<;>cases b2
   all_goals
    go_wp2_with fail;go_ret;exact⟨(by first|(rw[HE.out];done)|(rw[HE.out];rfl)),HF.out⟩
  have hka:k<rf.length:=by rw[<-HN.out];exact hlt
  obtain⟨g,off,cs,rfl,_,⟨u,rfl,hs⟩,hc⟩:=ah.get HU2.out hka (by omega);have HKx:=HK.out;rw[Chk.sG _ hka,Chk.sG _ hka]at HKx;generalize rf[k]=y at *;obtain⟨yn,yt⟩:=y;simp only at hs hc;have hB:=HB3.out;have a0:=hc 0 _ rfl;have a1:=hc 1 _ rfl;have hgl:g<W2.heap.size:=xH W2 _ a0;have a0:=(hB.cell hgl).trans a0;have a1:=(hB.cell hgl).trans a1;simp only[xK]at a0;have hbs:=hB.size;have hgw:¬g=Wk.heap.size:=by omega
  have i0:(0:Int)<=(k:Int):=by omega
  have i1:(k:Int)<(n9:Int):=by omega
  have HS:Hid (Id.bG Wk none u yt):=hid (ah.below (ah.mono hs (λ_ _ hr=>hr.weak (λb' e'=>by cases e')) (λ_ _ h=>h)) hB (λ_ _ h=>h));obtain⟨A7,n7,c7,rfl⟩:=ah.is hs;have HN7:Hid (n7=yt.length):=hid (by obtain⟨_,_,e,_⟩:=ah.slice hs;injection e);have HD:=hid HKx;clear hB hc HKx HK hka hs;go_upto_region 9 with(fail)
  refine aj (λW3 hW3=>?_);obtain⟨hb4,hq4,hs4⟩:=au hW3;clear hW3;have HB4:=hid (HB3.out.trans (hb4.mono hbs));have HS4:Hid (Id.bG W3 none (.slice A7 n7 c7) yt):=hid (ah.below HS.out hb4 (λ_ _ h=>h));obtain⟨⟨d0,d1⟩,_⟩:=hq4.k2;clear hq4 hb4 a0 a1 q0 q1 q2;obtain⟨o4,H4⟩:∃ o4,Hid (Chk.only yt 4=o4):=⟨_,hid rfl⟩;obtain⟨o3,H3⟩:∃ o3,Hid (Chk.only yt 3=o3):=⟨_,hid rfl⟩;have key:∀ b1' b2':Bool,b1'=(b1||(yn.toList==[97,99,99,111,117,110,116]&&o4))->b2'=(b2||(yn.toList==[97,109,111,117,110,116]&&o3))->Hid (R=((b1'||(rf.drop (k+1)).any Chk.ug)&&(b2'||(rf.drop (k+1)).any Chk.uf))):=λb1' b2' e1 e2=>hid (by rw[HD.out,e1,e2,<-H4.out,<-H3.out];unfold Chk.ug Chk.uf;simp only[Bool.or_assoc])
  have HKEY:=hid key;clear HD key;by_cases h7:n7=1
  case neg =>
   have z4:o4=false:=by rw[<-H4.out];unfold Chk.only;split<;>first|rfl|(exfalso;apply h7;rw[HN7.out];rfl)
   have z3:o3=false:=by rw[<-H3.out];unfold Chk.only;split<;>first|rfl|(exfalso;apply h7;rw[HN7.out];rfl)
   clear H4 H3;subst z4 z3;have t1:((n7:Int)==1)=false:=by rw[xG];omega
   have t2:¬(n7:Int)=1:=by omega
   clear h7;go_wp2_with fail;go_roundw
   case rel=>exact⟨k+1,b1,b2,by omega,by go_num,rfl,rfl,HKEY.out _ _ (by simp) (by simp),HB4⟩
   case measure=>simp[intOf];omega
  subst h7;obtain⟨t0,rfl⟩:∃ t0,yt=[t0]:=List.length_eq_one_iff.1 HN7.out.symm;obtain⟨g7,dJ,cs,rfl,_,e7,hc7⟩:=ah.get HS4.out (i:=0) (by simp) (by omega);obtain⟨tk,tn⟩:=t0;unfold Id.gU Id.Srt.cells at e7;subst e7;have e0:=hc7 0 _ rfl;simp only[xK,Nat.zero_mul,List.getElem_cons_zero]at e0;have H4':Hid (((tk:Int)==4)=o4):=hid (by rw[<-H4.out];show _=(tk==4);rw[Bool.eq_iff_iff];simp;omega);have H3':Hid (((tk:Int)==3)=o3):=hid (by rw[<-H3.out];show _=(tk==3);rw[Bool.eq_iff_iff];simp;omega);clear hc7 H4 H3 HN7 HS HS4;cases h1:(yn.toList==[97,99,99,111,117,110,116])<;>cases h2:(yn.toList==[97,109,111,117,110,116])<;>cases o4<;>cases o3
  all_goals
   rw[h1,h2]at HKEY;have h4:=H4'.out;have h3:=H3'.out;go_wp2_with fail;go_roundw
   case rel=>exact⟨k+1,_,_,by omega,by go_num,rfl,rfl,HKEY.out _ _ (by simp) (by simp),HB4⟩
   case measure=>simp[intOf];omega
theorem Ag(v:Value)(x:Id.Sch)(tv:Value)(t:List Id.Srt)(w:World)(hv:Id.ay w none v x)(ht:Id.bG w none tv t) :
  Calls Tryz.prog 218 #[v,tv] w λe w'=>e=.returned (.bool (Chk.right x t))/\Below w.heap.size w w':=by
 obtain⟨R,HR⟩:∃ R,Hid (Chk.right x t=R):=⟨_,hid rfl⟩;rw[HR.out];unfold Chk.right at HR;have HV:=hid hv;obtain⟨A1,n1,c1,A2,n2,c2,A3,n3,c3,rfl,_⟩:=hv;obtain⟨A,c,rfl,hnc,hcm,_⟩:=ah.slice ht;have hbl:=(Below.refl w.heap.size w).alloc (xB _) (.cells #[.string x.name,.slice A1 n1 c1,.slice A2 n2 c2,.slice A3 n3 c3] 28);by_cases h0:t.length=0
 ·obtain rfl:t=[]:=List.length_eq_zero_iff.1 h0
  have HE:Hid (R=false):=hid (by rw[<-HR.out];rfl);clear ht;go_enter Tryz.func218,Tryz.ntmps218;go_wp2_with fail;go_ret;exact⟨(by first|(rw[HE.out];done)|(rw[HE.out];rfl)),hbl⟩
 obtain⟨m,hm⟩:∃ m,t.length=m+1:=⟨t.length - 1,by omega⟩;by_cases h12:t.length<=12
 case neg =>
  have HE:Hid (R=false):=hid (by rw[<-HR.out,decide_eq_false h12];rfl);rw[hm]at h12 ⊢;have hd1:¬((m:Int)+1<1):=by omega
  have hd3:(12:Int)<(m:Int)+1:=by omega
  have hd4:12<m+1:=by omega
  clear ht h12 h0 hm;go_enter Tryz.func218,Tryz.ntmps218;go_wp2_with fail;go_ret;exact⟨(by first|(rw[HE.out];done)|(rw[HE.out];rfl)),hbl⟩
 have HM:=hid hm;have HR0:Hid (Chk.okT x (t.drop 0)=R):=hid (by rw[<-HR.out,decide_eq_true h12];simp);have TN:m<12:=by omega
 have H1:=hid ht;rw[hm]at H1 hnc ⊢;clear ht h0 h12 hm;have hd1:¬((m:Int)+1<1):=by omega
 have hd2:¬(12<m+1):=by omega
 have hd3:¬(12:Int)<(m:Int)+1:=by omega
 have hd4:m<=c:=by omega
 have hd5:(m:Int)<=(c:Int):=by omega
 clear hbl;go_enter Tryz.func218,Tryz.ntmps218;go_upto_region 1 with(fail)
 refine aj (λW0 hW0=>?_);obtain⟨hb0,hq0,hs0⟩:=au hW0;clear hW0;have HQ0:=hid hq0;have HB0:=hid hb0;clear hb0 hs0 hq0;go_wp2_with fail;go_loopw [6] (λi wr=>∃ k:Nat,k<=m/\i=.int .i64 k/\W0=wr/\Hid (Chk.okT x (t.drop k)=R)) (λi _=>m - (intOf i).toNat)
 case atStart=>exact⟨0,by omega,rfl,rfl,HR0⟩
 case round =>
  obtain⟨k,hk,rfl,rfl,HK⟩:=hrel;have hka:k<t.length:=by rw[HM.out];omega
  obtain⟨g,off,cs,rfl,_,e1,hc⟩:=ah.get H1.out hka (by omega);have HKx:=HK.out;have hB:=HB0.out;unfold Id.gU Id.Srt.cells at e1;subst e1;have a0:=hc 0 _ rfl;have a1:=hc 1 _ rfl;have hgl:g<w.heap.size:=xH w _ a0;have a0:=(hB.cell hgl).trans a0;have a1:=(hB.cell hgl).trans a1;simp only[xK]at a0;have hbs:=hB.size;have hgw:¬g=W0.heap.size:=by omega
  have i0:(0:Int)<=(k:Int):=by omega
  have i9:(k:Int)<(m:Int)+1:=by omega
  clear hB hc;by_cases hlt:k<m
  case neg =>
   obtain rfl:k=m:=by omega
   rw[Chk.rQ (by rw[HM.out])]at HKx;generalize t[k]=y at *;obtain⟨yk,yn⟩:=y;have HD:=hid HKx;clear HKx HK hka;go_upto_region 10 with(fail)
   refine aj (λW1 hW1=>?_);obtain⟨hb1,hq1,hs1⟩:=au hW1;clear hW1;have HB1:=hid (HB0.out.trans (hb1.mono hbs));have HQ1:=hid (HQ0.out.below hb1 HQ0.out.lt);obtain⟨⟨b0,b1⟩,_⟩:=hq1.k2;obtain⟨⟨q0,q1,q2,q3⟩,_⟩:=HQ1.out.k4;clear hq1 hb1 a0 a1;by_cases h7:yk=7
   ·subst h7
    have HE:Hid (R=(Chk.find x yn).isSome):=hid (by rw[<-HD.out];simp[Chk.fin]);go_wp2_with fail;refine(CU _ x yn W1 (Id.ay.below HB1.out HV.out)).mono ?_;rintro e W2⟨u,rfl,hb2,hu⟩;have HB2:=hid (HB1.out.trans (hb2.mono HB1.out.size));obtain⟨u2,rfl,hu2⟩:=hu;obtain⟨A9,n9,c9,rfl⟩:=ah.is hu2;clear hb2 hu2;go_wp2_with fail;go_ret;exact⟨(by first|(rw[HE.out];done)|(rw[HE.out];rfl)),HB2.out.alloc HB2.out.size _⟩
   have t7:((yk:Int)==7)=false:=by rw[xG];omega
   by_cases hr:1<=yk/\yk<=4
   ·have HE:Hid (R=yn.toList.isEmpty):=hid (by rw[<-HD.out];simp only[Chk.fin];rw[if_pos (by omega)])
    have s1:(1:Int)<=(yk:Int):=by omega
    have s2:(yk:Int)<=4:=by omega
    have s3:1<=yk:=hr.1;have s4:yk<=4:=hr.2;clear hr h7;cases hne:yn.toList.isEmpty<;>rw[hne]at HE
    all_goals
     go_wp2_with fail;go_ret;exact⟨(by first|(rw[HE.out];done)|(rw[HE.out];rfl)),HB1.out⟩
   ·have HE:Hid (R=false):=hid (by rw[<-HD.out];simp only[Chk.fin];rw[if_neg (by omega),if_neg h7])
    by_cases h1:1<=yk
    ·have s1:(1:Int)<=(yk:Int):=by omega
     have s2:¬(yk:Int)<=4:=by omega
     have s4:¬yk<=4:=by omega
     clear hr h7;go_wp2_with fail;go_ret;exact⟨(by first|(rw[HE.out];done)|(rw[HE.out];rfl)),HB1.out⟩
    ·obtain rfl:yk=0:=by omega
     clear hr h7 h1;go_wp2_with fail;go_ret;exact⟨(by first|(rw[HE.out];done)|(rw[HE.out];rfl)),HB1.out⟩
  have i1:(k:Int)<(m:Int):=by omega
  rw[Chk.Fg (by rw[HM.out];omega)]at HKx;generalize t[k]=y at *;obtain⟨yk,yn⟩:=y;have HD:=hid HKx;clear HKx HK hka;cases hne:yn.toList.isEmpty
  case false =>
   have HE:Hid (R=false):=hid (by rw[<-HD.out];simp[Chk.mid,hne]);clear HD;go_wp2_with fail;all_goals(go_ret;exact⟨(by first|(rw[HE.out];done)|(rw[HE.out];rfl)),HB0.out⟩)
  by_cases h5:yk=5
  ·subst h5
   have HK1:Hid (Chk.okT x (t.drop (k+1))=R):=hid (by rw[<-HD.out];simp[Chk.mid,hne]);go_wp2_with fail;go_roundw
   case rel=>exact⟨k+1,by omega,by go_num,by first|rfl|trivial,HK1⟩
   case measure=>simp[intOf];omega
  by_cases h6:yk=6
  ·subst h6
   have HK1:Hid (Chk.okT x (t.drop (k+1))=R):=hid (by rw[<-HD.out];simp[Chk.mid,hne]);go_wp2_with fail;go_roundw
   case rel=>exact⟨k+1,by omega,by go_num,by first|rfl|trivial,HK1⟩
   case measure=>simp[intOf];omega
  have t5:((yk:Int) != 5)=true:=by rw[bne_iff_ne];omega
  have t6:((yk:Int) != 6)=true:=by rw[bne_iff_ne];omega
  have HE:Hid (R=false):=hid (by rw[<-HD.out];simp[Chk.mid,hne,h5,h6]);clear h5 h6;go_wp2_with fail;go_ret;exact⟨(by first|(rw[HE.out];done)|(rw[HE.out];rfl)),HB0.out⟩
