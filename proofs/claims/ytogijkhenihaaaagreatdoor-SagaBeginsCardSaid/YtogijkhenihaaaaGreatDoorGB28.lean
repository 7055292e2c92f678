import Derived.Test.YtogijkhenihaaaaGreatDoorGB27
import Derived.Test.YtogijkhenihaaaaGreatDoorGB04
set_option linter.all false
set_option maxRecDepth 100000
set_option maxHeartbeats 0
namespace Go.Proofs.YtogijkhenihaaaaGreatDoor
open Lib (hid)
open Go.BigFrame Go.RowKit
theorem kZ{n:Nat}(h:n<100):(Lib.decDigits n).length<=2:=by
 by_cases h1:n<10
 ·rw[Lib.decDigits_one h1];simp
 ·rw[Lib.decDigits_two h1 h];simp
def Chk.stepM(ra:ByteArray)(p:Id.Stp):Option Id.Mth->Bool
 |none=>false
 |some m=>Chk.stepOf ra p m
theorem Chk.Lj(x:Id.Sch)(ra:ByteArray)(p:Id.Stp):Chk.ji x ra p=Chk.stepM ra p (Chk.meth x p.service p.method):=by
 unfold Chk.ji;cases Chk.meth x p.service p.method<;>rfl
theorem Ef{α:Type}{l:List α}{j:Nat}{a:α}{m:List α}(hd:l.drop j=a::m):l.zipIdx.drop j=(a,j)::l.zipIdx.drop (j+1):=by
 have hj:j<l.length:=by
  rcases Nat.lt_or_ge j l.length with h|h
  ·exact h
  ·rw[xP h]at hd;cases hd
 rw[xQ (show j<l.zipIdx.length by simpa using hj),List.getElem_zipIdx];have:l[j]=a:=aP hj hd;rw[this,Nat.zero_add]
theorem uO(c:Nat)(hc:c<10)(W:World) :
  Sem.run Tryz.prog (convert 120 9 (.slice (some ⟨W.heap.size,0,none⟩) 1 1)) (W.alloc (.cells #[.int .u8 (48+(c:Int))] 5))=.ok (.string ⟨#[UInt8.ofNat (48+c)]⟩) (W.alloc (.cells #[.int .u8 (48+(c:Int))] 5)):=by
 refine run_convert_bytes_back (P:=Tryz.prog) _ 120 9 5 ⟨W.heap.size,0,none⟩ 1 [UInt8.ofNat (48+c)] Tryz.underlying120 Tryz.underlying5 Tryz.underlying9 ?_;intro j hj;have hj:j<1:=hj;obtain rfl:j=0:=by omega
 have e:((UInt8.ofNat (48+c)).toNat:Int)=48+(c:Int):=by
  have:(UInt8.ofNat (48+c)).toNat=(48+c) % 256:=by simp
  omega
 simp[go_sem,Addr.add];omega
theorem uj(n:Nat):Lib.decDigits n=(if n<10 then[]else Lib.decDigits (n / 10))++[UInt8.ofNat (48+n % 10)]:=by
 rw[Lib.decDigits];split
 next h=>rw[Nat.mod_eq_of_lt h];rfl
 next h=>rfl
theorem rP(n:Nat)(hn:n<100)(w:World) :
  Calls Tryz.prog 271 #[.int .i64 n] w λe w'=>e=.returned (.string ⟨(Lib.decDigits n).toArray⟩)/\Below w.heap.size w w':=by
 have i0:(0:Int)<=(n:Int):=by omega
 have i1:(n:Int)<100:=by omega
 have hrun0:=uO (n % 10) (by omega) w;have e0:48+((n % 10:Nat):Int)=48+(n:Int) % 10:=by omega
 rw[e0]at hrun0;obtain⟨c0,Hc0⟩:∃ c,Hid (UInt8.ofNat (48+n % 10)=c):=⟨_,hid rfl⟩;rw[Hc0.out]at hrun0;clear e0;go_enter Tryz.func271,Tryz.ntmps271;go_wp2_with fail;clear hrun0;go_loopw [0,3] (λz b wr=>∃(m:Nat)(S:ByteArray),m<100/\z=.int .i64 m/\b=.string S/\S.size<=2/\Hid ((if m<10 then[]else Lib.decDigits (m / 10))++S.data.toList=Lib.decDigits n)/\Below w.heap.size w wr) (λz _ _=>(intOf z).toNat)
 case atStart=>exact⟨n,_,hn,rfl,rfl,show 1<=2 by decide,hid (by rw[uj n,Hc0.out]),by first|exact(Below.refl _ _).alloc (xB _) _⟩
 case round =>
  obtain⟨m,S,hm,rfl,rfl,hS,HP,hb⟩:=hrel;obtain⟨W1,rfl⟩:∃ w',w'=wr:=⟨_,rfl⟩;have j0:(0:Int)<=(m:Int):=by omega
  have j1:(m:Int)<100:=by omega
  have hz:=hb.size;by_cases h9:9<m
  case neg =>
   have HE:Hid (S=⟨(Lib.decDigits n).toArray⟩):=hid (by
    have h:=HP.out;rw[if_pos (by omega),yI]at h;rw[<-h])
   have j2:¬(9:Int)<(m:Int):=by omega
   go_wp2_with fail;go_ret;exact⟨by rw[HE.out];rfl,hb⟩
  have j2:(9:Int)<(m:Int):=by omega
  have hrun1:=uO (m / 10 % 10) (by omega) W1;have e1:48+((m / 10 % 10:Nat):Int)=48+(m:Int) / 10 % 10:=by omega
  rw[e1]at hrun1;obtain⟨c1,Hc1⟩:∃ c,Hid (UInt8.ofNat (48+m / 10 % 10)=c):=⟨_,hid rfl⟩;rw[Hc1.out]at hrun1;clear e1;have hsz:(9223372036854775807<(⟨#[c1]⟩:ByteArray).size+S.size)=False:=by
   rw[show(⟨#[c1]⟩:ByteArray).size=1 from rfl];simp;omega
  have hsz2:(9223372036854775807<1+S.size)=False:=by simp;omega
  have HP2:Hid ((if m / 10<10 then[]else Lib.decDigits (m / 10 / 10))++((⟨#[c1]⟩:ByteArray)++S).data.toList=Lib.decDigits n):=hid (by
   have h:=HP.out;rw[if_neg (by omega),uj (m / 10),Hc1.out]at h;rw[<-h];simp)
  have hS2:((⟨#[c1]⟩:ByteArray)++S).size<=2:=by
   have h:=congrArg List.length HP2.out;rw[xI]at h;have:=kZ hn;simp only[ByteArray.size]at *;simp at h ⊢;omega
  have e2:((m / 10:Nat):Int)=(m:Int) / 10:=by omega
  have HP3:=HP2;clear HP2 HP;go_wp2_with fail;go_roundw
  case rel=>exact⟨m / 10,_,by omega,by rw[e2],rfl,hS2,HP3,hb.alloc hz _⟩
  case measure=>simp[intOf]<;>omega
theorem Gj(v:Value)(x:Id.Sch)(hF:Chk.Fine x)(w:World)(hv:Id.ay w none v x) :
  Calls Tryz.prog 252 #[v,.int .i64 9] w λe w'=>e=.returned (Chk.kL (Chk.ak (Chk.cZ x)))/\Below w.heap.size w w':=by
 have HV:=hid hv;obtain⟨A1,n1,c1,A2,n2,c2,A3,n3,c3,rfl,r1,r2,r3⟩:=hv;have HN1:Hid (n1=x.records.length):=hid (by obtain⟨_,_,e,_⟩:=ah.slice r1;injection e);have hm1:n1<=9223372036854775807:=by obtain⟨_,_,e,_,_⟩:=ah.slice r1;injection e;omega
 have H1:=hid r1;have HN2:Hid (n2=x.services.length):=hid (by obtain⟨_,_,e,_⟩:=ah.slice r2;injection e);have hm2:n2<=9223372036854775807:=by obtain⟨_,_,e,_,_⟩:=ah.slice r2;injection e;omega
 have H2:=hid r2;have HN3:Hid (n3=x.sagas.length):=hid (by obtain⟨_,_,e,_⟩:=ah.slice r3;injection e);have hm3:n3<=9223372036854775807:=by obtain⟨_,_,e,_,_⟩:=ah.slice r3;injection e;omega
 have H3:=hid r3;clear r1 r2 r3;have HF:=hid hF;obtain⟨R,HR⟩:∃ R,Hid (Chk.ak (Chk.cZ x)=R):=⟨_,hid rfl⟩;rw[HR.out];clear hF;go_enter Tryz.func252,Tryz.ntmps252;go_upto_region 1 with(fail)
 refine aj (λV hV=>?_);have HL:=hid (Chk.Lx.start hV);clear hV;obtain⟨⟨q0,q1,q2,q3⟩,-⟩:=HL.out.box.k4;go_wp2_with fail;go_loopw [6] (λi wr=>∃(k:Nat),k<=n3/\i=.int .i64 k/\Hid (Chk.ak ((x.sagas.drop k).flatMap (Chk.iT x))=R)/\Hid (Chk.Lx w wr #[.string x.name,.slice A1 n1 c1,.slice A2 n2 c2,.slice A3 n3 c3])) (λi _=>n3 - (intOf i).toNat)
 case atStart=>exact⟨0,by omega,rfl,HR,HL⟩
 case round =>
  clear HL HR q0 q1 q2 q3;obtain⟨k,hk,rfl,HI,HL⟩:=hrel;obtain⟨V1,rfl⟩:∃ w',w'=wr:=⟨_,rfl⟩;have ik0:(0:Int)<=(k:Int):=by omega
  obtain⟨⟨q0,q1,q2,q3⟩,-⟩:=HL.out.box.k4;by_cases hlt:k<n3
  case neg =>
   have HE:Hid (R=none):=hid (by have h:=HI.out;rw[xP (by have:=HN3.out;omega)]at h;exact h.symm);clear HI;go_wp2_with fail;go_ret2;exact⟨by rw[HE.out];rfl,HL.out.bel⟩
  have hok0:=λh:k<x.sagas.length=>HF.out.sa _ (xR h)
  have HOK:=hid hok0;clear hok0;have aX:k<x.sagas.length:=by rw[<-HN3.out];exact hlt
  obtain⟨g1,off1,cs,rfl,-,⟨u,he,HU⟩,hc⟩:=ah.get H3.out aX (by omega);obtain⟨r,Hr⟩:∃ r,Hid (x.sagas[k]=r):=⟨_,hid rfl⟩;rw[Hr.out]at he HU;obtain⟨rn,ra,rf⟩:=r;subst he;simp only at HU hc;obtain⟨A5,n5,c5,rfl⟩:=ah.is HU;have HN5:Hid (n5=rf.length):=hid (by obtain⟨_,_,e,_⟩:=ah.slice HU;injection e);have hm5:n5<=9223372036854775807:=by obtain⟨_,_,e,_,_⟩:=ah.slice HU;injection e;omega
  have H5:=hid HU;have HDk:Hid (x.sagas.drop k=⟨rn,ra,rf⟩::x.sagas.drop (k+1)):=hid (by rw[xQ aX,Hr.out]);have b0:=hc 0 _ rfl;have b1:=hc 1 _ rfl;have b2:=hc 2 _ rfl;simp only[xK]at b0;have aC:g1<w.heap.size:=xH w _ b0;have b0:=(HL.out.bel.cell aC).trans b0;have b1:=(HL.out.bel.cell aC).trans b1;have b2:=(HL.out.bel.cell aC).trans b2;have i11:(k:Int)<(n3:Int):=by omega
  clear hc HU Hr;have hok:=HOK.out aX;rw[aP aX HDk.out]at hok;simp only at hok;have HIk:Hid (Chk.ak ((Chk.iT x) ⟨rn,ra,rf⟩++(x.sagas.drop (k+1)).flatMap (Chk.iT x))=R):=hid (by have h:=HI.out;rw[HDk.out,yJ]at h;exact h);clear HI HOK;obtain⟨hrn,rX,hra,-⟩:=hok;go_upto_region 5 with(fail)
  refine aj (λW1 hW1=>?_);obtain⟨hb1,hq1,-⟩:=au hW1;clear hW1;have HB1:=hid hq1;clear q0 q1 q2 q3 b0 b1 b2;replace HL:=hid (HL.out.below hb1);clear hb1 hq1;go_wp2_with fail;have h5:n5<=99:=by rw[HN5.out];exact rX
  have HIj:Hid (Chk.ak ((rf.zipIdx.drop 0).flatMap (Chk.iR x rn ra)++(x.sagas.drop (k+1)).flatMap (Chk.iT x))=R):=HIk;go_loopw [8] (λi wr=>∃(j:Nat),j<=n5/\i=.int .i64 j/\Hid (Chk.ak ((rf.zipIdx.drop j).flatMap (Chk.iR x rn ra)++(x.sagas.drop (k+1)).flatMap (Chk.iT x))=R)/\Hid (Bk wr V1.heap.size 105 #[.string rn,.string ra,.slice A5 n5 c5])/\Hid (Chk.Lx w wr #[.string x.name,.slice A1 n1 c1,.slice A2 n2 c2,.slice (some ⟨g1,off1,none⟩) n3 c3])) (λi _=>n5 - (intOf i).toNat)
  case atStart=>exact⟨0,by omega,rfl,HIj,HB1,HL⟩
  case round =>
   clear HL HB1 HIj HIk;obtain⟨j,hj,rfl,HJ,HB1,HL⟩:=hrel;obtain⟨V2,rfl⟩:∃ w',w'=wr:=⟨_,rfl⟩;have ij0:(0:Int)<=(j:Int):=by omega
   obtain⟨⟨b0,b1,b2⟩,-⟩:=HB1.out.k3;by_cases hlj:j<n5
   case neg =>
    have HI3:Hid (Chk.ak ((x.sagas.drop (k+1)).flatMap (Chk.iT x))=R):=hid (by have h:=HJ.out;rw[xP (by have:=HN5.out;simp;omega)]at h;exact h);clear HJ;go_wp2_with fail;go_roundw
    case rel=>exact⟨k+1,by omega,by go_num,HI3,HL⟩
    case measure=>simp[intOf]<;>omega
   have dL:j<rf.length:=by rw[<-HN5.out];exact hlj
   obtain⟨g2,off2,cs,rfl,-,he,hc⟩:=ah.get H5.out dL (by omega);obtain⟨r,Hr⟩:∃ r,Hid (rf[j]=r):=⟨_,hid rfl⟩;rw[Hr.out]at he;obtain⟨p0,p1,p2⟩:=r;unfold Id.dU Id.Stp.cells at he;subst he;have HDj:Hid (rf.drop j=⟨p0,p1,p2⟩::rf.drop (j+1)):=hid (by rw[xQ dL,Hr.out]);have a0:=hc 0 _ rfl;have a1:=hc 1 _ rfl;have a2:=hc 2 _ rfl;simp only[xK]at a0;have aH:g2<w.heap.size:=xH w _ a0;have a0:=(HL.out.bel.cell aH).trans a0;have a1:=(HL.out.bel.cell aH).trans a1;have a2:=(HL.out.bel.cell aH).trans a2;have i21:(j:Int)<(n5:Int):=by omega
   clear hc Hr;have HJ1:Hid (Chk.ak ((Chk.ji x ra ⟨p0,p1,p2⟩,Chk.nth rn j)::((rf.zipIdx.drop (j+1)).flatMap (Chk.iR x rn ra)++(x.sagas.drop (k+1)).flatMap (Chk.iT x)))=R):=hid (by have h:=HJ.out;rw[Ef HDj.out,yJ,xU]at h;exact h);clear HJ;go_upto_region 9 with(fail)
   refine aj (λW3 hW3=>?_);obtain⟨hb3,hq3,-⟩:=au hW3;clear hW3 a0 a1 a2 b0 b1 b2;have HX:=hid hq3;replace HL:=hid (HL.out.below hb3);replace HB1:=hid (HB1.out.below hb3 HB1.out.lt);clear hb3 hq3;obtain⟨⟨q0,q1,q2,q3⟩,-⟩:=HL.out.box.k4;obtain⟨T,HT⟩:∃ T,Hid (Chk.ji x ra ⟨p0,p1,p2⟩=T):=⟨_,hid rfl⟩;rw[HT.out]at HJ1;have YES:T=true->Hid (Chk.ak ((rf.zipIdx.drop (j+1)).flatMap (Chk.iR x rn ra)++(x.sagas.drop (k+1)).flatMap (Chk.iT x))=R):=λh=>hid ((Chk.gV h).symm.trans HJ1.out)
   have NO:T=false->Hid (R=some (Chk.nth rn j)):=λh=>hid (HJ1.out.symm.trans (Chk.fQ h))
   have fJ:=hid YES;have HNO:=hid NO;clear YES NO HJ1;obtain⟨mo,HMO⟩:∃ mo,Hid (Chk.meth x p0 p1=mo):=⟨_,hid rfl⟩;obtain⟨⟨a0,a1,a2⟩,-⟩:=HX.out.k3;obtain⟨⟨b0,b1,b2⟩,-⟩:=HB1.out.k3;go_wp2_with fail;refine(qh _ x p0 p1 _ (Id.ay.below HL.out.bel HV.out)).mono ?_;rintro e W4⟨rfl,hb4⟩;rw[HMO.out];clear a0 a1 a2 b0 b1 b2 q0 q1 q2 q3;have HLx:=hid (HL.out.below hb4);have eY:=hid (HB1.out.below hb4 HB1.out.lt);have HXx:=hid (HX.out.below hb4 HX.out.lt);clear HL HB1 HX;have HL:=HLx;have HB1:=eY;have HX:=HXx;clear HLx eY HXx;clear hb4;have HT2:Hid (Chk.stepM ra ⟨p0,p1,p2⟩ mo=T):=hid (by rw[<-HT.out,Chk.Lj,<-HMO.out]);obtain⟨⟨u0,u1,u2,u3,u4⟩,HU0⟩:∃ u,Hid (mo.getD Chk.oz=u):=⟨_,hid rfl⟩;obtain⟨ob,HOB⟩:∃ ob,Hid (mo.isSome=ob):=⟨_,hid rfl⟩;rw[HU0.out,HOB.out];unfold Chk.rV;simp only;have HT3:Hid ((ob&&(u1.toList==ra.toList&&decide (0<=p2)&&decide (p2<4)))=T):=hid (by rw[<-HT2.out,<-HOB.out];cases mo with
    |none=>rfl
    |some m=>obtain rfl:=HU0.out;rfl)
   clear HT HT2 HMO HOB HU0;go_upto_region 10 with(fail)
   refine aj (λW5 hW5=>?_);obtain⟨hb5,hq5,-⟩:=au hW5;clear hW5;have HU:=hid hq5;have HLx:=hid (HL.out.below hb5);have eY:=hid (HB1.out.below hb5 HB1.out.lt);have HXx:=hid (HX.out.below hb5 HX.out.lt);clear HL HB1 HX;have HL:=HLx;have HB1:=eY;have HX:=HXx;clear HLx eY HXx;clear hb5 hq5;obtain⟨⟨a0,a1,a2⟩,-⟩:=HX.out.k3;obtain⟨⟨b0,b1,b2⟩,-⟩:=HB1.out.k3;obtain⟨⟨u0c,u1c,u2c,u3c,u4c⟩,-⟩:=HU.out.k5;cases ob
   case false =>
    have HE:=HNO.out (by rw[<-HT3.out];rfl);clear fJ HNO;have z0:(9223372036854775807<rn.size+1)=False:=by simp;omega
    have hds:(⟨(Lib.decDigits j).toArray⟩:ByteArray).size<=2:=by show(Lib.decDigits j).toArray.size<=2;rw[List.size_toArray];exact kZ (by omega)
    have z1:(9223372036854775807<rn.size+1+(⟨(Lib.decDigits j).toArray⟩:ByteArray).size)=False:=by simp only[eq_iff_iff,iff_false];omega
    obtain⟨nd,HND⟩:∃ nd,Hid ((⟨(Lib.decDigits j).toArray⟩:ByteArray)=nd):=⟨_,hid rfl⟩;rw[HND.out]at z1 hds;have hnum:=λW=>rP j (by omega) W
    rw[HND.out]at hnum;have vZ:=hid hnum;clear hnum;have HE2:Hid (R=some (Chk.part rn nd)):=hid (by rw[HE.out,<-HND.out];rfl);clear HE HND;go_wp2_with fail;have dB0:=λ(w':World) (hb:Bl W5 w')=>(Bk.k3 (HB1.out.below hb HB1.out.lt)).1.1
    clear a0 a1 a2 b0 b1 b2 u0c u1c u2c u3c u4c;refine dI W5 (by kernel_rfl) (by kernel_rfl) (Bl.refl _) ?_;repeat(first|go_big_quiet_step((intro hb;exact fG hb (vZ.out _)))|(refine wpQuiet_step (λK hK=>?_);rw[if_pos (by rfl)];refine Lst.aF _ _ rfl _ rfl _ (by assumption) _ Tryz.underlying9 rfl ?_;go_simp;refine hK _ ?_;clear hK K)|(refine wpQuiet_step (λK hK=>?_);go_simp;refine⟨_,λ_ _=>rfl,hK _ ?_⟩;clear hK K))
    refine wpQuiet_nil ?_;intro w9 hw9;clear dB0;replace HL:=hid (HL.out.below hw9);go_wp2_with fail;go_ret2;exact⟨by rw[HE2.out];rfl,HL.out.bel⟩
   cases e1:(u1.toList==ra.toList)
   case false =>
    have HE:=HNO.out (by rw[<-HT3.out,e1];rfl);clear fJ HNO;have z0:(9223372036854775807<rn.size+1)=False:=by simp;omega
    have hds:(⟨(Lib.decDigits j).toArray⟩:ByteArray).size<=2:=by show(Lib.decDigits j).toArray.size<=2;rw[List.size_toArray];exact kZ (by omega)
    have z1:(9223372036854775807<rn.size+1+(⟨(Lib.decDigits j).toArray⟩:ByteArray).size)=False:=by simp only[eq_iff_iff,iff_false];omega
    obtain⟨nd,HND⟩:∃ nd,Hid ((⟨(Lib.decDigits j).toArray⟩:ByteArray)=nd):=⟨_,hid rfl⟩;rw[HND.out]at z1 hds;have hnum:=λW=>rP j (by omega) W
    rw[HND.out]at hnum;have vZ:=hid hnum;clear hnum;have HE2:Hid (R=some (Chk.part rn nd)):=hid (by rw[HE.out,<-HND.out];rfl);clear HE HND;go_wp2_with fail;have dB0:=λ(w':World) (hb:Bl W5 w')=>(Bk.k3 (HB1.out.below hb HB1.out.lt)).1.1
    clear a0 a1 a2 b0 b1 b2 u0c u1c u2c u3c u4c;refine dI W5 (by kernel_rfl) (by kernel_rfl) (Bl.refl _) ?_;repeat(first|go_big_quiet_step((intro hb;exact fG hb (vZ.out _)))|(refine wpQuiet_step (λK hK=>?_);rw[if_pos (by rfl)];refine Lst.aF _ _ rfl _ rfl _ (by assumption) _ Tryz.underlying9 rfl ?_;go_simp;refine hK _ ?_;clear hK K)|(refine wpQuiet_step (λK hK=>?_);go_simp;refine⟨_,λ_ _=>rfl,hK _ ?_⟩;clear hK K))
    refine wpQuiet_nil ?_;intro w9 hw9;clear dB0;replace HL:=hid (HL.out.below hw9);go_wp2_with fail;go_ret2;exact⟨by rw[HE2.out];rfl,HL.out.bel⟩
   by_cases e2:0<=p2
   case neg =>
    have HTF:Hid (T=false):=hid (by rw[<-HT3.out,decide_eq_false e2];simp);have HE:=HNO.out (HTF.out);clear fJ HNO;have z0:(9223372036854775807<rn.size+1)=False:=by simp;omega
    have hds:(⟨(Lib.decDigits j).toArray⟩:ByteArray).size<=2:=by show(Lib.decDigits j).toArray.size<=2;rw[List.size_toArray];exact kZ (by omega)
    have z1:(9223372036854775807<rn.size+1+(⟨(Lib.decDigits j).toArray⟩:ByteArray).size)=False:=by simp only[eq_iff_iff,iff_false];omega
    obtain⟨nd,HND⟩:∃ nd,Hid ((⟨(Lib.decDigits j).toArray⟩:ByteArray)=nd):=⟨_,hid rfl⟩;rw[HND.out]at z1 hds;have hnum:=λW=>rP j (by omega) W
    rw[HND.out]at hnum;have vZ:=hid hnum;clear hnum;have HE2:Hid (R=some (Chk.part rn nd)):=hid (by rw[HE.out,<-HND.out];rfl);clear HE HND;go_wp2_with fail;have dB0:=λ(w':World) (hb:Bl W5 w')=>(Bk.k3 (HB1.out.below hb HB1.out.lt)).1.1
    clear a0 a1 a2 b0 b1 b2 u0c u1c u2c u3c u4c;refine dI W5 (by kernel_rfl) (by kernel_rfl) (Bl.refl _) ?_;repeat(first|go_big_quiet_step((intro hb;exact fG hb (vZ.out _)))|(refine wpQuiet_step (λK hK=>?_);rw[if_pos (by rfl)];refine Lst.aF _ _ rfl _ rfl _ (by assumption) _ Tryz.underlying9 rfl ?_;go_simp;refine hK _ ?_;clear hK K)|(refine wpQuiet_step (λK hK=>?_);go_simp;refine⟨_,λ_ _=>rfl,hK _ ?_⟩;clear hK K))
    refine wpQuiet_nil ?_;intro w9 hw9;clear dB0;replace HL:=hid (HL.out.below hw9);go_wp2_with fail;go_ret2;exact⟨by rw[HE2.out];rfl,HL.out.bel⟩
   by_cases e3:p2<4
   case neg =>
    have HTF:Hid (T=false):=hid (by rw[<-HT3.out,decide_eq_false e3];simp);have e4:¬p2<=3:=by omega
    have HE:=HNO.out (HTF.out);clear fJ HNO;have z0:(9223372036854775807<rn.size+1)=False:=by simp;omega
    have hds:(⟨(Lib.decDigits j).toArray⟩:ByteArray).size<=2:=by show(Lib.decDigits j).toArray.size<=2;rw[List.size_toArray];exact kZ (by omega)
    have z1:(9223372036854775807<rn.size+1+(⟨(Lib.decDigits j).toArray⟩:ByteArray).size)=False:=by simp only[eq_iff_iff,iff_false];omega
    obtain⟨nd,HND⟩:∃ nd,Hid ((⟨(Lib.decDigits j).toArray⟩:ByteArray)=nd):=⟨_,hid rfl⟩;rw[HND.out]at z1 hds;have hnum:=λW=>rP j (by omega) W
    rw[HND.out]at hnum;have vZ:=hid hnum;clear hnum;have HE2:Hid (R=some (Chk.part rn nd)):=hid (by rw[HE.out,<-HND.out];rfl);clear HE HND;go_wp2_with fail;have dB0:=λ(w':World) (hb:Bl W5 w')=>(Bk.k3 (HB1.out.below hb HB1.out.lt)).1.1
    clear a0 a1 a2 b0 b1 b2 u0c u1c u2c u3c u4c;refine dI W5 (by kernel_rfl) (by kernel_rfl) (Bl.refl _) ?_;repeat(first|go_big_quiet_step((intro hb;exact fG hb (vZ.out _)))|(refine wpQuiet_step (λK hK=>?_);rw[if_pos (by rfl)];refine Lst.aF _ _ rfl _ rfl _ (by assumption) _ Tryz.underlying9 rfl ?_;go_simp;refine hK _ ?_;clear hK K)|(refine wpQuiet_step (λK hK=>?_);go_simp;refine⟨_,λ_ _=>rfl,hK _ ?_⟩;clear hK K))
    refine wpQuiet_nil ?_;intro w9 hw9;clear dB0;replace HL:=hid (HL.out.below hw9);go_wp2_with fail;go_ret2;exact⟨by rw[HE2.out];rfl,HL.out.bel⟩
   have e4:p2<=3:=by omega
   have HTT:Hid (T=true):=hid (by rw[<-HT3.out,e1,decide_eq_true e2,decide_eq_true e3];rfl);clear e3;have HI4:=fJ.out (HTT.out);clear fJ HNO;go_wp2_with fail;go_roundw
   case rel=>exact⟨j+1,by omega,by go_num,HI4,HB1,HL⟩
   case measure=>simp[intOf]<;>omega
theorem EH(v:Value)(x:Id.Sch)(hF:Chk.Fine x)(w:World)(hv:Id.ay w none v x) :
  Calls Tryz.prog 252 #[v,.int .i64 10] w λe w'=>e=.returned (Chk.kL (Chk.ak (Chk.dH x)))/\Below w.heap.size w w':=by
 have HV:=hid hv;obtain⟨A1,n1,c1,A2,n2,c2,A3,n3,c3,rfl,r1,r2,r3⟩:=hv;have HN1:Hid (n1=x.records.length):=hid (by obtain⟨_,_,e,_⟩:=ah.slice r1;injection e);have hm1:n1<=9223372036854775807:=by obtain⟨_,_,e,_,_⟩:=ah.slice r1;injection e;omega
 have H1:=hid r1;have HN2:Hid (n2=x.services.length):=hid (by obtain⟨_,_,e,_⟩:=ah.slice r2;injection e);have hm2:n2<=9223372036854775807:=by obtain⟨_,_,e,_,_⟩:=ah.slice r2;injection e;omega
 have H2:=hid r2;have HN3:Hid (n3=x.sagas.length):=hid (by obtain⟨_,_,e,_⟩:=ah.slice r3;injection e);have hm3:n3<=9223372036854775807:=by obtain⟨_,_,e,_,_⟩:=ah.slice r3;injection e;omega
 have H3:=hid r3;clear r1 r2 r3;have HF:=hid hF;obtain⟨R,HR⟩:∃ R,Hid (Chk.ak (Chk.dH x)=R):=⟨_,hid rfl⟩;rw[HR.out];clear hF;go_enter Tryz.func252,Tryz.ntmps252;go_upto_region 1 with(fail)
 refine aj (λV hV=>?_);have HL:=hid (Chk.Lx.start hV);clear hV;obtain⟨⟨q0,q1,q2,q3⟩,-⟩:=HL.out.box.k4;go_wp2_with fail;go_loopw [6] (λi wr=>∃(k:Nat),k<=n3/\i=.int .i64 k/\Hid (Chk.ak ((x.sagas.drop k).flatMap (Chk.jU x))=R)/\Hid (Chk.Lx w wr #[.string x.name,.slice A1 n1 c1,.slice A2 n2 c2,.slice A3 n3 c3])) (λi _=>n3 - (intOf i).toNat)
 case atStart=>exact⟨0,by omega,rfl,HR,HL⟩
 case round =>
  clear HL HR q0 q1 q2 q3;obtain⟨k,hk,rfl,HI,HL⟩:=hrel;obtain⟨V1,rfl⟩:∃ w',w'=wr:=⟨_,rfl⟩;have ik0:(0:Int)<=(k:Int):=by omega
  obtain⟨⟨q0,q1,q2,q3⟩,-⟩:=HL.out.box.k4;by_cases hlt:k<n3
  case neg =>
   have HE:Hid (R=none):=hid (by have h:=HI.out;rw[xP (by have:=HN3.out;omega)]at h;exact h.symm);clear HI;go_wp2_with fail;go_ret2;exact⟨by rw[HE.out];rfl,HL.out.bel⟩
  have hok0:=λh:k<x.sagas.length=>HF.out.sa _ (xR h)
  have HOK:=hid hok0;clear hok0;have aX:k<x.sagas.length:=by rw[<-HN3.out];exact hlt
  obtain⟨g1,off1,cs,rfl,-,⟨u,he,HU⟩,hc⟩:=ah.get H3.out aX (by omega);obtain⟨r,Hr⟩:∃ r,Hid (x.sagas[k]=r):=⟨_,hid rfl⟩;rw[Hr.out]at he HU;obtain⟨rn,ra,rf⟩:=r;subst he;simp only at HU hc;obtain⟨A5,n5,c5,rfl⟩:=ah.is HU;have HN5:Hid (n5=rf.length):=hid (by obtain⟨_,_,e,_⟩:=ah.slice HU;injection e);have hm5:n5<=9223372036854775807:=by obtain⟨_,_,e,_,_⟩:=ah.slice HU;injection e;omega
  have H5:=hid HU;have HDk:Hid (x.sagas.drop k=⟨rn,ra,rf⟩::x.sagas.drop (k+1)):=hid (by rw[xQ aX,Hr.out]);have b0:=hc 0 _ rfl;have b1:=hc 1 _ rfl;have b2:=hc 2 _ rfl;simp only[xK]at b0;have aC:g1<w.heap.size:=xH w _ b0;have b0:=(HL.out.bel.cell aC).trans b0;have b1:=(HL.out.bel.cell aC).trans b1;have b2:=(HL.out.bel.cell aC).trans b2;have i11:(k:Int)<(n3:Int):=by omega
  clear hc HU Hr;have hok:=HOK.out aX;rw[aP aX HDk.out]at hok;simp only at hok;have HIk:Hid (Chk.ak ((Chk.jU x) ⟨rn,ra,rf⟩++(x.sagas.drop (k+1)).flatMap (Chk.jU x))=R):=hid (by have h:=HI.out;rw[HDk.out,yJ]at h;exact h);clear HI HOK;obtain⟨hrn,rX,hra,-⟩:=hok;go_upto_region 5 with(fail)
  refine aj (λW1 hW1=>?_);obtain⟨hb1,hq1,-⟩:=au hW1;clear hW1;have HB1:=hid hq1;clear q0 q1 q2 q3 b0 b1 b2;replace HL:=hid (HL.out.below hb1);clear hb1 hq1;go_wp2_with fail;have h5:n5<=99:=by rw[HN5.out];exact rX
  have HIj:Hid (Chk.ak ((rf.zipIdx.drop 0).flatMap (Chk.lS x rn rf.length)++(x.sagas.drop (k+1)).flatMap (Chk.jU x))=R):=HIk;go_loopw [8] (λi wr=>∃(j:Nat),j<=n5/\i=.int .i64 j/\Hid (Chk.ak ((rf.zipIdx.drop j).flatMap (Chk.lS x rn rf.length)++(x.sagas.drop (k+1)).flatMap (Chk.jU x))=R)/\Hid (Bk wr V1.heap.size 105 #[.string rn,.string ra,.slice A5 n5 c5])/\Hid (Chk.Lx w wr #[.string x.name,.slice A1 n1 c1,.slice A2 n2 c2,.slice (some ⟨g1,off1,none⟩) n3 c3])) (λi _=>n5 - (intOf i).toNat)
  case atStart=>exact⟨0,by omega,rfl,HIj,HB1,HL⟩
  case round =>
   clear HL HB1 HIj HIk;obtain⟨j,hj,rfl,HJ,HB1,HL⟩:=hrel;obtain⟨V2,rfl⟩:∃ w',w'=wr:=⟨_,rfl⟩;have ij0:(0:Int)<=(j:Int):=by omega
   obtain⟨⟨b0,b1,b2⟩,-⟩:=HB1.out.k3;by_cases hlj:j<n5
   case neg =>
    have HI3:Hid (Chk.ak ((x.sagas.drop (k+1)).flatMap (Chk.jU x))=R):=hid (by have h:=HJ.out;rw[xP (by have:=HN5.out;simp;omega)]at h;exact h);clear HJ;go_wp2_with fail;go_roundw
    case rel=>exact⟨k+1,by omega,by go_num,HI3,HL⟩
    case measure=>simp[intOf]<;>omega
   have dL:j<rf.length:=by rw[<-HN5.out];exact hlj
   obtain⟨g2,off2,cs,rfl,-,he,hc⟩:=ah.get H5.out dL (by omega);obtain⟨r,Hr⟩:∃ r,Hid (rf[j]=r):=⟨_,hid rfl⟩;rw[Hr.out]at he;obtain⟨p0,p1,p2⟩:=r;unfold Id.dU Id.Stp.cells at he;subst he;have HDj:Hid (rf.drop j=⟨p0,p1,p2⟩::rf.drop (j+1)):=hid (by rw[xQ dL,Hr.out]);have a0:=hc 0 _ rfl;have a1:=hc 1 _ rfl;have a2:=hc 2 _ rfl;simp only[xK]at a0;have aH:g2<w.heap.size:=xH w _ a0;have a0:=(HL.out.bel.cell aH).trans a0;have a1:=(HL.out.bel.cell aH).trans a1;have a2:=(HL.out.bel.cell aH).trans a2;have i21:(j:Int)<(n5:Int):=by omega
   clear hc Hr;have HJ1:Hid (Chk.ak ((Chk.qc x rf.length (⟨p0,p1,p2⟩,j),Chk.nth rn j)::((rf.zipIdx.drop (j+1)).flatMap (Chk.lS x rn rf.length)++(x.sagas.drop (k+1)).flatMap (Chk.jU x)))=R):=hid (by have h:=HJ.out;rw[Ef HDj.out,yJ,xU]at h;exact h);clear HJ;go_upto_region 9 with(fail)
   refine aj (λW3 hW3=>?_);obtain⟨hb3,hq3,-⟩:=au hW3;clear hW3 a0 a1 a2 b0 b1 b2;have HX:=hid hq3;replace HL:=hid (HL.out.below hb3);replace HB1:=hid (HB1.out.below hb3 HB1.out.lt);clear hb3 hq3;obtain⟨⟨q0,q1,q2,q3⟩,-⟩:=HL.out.box.k4;obtain⟨T,HT⟩:∃ T,Hid (Chk.qc x rf.length (⟨p0,p1,p2⟩,j)=T):=⟨_,hid rfl⟩;rw[HT.out]at HJ1;have YES:T=true->Hid (Chk.ak ((rf.zipIdx.drop (j+1)).flatMap (Chk.lS x rn rf.length)++(x.sagas.drop (k+1)).flatMap (Chk.jU x))=R):=λh=>hid ((Chk.gV h).symm.trans HJ1.out)
   have NO:T=false->Hid (R=some (Chk.nth rn j)):=λh=>hid (HJ1.out.symm.trans (Chk.fQ h))
   have fJ:=hid YES;have HNO:=hid NO;clear YES NO HJ1;obtain⟨mo,HMO⟩:∃ mo,Hid (Chk.meth x p0 p1=mo):=⟨_,hid rfl⟩;obtain⟨⟨a0,a1,a2⟩,-⟩:=HX.out.k3;obtain⟨⟨b0,b1,b2⟩,-⟩:=HB1.out.k3;go_wp2_with fail;refine(qh _ x p0 p1 _ (Id.ay.below HL.out.bel HV.out)).mono ?_;rintro e W4⟨rfl,hb4⟩;rw[HMO.out];clear a0 a1 a2 b0 b1 b2 q0 q1 q2 q3;have HLx:=hid (HL.out.below hb4);have eY:=hid (HB1.out.below hb4 HB1.out.lt);have HXx:=hid (HX.out.below hb4 HX.out.lt);clear HL HB1 HX;have HL:=HLx;have HB1:=eY;have HX:=HXx;clear HLx eY HXx;clear hb4;have HT2:Hid ((j+1==rf.length||!(mo.getD Chk.oz).undo.toList.isEmpty)=T):=hid (by rw[<-HT.out,<-HMO.out];rfl);obtain⟨⟨u0,u1,u2,u3,u4⟩,HU0⟩:∃ u,Hid (mo.getD Chk.oz=u):=⟨_,hid rfl⟩;obtain⟨ob,HOB⟩:∃ ob,Hid (mo.isSome=ob):=⟨_,hid rfl⟩;rw[HU0.out,HOB.out];unfold Chk.rV;simp only;have HT3:Hid ((j+1==rf.length||!u4.toList.isEmpty)=T):=hid (by rw[<-HT2.out,HU0.out]);clear HT HT2 HMO HOB HU0;go_upto_region 10 with(fail)
   refine aj (λW5 hW5=>?_);obtain⟨hb5,hq5,-⟩:=au hW5;clear hW5;have HU:=hid hq5;have HLx:=hid (HL.out.below hb5);have eY:=hid (HB1.out.below hb5 HB1.out.lt);have HXx:=hid (HX.out.below hb5 HX.out.lt);clear HL HB1 HX;have HL:=HLx;have HB1:=eY;have HX:=HXx;clear HLx eY HXx;clear hb5 hq5;obtain⟨⟨a0,a1,a2⟩,-⟩:=HX.out.k3;obtain⟨⟨b0,b1,b2⟩,-⟩:=HB1.out.k3;obtain⟨⟨u0c,u1c,u2c,u3c,u4c⟩,-⟩:=HU.out.k5;by_cases e1:j+1=n5
   case pos =>
    have HTT:Hid (T=true):=hid (by rw[<-HT3.out,<-HN5.out,e1];simp);subst e1;have e2:((j+1:Nat):Int) - 1=(j:Int):=by omega
    have e3:(j:Int)+1 - 1=(j:Int):=by omega
    have HI4:=fJ.out (HTT.out);clear fJ HNO;go_wp2_with fail;go_roundw
    case rel=>exact⟨j+1,by omega,by go_num,HI4,HB1,HL⟩
    case measure=>simp[intOf]<;>omega
   have HT4:Hid ((!u4.toList.isEmpty)=T):=hid (by rw[<-HT3.out,<-HN5.out,beq_eq_false_iff_ne.2 e1];rfl);have e2:((j:Int)==(n5:Int) - 1)=false:=by rw[xG];omega
   have e3:¬(j:Int)=(n5:Int) - 1:=by omega
   clear e1 HT3;cases hu:u4.toList.isEmpty
   case true =>
    have HE:=HNO.out (by rw[<-HT4.out,hu];rfl);clear fJ HNO;have z0:(9223372036854775807<rn.size+1)=False:=by simp;omega
    have hds:(⟨(Lib.decDigits j).toArray⟩:ByteArray).size<=2:=by show(Lib.decDigits j).toArray.size<=2;rw[List.size_toArray];exact kZ (by omega)
    have z1:(9223372036854775807<rn.size+1+(⟨(Lib.decDigits j).toArray⟩:ByteArray).size)=False:=by simp only[eq_iff_iff,iff_false];omega
    obtain⟨nd,HND⟩:∃ nd,Hid ((⟨(Lib.decDigits j).toArray⟩:ByteArray)=nd):=⟨_,hid rfl⟩;rw[HND.out]at z1 hds;have hnum:=λW=>rP j (by omega) W
    rw[HND.out]at hnum;have vZ:=hid hnum;clear hnum;have HE2:Hid (R=some (Chk.part rn nd)):=hid (by rw[HE.out,<-HND.out];rfl);clear HE HND;go_wp2_with fail;have dB0:=λ(w':World) (hb:Bl W5 w')=>(Bk.k3 (HB1.out.below hb HB1.out.lt)).1.1
    clear a0 a1 a2 b0 b1 b2 u0c u1c u2c u3c u4c;refine dI W5 (by kernel_rfl) (by kernel_rfl) (Bl.refl _) ?_;repeat(first|go_big_quiet_step((intro hb;exact fG hb (vZ.out _)))|(refine wpQuiet_step (λK hK=>?_);rw[if_pos (by rfl)];refine Lst.aF _ _ rfl _ rfl _ (by assumption) _ Tryz.underlying9 rfl ?_;go_simp;refine hK _ ?_;clear hK K)|(refine wpQuiet_step (λK hK=>?_);go_simp;refine⟨_,λ_ _=>rfl,hK _ ?_⟩;clear hK K))
    refine wpQuiet_nil ?_;intro w9 hw9;clear dB0;replace HL:=hid (HL.out.below hw9);go_wp2_with fail;go_ret2;exact⟨by rw[HE2.out];rfl,HL.out.bel⟩
   have HI4:=fJ.out (by rw[<-HT4.out,hu];rfl);clear fJ HNO;go_wp2_with fail;go_roundw
   case rel=>exact⟨j+1,by omega,by go_num,HI4,HB1,HL⟩
   case measure=>simp[intOf]<;>omega
theorem EI(s:ByteArray)(hs:s.size<=100000)(w:World):Calls Tryz.prog 189 #[.string s] w λe w'=>e=.returned (.bool (Sd.idL s.data.toList))/\w'=w:=by
 obtain⟨R,HR⟩:∃ R,Hid (Sd.idL s.data.toList=R):=⟨_,hid rfl⟩;rw[HR.out];have hll:s.data.toList.length=s.size:=by simp
 have HLL:=hid hll;clear hll;go_enter Tryz.func189,Tryz.ntmps189;by_cases hlen:(s.size:Int)<1∨24<(s.size:Int)
 case pos =>
  have HE:Hid (R=false):=hid (by
   rw[<-HR.out];unfold Sd.idL;rw[HLL.out];have:(decide (1<=s.size)&&decide (s.size<=24))=false:=by
    rw[Bool.and_eq_false_iff,decide_eq_false_iff_not,decide_eq_false_iff_not];omega
   rw[this,Bool.false_and])
  obtain rfl:=HE.out;rcases hlen with h|h
  ·go_wp2_with fail
   go_ret;exact⟨rfl,rfl⟩
  ·have h0:¬(s.size:Int)<1:=by omega
   go_wp2_with fail;go_ret;exact⟨rfl,rfl⟩
 have h0:¬(s.size:Int)<1:=by omega
 have h24:¬24<(s.size:Int):=by omega
 have HLN:Hid (1<=s.size/\s.size<=24):=hid (by omega);clear hlen;go_wp2_with fail;go_loopw [3] (λi wr=>∃ k:Nat,k<=s.size/\i=.int .i64 k/\Hid ((s.data.toList.take k).all Sd.idC=true)/\wr=w) (λi _=>s.size - (intOf i).toNat)
 case atStart=>exact⟨0,by omega,rfl,hid rfl,rfl⟩
 case round =>
  obtain⟨k,hk,rfl,HA,rfl⟩:=hrel;by_cases hlt:k<s.size
  case neg =>
   have h1:¬(k:Int)<(s.size:Int):=by omega
   have HE:Hid (R=true):=hid (by
    have h2:=HA.out;rw[yE (by rw[HLL.out];omega)]at h2;rw[<-HR.out];unfold Sd.idL;rw[h2,HLL.out,Bool.and_true,xX,decide_eq_true_eq,decide_eq_true_eq];exact HLN.out)
   obtain rfl:=HE.out;go_wp2_with fail;go_ret;exact⟨rfl,rfl⟩
  have h1:(k:Int)<(s.size:Int):=by omega
  have hi0:(0:Int)<=(k:Int):=by omega
  have hkl:k<s.data.toList.length:=by rw[HLL.out];exact hlt
  obtain⟨c,Hc⟩:∃ c:Nat,Hid ((s.data.toList.getD k 0).toNat=c):=⟨_,hid rfl⟩;have hcg:s.data.toList.getD k 0=s.data.toList[k]:=by rw[yG,yF hkl,Option.getD_some]
  have hby:∀ h,((s[k]'h).toNat)=c:=λh=>by
   rw[<-Hc.out,hcg];rfl
  have hc256:c<256:=by rw[<-Hc.out];exact(s.data.toList.getD k 0).toNat_lt
  have HBAD:Hid (¬((97<=c/\c<=122)∨(48<=c/\c<=57)∨c=95)->R=false):=hid (λh=>by
   rw[<-HR.out];refine Sd.Iu hkl ?_;rw[<-hcg];unfold Sd.idC;rw[Hc.out];simp;omega)
  have HOK:Hid (((97<=c/\c<=122)∨(48<=c/\c<=57)∨c=95)->(s.data.toList.take (k+1)).all Sd.idC=true):=hid (λh=>by
   rw[List.take_succ_eq_append_getElem hkl,List.all_append,HA.out,Bool.true_and,<-hcg];simp only[List.all_cons,List.all_nil,Bool.and_true];unfold Sd.idC;rw[Hc.out];simp;omega)
  clear hcg hkl;go_upto_region 7 with(fail)
  clear hby;by_cases hgood:(97<=c/\c<=122)∨(48<=c/\c<=57)∨c=95
  case neg =>
   obtain rfl:=HBAD.out hgood;go_wp2_with fail;all_goals first
    |(go_ret;exact⟨rfl,rfl⟩)
    |(exfalso;simp only[Bool.not_eq_true',decide_eq_false_iff_not,Bool.not_eq_false',decide_eq_true_eq,beq_iff_eq,xG,bne_iff_ne,bne_eq_false_iff_eq,ne_eq]at *;omega)
  have HNX:=hid (HOK.out hgood);go_wp2_with fail;all_goals first
   | (go_roundw
      case rel=>exact⟨k+1,by omega,by go_num,HNX,by first|rfl|trivial⟩
      case measure=>simp[intOf];omega)
   |(exfalso;simp only[Bool.not_eq_true',decide_eq_false_iff_not,Bool.not_eq_false',decide_eq_true_eq,beq_iff_eq,xG,bne_iff_ne,bne_eq_false_iff_eq,ne_eq]at *;omega)
theorem CP(s:ByteArray)(hs:s.size<=100000)(i:Int)(b:Bool)(w:World):Calls Tryz.prog 153 #[.string s,.int .i64 i,.bool b] w λe w'=>e=.returned (.string (Sd.jF s i b))/\Below w.heap.size w w':=by
 obtain⟨R,HR⟩:∃ R,Hid (Sd.jF s i b=R):=⟨_,hid rfl⟩;rw[HR.out];go_enter Tryz.func153,Tryz.ntmps153;go_wp2_with fail;refine(EI s hs w).mono ?_;obtain⟨B,HB⟩:∃ B,Hid (Sd.idL s.data.toList=B):=⟨_,hid rfl⟩;rw[HB.out];rintro e w1⟨rfl,rfl⟩;by_cases hbad:B=false∨i<0∨8<=i
 case pos =>
  have HE:Hid (R=⟨#[]⟩):=hid (by rw[<-HR.out,Sd.Dj (by rw[HB.out];exact hbad)]);obtain rfl:=HE.out;rcases hbad with rfl|hi|hi
  ·go_wp2_with fail
   go_ret;exact⟨rfl,Below.refl _ _⟩
  ·cases B
   ·go_wp2_with fail
    go_ret;exact⟨rfl,Below.refl _ _⟩
   ·go_wp2_with fail
    go_ret;exact⟨rfl,Below.refl _ _⟩
  ·have hi0:¬i<0:=by omega
   have hi7:7<i:=by omega
   cases B
   ·go_wp2_with fail
    go_ret;exact⟨rfl,Below.refl _ _⟩
   ·go_wp2_with fail
    go_ret;exact⟨rfl,Below.refl _ _⟩
 have hB:B=true:=by
  cases B
  ·exact absurd (.inl rfl) hbad
  ·rfl
 subst hB;have hi0:¬i<0:=by omega
 have hi7:¬7<i:=by omega
 have hsz:s.size<=24:=by
  have h:=HB.out;unfold Sd.idL at h;simp only[xX,decide_eq_true_eq]at h;have:=h.1.2;simpa using this
 go_upto_region 3 with(fail)
 obtain⟨n,rfl⟩:=Int.eq_ofNat_of_zero_le (show 0<=i by omega);have hrun0:=uO n (by omega) w1;obtain⟨c,Hc⟩:∃ c:UInt8,Hid (UInt8.ofNat (48+n)=c):=⟨_,hid rfl⟩;rw[Hc.out]at hrun0;have HE:Hid (((s++⟨#[46]⟩)++⟨#[c]⟩)++⟨#[Sd.way b]⟩=R):=hid (by rw[<-Hc.out,Sd.Iq HB.out (by omega),<-HR.out]);clear hbad;have i0:(0:Int)<=(n:Int):=by omega
 have i1:(n:Int)<=7:=by omega
 cases b
 all_goals
  go_wp2_with fail;go_ret;exact⟨by rw[<-HE.out];rfl,(Below.refl _ _).alloc (xB _) _⟩
