import Derived.Test.YtogijkhenihaaaaGreatDoorGB19
import Derived.Lib.AppendStr
import Derived.Laws.Bits64
import Derived.Laws.BitsAllLaws
import Derived.Laws.BitsLemmas
set_option linter.all false
set_option maxRecDepth 100000
set_option maxHeartbeats 0
namespace Go.Proofs.YtogijkhenihaaaaGreatDoor
open Lib (hid)
open Go.RowKit
section
open Go.BigFrame
namespace Sd
open Id Chk Ev
theorem wZ(x:Sch)(g:ByteArray)(h:dM x g=0):gOf x g=sag x g:=if_pos h
theorem Rw(x:Sch)(g:ByteArray)(h:dM x g=0):pOf x g=(Prn.print x).1:=if_pos h
theorem ny{x:Sch}{g id:ByteArray}{i fr:Int}{E:Nat}(h:letE x g id i fr=E)(hE:E≠0):letter x g id i fr=(Letter.zero,E):=by
 unfold letter;rw[if_pos (by rw[h];exact hE),h]
theorem Di{x:Sch}{g id:ByteArray}{i fr:Int}(h:letE x g id i fr=0):letter x g id i fr=(base x g id i fr,0):=by
 unfold letter;rw[if_neg (by simp[h])]
end Sd
theorem yO(sv:Value)(x:Id.Sch)(hF:Chk.Fine x)(g id:ByteArray)(hIx:id.size<=100000)(i fr:Int)(w:World)(hk:Tk.KW w)(hv:Id.ay w none sv x) :
  Calls Tryz.prog 149 #[sv,.string g,.string id,.int .i64 i,.int .i64 fr] w λe w'=>e=.returned (.tuple #[(Sd.letter x g id i fr).1.val,.int .i64 ((Sd.letter x g id i fr).2:Nat)])/\Below w.heap.size w w':=by
 have hfo:=λW k v=>Ad sv x hF g W k v
 obtain⟨R,HR⟩:∃ R,Hid (Sd.letter x g id i fr=R):=⟨_,hid rfl⟩;rw[HR.out];obtain⟨G,HG⟩:∃ G,Hid (Sd.gOf x g=G):=⟨_,hid rfl⟩;obtain⟨FE,HFE⟩:∃ F,Hid (Sd.dM x g=F):=⟨_,hid rfl⟩;obtain⟨FP,HFP⟩:∃ F,Hid (Sd.pOf x g=F):=⟨_,hid rfl⟩;simp only[HG.out,HFE.out,HFP.out]at hfo;have HFO:=hid hfo;clear hfo;have HKW:=hid hk;have HV:=hid hv;obtain⟨A1,n1,c1,A2,n2,c2,A3,n3,c3,rfl,-,-,-⟩:=hv;clear hk;obtain⟨B,HB⟩:∃ B,Hid (Sd.idL id.data.toList=B):=⟨_,hid rfl⟩;go_enter Tryz.func149,Tryz.ntmps149;go_upto_region 1 with(fail)
 refine aj (λV hV=>?_);have HL:Hid (Chk.Lx w V #[.string x.name,.slice A1 n1 c1,.slice A2 n2 c2,.slice A3 n3 c3]):=hid (by subst hV;exact⟨((Below.refl _ _).alloc (xB _) _).alloc (by simp) _,(Bk.new w _ _).alloc _⟩);have HQ:Hid (Bk V (w.heap.size+1) 56 #[.int .u8 0,.int .i64 0,.int .i64 0,.int .u64 0,.string ⟨#[]⟩,.int .u64 0,.string ⟨#[]⟩,.string ⟨#[]⟩,.int .i64 0,.string ⟨#[]⟩]):=hid (by subst hV;have h:=Bk.new (w.alloc (.cells #[.string x.name,.slice A1 n1 c1,.slice A2 n2 c2,.slice A3 n3 c3] 28)) 56 #[.int .u8 0,.int .i64 0,.int .i64 0,.int .u64 0,.string ⟨#[]⟩,.int .u64 0,.string ⟨#[]⟩,.string ⟨#[]⟩,.int .i64 0,.string ⟨#[]⟩];rw[World.size_alloc]at h;exact h);clear hV;obtain⟨⟨q0,q1,q2,q3⟩,-⟩:=HL.out.box.k4;go_wp2_with fail;refine(HFO.out _ (HKW.out.below HL.out.bel) (Id.ay.below HL.out.bel HV.out)).mono ?_;rintro e W1⟨v,rfl,hb,u,rfl,hu⟩;obtain⟨A6,n6,c6,rfl⟩:=ah.is hu;have HN:Hid (n6=G.steps.length):=hid (by obtain⟨_,_,e,_⟩:=ah.slice hu;injection e);have HM:Hid (n6<=9223372036854775807):=hid (by obtain⟨_,_,e,_,_⟩:=ah.slice hu;injection e;omega);have HB1:=hid (HL.out.below hb).bel;have HQ1:=hid (HQ.out.below hb HQ.out.lt);have HU:Hid (ah W1 none 184 3 Id.dU (.slice A6 n6 c6) G.steps):=hid (ah.mono hu (λ_ _ hr=>hr.weak (λb' e=>by cases e)) (λ_ _ h=>h));clear hb hu q0 q1 q2 q3 HL HQ HFO;go_upto_region 2 with(fail)
 refine aj (λV2 hV=>?_);obtain⟨hbV,hqV,-⟩:=au hV;obtain⟨⟨b0,b1,b2⟩,-⟩:=hqV.k3;have hB:=HB1.out.trans (hbV.mono HB1.out.size);have hQ:=HQ1.out.below hbV HQ1.out.lt;have HU2:=hid (ah.below HU.out hbV Id.dU.kp);clear hV hbV HQ1 HB1 HU;by_cases hf0:FE=0
 case neg =>
  have HE:Hid (R=(Ev.Letter.zero,FE)):=hid (by rw[<-HR.out];exact Sd.ny (by unfold Sd.letE;rw[if_pos (by rw[HFE.out];exact hf0),HFE.out]) hf0);have t1:((FE:Int) != 0)=true:=by rw[bne_iff_ne];omega
  have t2:¬(FE:Int)=0:=by omega
  go_wp2_with(refine wpList_store_row rfl _ _ _ rfl _ _ rfl rfl _ _ hQ (by kernel_rfl) rfl (by simp[Value.oneCell']) ?_);(refine eF rfl _ rfl _ _ _ (hQ.row _) Tryz.underlying56 rfl (by kernel_rfl) rfl ⟨?_,aK hB (by omega) _⟩)
  rw[HE.out];rfl
 subst hf0;go_wp2_with fail;refine(BA id hIx _).mono ?_;rw[HB.out];rintro e w1⟨rfl,hb⟩;have hx:=hB.trans (hb.mono hB.size);clear hB;have hB:=hx;have hx:=hQ.below hb hQ.lt;clear hQ;have hQ:=hx;have HU3:=hid (ah.below HU2.out hb Id.dU.kp);have HQ3:=hid (hqV.below hb hqV.lt);clear hx hb HU2 hqV b0 b1 b2;by_cases hbad:B=false∨fr<0∨4<=fr
 case pos =>
  have HE:Hid (R=(Ev.Letter.zero,1)):=hid (by rw[<-HR.out];exact Sd.ny (by unfold Sd.letE;rw[HFE.out,if_neg (by simp),HB.out,if_pos hbad]) (by decide));rcases hbad with rfl|hi|hi
  ·go_wp2_with(refine wpList_store_row rfl _ _ _ rfl _ _ rfl rfl _ _ hQ (by kernel_rfl) rfl (by simp[Value.oneCell']) ?_)
   (refine eF rfl _ rfl _ _ _ (hQ.row _) Tryz.underlying56 rfl (by kernel_rfl) rfl ⟨?_,aK hB (by omega) _⟩)
   rw[HE.out];rfl
  ·cases B
   all_goals
    go_wp2_with(refine wpList_store_row rfl _ _ _ rfl _ _ rfl rfl _ _ hQ (by kernel_rfl) rfl (by simp[Value.oneCell']) ?_);(refine eF rfl _ rfl _ _ _ (hQ.row _) Tryz.underlying56 rfl (by kernel_rfl) rfl ⟨?_,aK hB (by omega) _⟩)
    rw[HE.out];rfl
  ·have hi0:¬fr<0:=by omega
   cases B
   all_goals
    go_wp2_with(refine wpList_store_row rfl _ _ _ rfl _ _ rfl rfl _ _ hQ (by kernel_rfl) rfl (by simp[Value.oneCell']) ?_);(refine eF rfl _ rfl _ _ _ (hQ.row _) Tryz.underlying56 rfl (by kernel_rfl) rfl ⟨?_,aK hB (by omega) _⟩)
    rw[HE.out];rfl
 have hB1:B=true:=by
  cases B
  ·exact absurd (.inl rfl) hbad
  ·rfl
 subst hB1;have hf0:¬fr<0:=by omega
 have hf4:¬4<=fr:=by omega
 have HNB:=hid hbad;clear hbad;go_upto_region 6 with(fail)
 obtain⟨⟨b0,b1,b2⟩,-⟩:=HQ3.out.k3;by_cases hbad:i<0∨(n6:Int)<=i
 case pos =>
  have HE:Hid (R=(Ev.Letter.zero,241)):=hid (by
   rw[<-HR.out];exact Sd.ny (by unfold Sd.letE;rw[HFE.out,if_neg (by simp),HB.out,if_neg HNB.out,if_pos (by rw[<-Sd.wZ x g HFE.out,HG.out,<-HN.out];exact hbad)]) (by decide))
  rcases hbad with hi|hi
  ·go_wp2_with(refine wpList_store_row rfl _ _ _ rfl _ _ rfl rfl _ _ hQ (by kernel_rfl) rfl (by simp[Value.oneCell']) ?_)
   (refine eF rfl _ rfl _ _ _ (hQ.row _) Tryz.underlying56 rfl (by kernel_rfl) rfl ⟨?_,aK hB (by omega) _⟩)
   rw[HE.out];rfl
  ·by_cases hi0:i<0
   all_goals
    go_wp2_with(refine wpList_store_row rfl _ _ _ rfl _ _ rfl rfl _ _ hQ (by kernel_rfl) rfl (by simp[Value.oneCell']) ?_);(refine eF rfl _ rfl _ _ _ (hQ.row _) Tryz.underlying56 rfl (by kernel_rfl) rfl ⟨?_,aK hB (by omega) _⟩)
    rw[HE.out];rfl
 have hi0:¬i<0:=by omega
 have hin:¬(n6:Int)<=i:=by omega
 have HE:Hid (R=(Sd.base x g id i fr,0)):=hid (by
  rw[<-HR.out];exact Sd.Di (by unfold Sd.letE;rw[HFE.out,if_neg (by simp),HB.out,if_neg HNB.out,if_neg (by rw[<-Sd.wZ x g HFE.out,HG.out,<-HN.out];exact hbad)]))
 go_upto_region 8 with(fail)
 clear hbad;obtain⟨k,rfl⟩:=Int.eq_ofNat_of_zero_le (show 0<=i by omega);have hka:k<G.steps.length:=by rw[<-HN.out];omega
 have k1:(k:Int)<(n6:Int):=by omega
 have k2:k<n6:=by omega
 have hmx:=HM.out;obtain⟨gb,off,cs,rfl,-,he,hc⟩:=ah.get HU3.out hka (by omega);obtain⟨st,Hst⟩:∃ st,Hid (G.steps[k]=st):=⟨_,hid rfl⟩;rw[Hst.out]at he;obtain⟨ss,sm,sa⟩:=st;have hce:cs=[.string ss,.string sm,.int .i64 sa]:=he;subst hce;have a0:=hc 0 _ rfl;have a1:=hc 1 _ rfl;have a2:=hc 2 _ rfl;simp only[xK]at a0;clear he hc;go_upto_region 9 with(fail)
 refine aj (λV3 hV=>?_);obtain⟨hbV,hqV,-⟩:=au hV;have hd:Below V3.heap.size V3 V3.drew:=(Below.refl _ _).drew;have hbd:=hbV.trans (hd.mono hbV.size);have hlt:=hQ.lt;have hS:=And.intro (hB.trans (hbd.mono hB.size)) (And.intro (hQ.below hbd hlt) (hqV.below hd hqV.lt));obtain⟨gS,HgS⟩:∃ n,Hid (w1.heap.size=n):=⟨_,hid rfl⟩;rw[HgS.out]at hS hlt ⊢;clear hbV hqV hV hd hbd a0 a1 a2 b0 b1 b2 hB hQ hx HU3 HQ3;have hkey:=λW=>zu id hIx k false W
 obtain⟨KB,HKB⟩:∃ n,Hid (Sd.jF id k false=n):=⟨_,hid rfl⟩;rw[HKB.out]at hkey;have HKEY:=hid hkey;clear hkey;refine aO (λw'=>Below w.heap.size w w'/\Bk w' (w.heap.size+1) 56 _/\Bk w' gS 184 _) [12] (by kernel_rfl) hS (λhHeld=>?_);(refine aG 0 (v:=?_) rfl (by kernel_rfl) (λ_ _ _ h=>h) (λ_=>by assumption) (by kernel_rfl) ?_ ?_;rotate_left;· (intro w;go_simp;try with_reducible rfl);try simp only[Act.put,xA,xE,xC])
 (refine aG 1 (v:=?_) rfl (by kernel_rfl) (λ_ _ _ h=>h) (λ_=>by assumption) (by kernel_rfl) ?_ ?_;rotate_left;· (intro w;go_simp;try with_reducible rfl);try simp only[Act.put,xA,xE,xC])
 (refine Lst.takeN 12 2 (v:=?_) rfl (by kernel_rfl) (λ_ _ _ h=>h) (by assumption) (by kernel_rfl) ?_ ?_;rotate_left;· (intro w hSw;obtain⟨e0,e1,e2⟩:=(Bk.k3 hSw.2.2).1;go_simp;try with_reducible rfl);try simp only[Act.put,xA,xE,xC])
 (refine aG 3 (v:=?_) rfl (by kernel_rfl) (λ_ _ _ h=>h) (λ_=>by assumption) (by kernel_rfl) ?_ ?_;rotate_left;· (intro w;go_simp;try with_reducible rfl);try simp only[Act.put,xA,xE,xC])
 (refine aG 4 (v:=?_) rfl (by kernel_rfl) (λ_ _ _ h=>h) (λ_=>by assumption) (by kernel_rfl) ?_ ?_;rotate_left;· (intro w;go_simp;try with_reducible rfl);try simp only[Act.put,xA,xE,xC])
 (refine aG 6 (v:=?_) rfl (by kernel_rfl) (λ_ _ _ h=>h) (λ_=>by assumption) (by kernel_rfl) ?_ ?_;rotate_left;· (intro w;go_simp;try with_reducible rfl);try simp only[Act.put,xA,xE,xC])
 (refine aG 7 (v:=?_) rfl (by kernel_rfl) (λ_ _ _ h=>h) (λ_=>by assumption) (by kernel_rfl) ?_ ?_;rotate_left;· (intro w;go_simp;try with_reducible rfl);try simp only[Act.put,xA,xE,xC])
 (refine Lst.takeN 12 8 (v:=?_) rfl (by kernel_rfl) (λ_ _ _ h=>h) (by assumption) (by kernel_rfl) ?_ ?_;rotate_left;· (intro w hSw;obtain⟨e0,e1,e2⟩:=(Bk.k3 hSw.2.2).1;go_simp;try with_reducible rfl);try simp only[Act.put,xA,xE,xC])
 (refine aG 9 (v:=?_) rfl (by kernel_rfl) (λ_ _ _ h=>h) (λ_=>by assumption) (by kernel_rfl) ?_ ?_;rotate_left;· (intro w;go_simp;try with_reducible rfl);try simp only[Act.put,xA,xE,xC])
 (refine Lst.takeN 12 10 (v:=?_) rfl (by kernel_rfl) (λ_ _ _ h=>h) (by assumption) (by kernel_rfl) ?_ ?_;rotate_left;· (intro w hSw;obtain⟨e0,e1,e2⟩:=(Bk.k3 hSw.2.2).1;go_simp;try with_reducible rfl);try simp only[Act.put,xA,xE,xC])
 (refine aB 5 (by kernel_rfl) rfl (λK hK=>?_))
 go_simp;refine(HKEY.out _).mono ?_;rintro e X⟨rfl,hb⟩;have hS2:=And.intro (hS.1.trans (hb.mono hS.1.size)) (And.intro (hS.2.1.below hb hS.2.1.lt) (hS.2.2.below hb hS.2.2.lt));(refine hK.out _ _ (λhnn=>hS2) ?_;clear hK K;try simp only[Act.put,xA,xE,xC])
 (refine aG 11 (v:=?_) rfl (by kernel_rfl) (λ_ _ _ h=>h) (λ_=>by assumption) (by kernel_rfl) ?_ ?_;rotate_left;· (intro w;go_simp;try with_reducible rfl);try simp only[Act.put,xA,xE,xC])
 (refine aB 12 (by kernel_rfl) rfl (λK hK=>?_))
 rw[if_pos (by rfl)];have hB:=hS2.1;have hQ:=hS2.2.1;refine wp_store_row _ _ _ rfl (w.heap.size+1) #[.int .u8 0,.int .i64 fr,.int .i64 sa,.int .u64 0,.string KB,.int .u64 FP,.string ss,.string sm,.int .i64 0,.string ⟨#[]⟩] (by rfl) (by rfl) _ _ hQ (by kernel_rfl) rfl (by simp[Value.oneCell']) ?_;(refine hK.out _ _ (λhnn=>absurd hnn (by decide)) ?_;clear hK K;try simp only[Act.put,xA,xE,xC])
 (refine aB 13 (by kernel_rfl) rfl (λK hK=>?_))
 go_simp;(refine hK.out _ _ (λhnn=>absurd hnn (by decide)) ?_;clear hK K;try simp only[Act.put,xA,xE,xC])
 refine aV (by kernel_rfl) ?_ _;refine NoPanic.normal ?_;have HQF:=hid (hQ.row #[.int .u8 0,.int .i64 fr,.int .i64 sa,.int .u64 0,.string KB,.int .u64 FP,.string ss,.string sm,.int .i64 0,.string ⟨#[]⟩]);have HBF:=hid (aK hB (g:=w.heap.size+1) (by omega) #[.int .u8 0,.int .i64 fr,.int .i64 sa,.int .u64 0,.string KB,.int .u64 FP,.string ss,.string sm,.int .i64 0,.string ⟨#[]⟩]);clear hHeld hS hS2 hB hQ hb;go_wp2_with fail;refine eF rfl _ rfl _ _ _ HQF.out Tryz.underlying56 rfl (by kernel_rfl) rfl ⟨?_,HBF.out⟩;have HB2:Hid ((Sd.base x g id k fr).val=.agg #[.int .u8 0,.int .i64 fr,.int .i64 sa,.int .u64 0,.string KB,.int .u64 FP,.string ss,.string sm,.int .i64 0,.string ⟨#[]⟩]):=hid (by
  have hst:Sd.stp x g (k:Int)=⟨ss,sm,sa⟩:=by
   unfold Sd.stp;rw[<-Sd.wZ x g HFE.out,HG.out,Int.toNat_natCast,yG,yF hka,Option.getD_some,Hst.out]
  have hp:(Prn.print x).1=FP:=by rw[<-Sd.Rw x g HFE.out,HFP.out]
  unfold Sd.base Ev.Letter.val;rw[hst,hp,HKB.out];rfl)
 rw[HE.out];simp only;rw[HB2.out];rfl
namespace Sd
open Id Chk Ev
theorem Ny{x:Sch}{g id:ByteArray}{i fr:Int}:cancel x g id i fr=if(letter x g id i fr).2=0 then({ (letter x g id i fr).1 with kind:=3 },0)else letter x g id i fr:=by
 unfold cancel letter;by_cases h:letE x g id i fr=0
 ·simp[h]
 ·rw[if_pos h,if_pos h,if_neg h]
theorem I4{x:Sch}{g id:ByteArray}{i fr:Int}{back:Bool}{body:ByteArray}:call x g id i back fr body =
  if(letter x g id i fr).2≠0 then(Letter.zero,(letter x g id i fr).2)
  else if back=false then({ (letter x g id i fr).1 with kind:=1,body:=body },0)
  else if(jh x (letter x g id i fr).1).toList.isEmpty=true then(Letter.zero,133)
  else({ (letter x g id i fr).1 with kind:=1,body:=body,mth:=jh x (letter x g id i fr).1,key:=jF id i true },0):=by
 unfold call letter;by_cases h:letE x g id i fr=0
 ·simp[h]
 ·simp[h]
end Sd
theorem SH(sv:Value)(x:Id.Sch)(hF:Chk.Fine x)(g id:ByteArray)(hIx:id.size<=100000)(i fr:Int)(w:World)(hk:Tk.KW w)(hv:Id.ay w none sv x) :
  Calls Tryz.prog 80 #[sv,.string g,.string id,.int .i64 i,.int .i64 fr] w λe w'=>e=.returned (.tuple #[(Sd.cancel x g id i fr).1.val,.int .i64 ((Sd.cancel x g id i fr).2:Nat)])/\Below w.heap.size w w':=by
 have hlo:=λW k v=>yO sv x hF g id hIx i fr W k v
 obtain⟨R,HR⟩:∃ R,Hid (Sd.cancel x g id i fr=R):=⟨_,hid rfl⟩;rw[HR.out];rw[Sd.Ny]at HR;obtain⟨⟨⟨k0,k1,k2,k3,k4,k5,k6,k7,k8,k9⟩,E⟩,HG⟩:∃ G,Hid (Sd.letter x g id i fr=G):=⟨_,hid rfl⟩;rw[HG.out]at HR;simp only[HG.out,Ev.Letter.val]at hlo;have HFO:=hid hlo;clear hlo;have HKW:=hid hk;have HV:=hid hv;obtain⟨A1,n1,c1,A2,n2,c2,A3,n3,c3,rfl,-,-,-⟩:=hv;clear hk;go_enter Tryz.func80,Tryz.ntmps80;go_upto_region 1 with(fail)
 refine aj (λV hV=>?_);have HL:Hid (Chk.Lx w V #[.string x.name,.slice A1 n1 c1,.slice A2 n2 c2,.slice A3 n3 c3]):=hid (by subst hV;exact⟨((Below.refl _ _).alloc (xB _) _).alloc (by simp) _,(Bk.new w _ _).alloc _⟩);have HQ:Hid (Bk V (w.heap.size+1) 56 #[.int .u8 0,.int .i64 0,.int .i64 0,.int .u64 0,.string ⟨#[]⟩,.int .u64 0,.string ⟨#[]⟩,.string ⟨#[]⟩,.int .i64 0,.string ⟨#[]⟩]):=hid (by subst hV;have h:=Bk.new (w.alloc (.cells #[.string x.name,.slice A1 n1 c1,.slice A2 n2 c2,.slice A3 n3 c3] 28)) 56 #[.int .u8 0,.int .i64 0,.int .i64 0,.int .u64 0,.string ⟨#[]⟩,.int .u64 0,.string ⟨#[]⟩,.string ⟨#[]⟩,.int .i64 0,.string ⟨#[]⟩];rw[World.size_alloc]at h;exact h);clear hV;obtain⟨⟨q0,q1,q2,q3⟩,-⟩:=HL.out.box.k4;go_wp2_with fail;refine(HFO.out _ (HKW.out.below HL.out.bel) (Id.ay.below HL.out.bel HV.out)).mono ?_;rintro e W1⟨rfl,hb⟩;have HB1:=hid (HL.out.below hb).bel;have HQ1:=hid (HQ.out.below hb HQ.out.lt);clear hb q0 q1 q2 q3 HL HQ HFO;go_upto_region 2 with(fail)
 refine aj (λV2 hV=>?_);obtain⟨hbV,hL,-⟩:=au hV;have hB:=HB1.out.trans (hbV.mono HB1.out.size);have hQ:=HQ1.out.below hbV HQ1.out.lt;have hlt:=HQ1.out.lt;clear hV hbV HQ1 HB1;obtain⟨gL,HgL⟩:∃ n,Hid (W1.heap.size=n):=⟨_,hid rfl⟩;rw[HgL.out]at hL hlt ⊢;by_cases hE:E=0
 case neg =>
  have HE:Hid (R=(⟨k0,k1,k2,k3,k4,k5,k6,k7,k8,k9⟩,E)):=hid (by rw[<-HR.out,if_neg hE]);have t1:((E:Int)==0)=false:=by rw[xG];omega
  have t2:¬(E:Int)=0:=by omega
  go_wp2_with(first|(refine wpList_load_row rfl _ _ rfl _ rfl _ _ _ _ hL Tryz.underlying56 rfl (by kernel_rfl) ?_)|(refine wpList_store_row rfl _ _ _ rfl _ _ rfl rfl _ _ hQ (by kernel_rfl) rfl (by simp[Value.oneCell']) ?_));(refine eF rfl _ rfl _ _ _ (hQ.row _) Tryz.underlying56 rfl (by kernel_rfl) rfl ⟨?_,aK hB (by omega) _⟩)
  rw[HE.out];rfl
 subst hE;have HE:Hid (R=(⟨3,k1,k2,k3,k4,k5,k6,k7,k8,k9⟩,0)):=hid (by rw[<-HR.out,if_pos rfl]);go_upto_region 3 with(fail)
 have fL:=hL.frozen 0;have cL:=hL.cell 0;simp only[List.getElem?_toArray,List.getElem?_cons_zero]at cL;go_upto_region 4 with(fail)
 refine aj (λV3 hV=>?_);have hx:Bk V3 gL 56 #[.int .u8 3,.int .i64 k1,.int .i64 k2,.int .u64 k3,.string k4,.int .u64 k5,.string k6,.string k7,.int .i64 k8,.string k9]:=by rw[hV];exact hL.aA 0 _
 have hy:Bk V3 (w.heap.size+1) 56 #[.int .u8 0,.int .i64 0,.int .i64 0,.int .u64 0,.string ⟨#[]⟩,.int .u64 0,.string ⟨#[]⟩,.string ⟨#[]⟩,.int .i64 0,.string ⟨#[]⟩]:=by rw[hV];exact hQ.far (p:=⟨gL,0,none⟩) (by show w.heap.size+1≠gL;omega) _
 have hz:Below w.heap.size w V3:=by rw[hV];exact hB.setCell (p:=⟨gL,0,none⟩) (by show w.heap.size<=gL;omega) _
 clear hL hQ hB hV cL fL;have hL:=hx;have hQ:=hy;have hB:=hz;clear hx hy hz;go_wp2_with(first|(refine wpList_load_row rfl _ _ rfl _ rfl _ _ _ _ hL Tryz.underlying56 rfl (by kernel_rfl) ?_)|(refine wpList_store_row rfl _ _ _ rfl _ _ rfl rfl _ _ hQ (by kernel_rfl) rfl (by simp[Value.oneCell']) ?_));(refine eF rfl _ rfl _ _ _ (hQ.row _) Tryz.underlying56 rfl (by kernel_rfl) rfl ⟨?_,aK hB (by omega) _⟩)
 rw[HE.out];rfl
theorem tH(sv:Value)(x:Id.Sch)(hF:Chk.Fine x)(g id:ByteArray)(hIx:id.size<=100000)(i:Int)(back:Bool)(fr:Int)(body:ByteArray)(w:World)(hk:Tk.KW w)(hv:Id.ay w none sv x) :
  Calls Tryz.prog 71 #[sv,.string g,.string id,.int .i64 i,.bool back,.int .i64 fr,.string body] w λe w'=>e=.returned (.tuple #[(Sd.call x g id i back fr body).1.val,.int .i64 ((Sd.call x g id i back fr body).2:Nat)])/\Below w.heap.size w w':=by
 have hlo:=λW k v=>yO sv x hF g id hIx i fr W k v
 obtain⟨R,HR⟩:∃ R,Hid (Sd.call x g id i back fr body=R):=⟨_,hid rfl⟩;rw[HR.out];rw[Sd.I4]at HR;obtain⟨⟨⟨k0,k1,k2,k3,k4,k5,k6,k7,k8,k9⟩,E⟩,HG⟩:∃ G,Hid (Sd.letter x g id i fr=G):=⟨_,hid rfl⟩;rw[HG.out]at HR;simp only at HR;simp only[HG.out,Ev.Letter.val]at hlo;have HFO:=hid hlo;clear hlo;have HKW:=hid hk;have HV:=hid hv;obtain⟨A1,n1,c1,A2,n2,c2,A3,n3,c3,rfl,-,-,-⟩:=hv;clear hk;go_enter Tryz.func71,Tryz.ntmps71;go_upto_region 1 with(fail)
 refine aj (λV hV=>?_);have HL:Hid (Chk.Lx w V #[.string x.name,.slice A1 n1 c1,.slice A2 n2 c2,.slice A3 n3 c3]):=hid (by subst hV;exact⟨((Below.refl _ _).alloc (xB _) _).alloc (by simp) _,(Bk.new w _ _).alloc _⟩);have HQ:Hid (Bk V (w.heap.size+1) 56 #[.int .u8 0,.int .i64 0,.int .i64 0,.int .u64 0,.string ⟨#[]⟩,.int .u64 0,.string ⟨#[]⟩,.string ⟨#[]⟩,.int .i64 0,.string ⟨#[]⟩]):=hid (by subst hV;have h:=Bk.new (w.alloc (.cells #[.string x.name,.slice A1 n1 c1,.slice A2 n2 c2,.slice A3 n3 c3] 28)) 56 #[.int .u8 0,.int .i64 0,.int .i64 0,.int .u64 0,.string ⟨#[]⟩,.int .u64 0,.string ⟨#[]⟩,.string ⟨#[]⟩,.int .i64 0,.string ⟨#[]⟩];rw[World.size_alloc]at h;exact h);clear hV;obtain⟨⟨q0,q1,q2,q3⟩,-⟩:=HL.out.box.k4;go_wp2_with fail;refine(HFO.out _ (HKW.out.below HL.out.bel) (Id.ay.below HL.out.bel HV.out)).mono ?_;rintro e W1⟨rfl,hb⟩;have HL1:=hid (HL.out.below hb);have HQ1:=hid (HQ.out.below hb HQ.out.lt);clear hb q0 q1 q2 q3 HL HQ HFO;go_upto_region 2 with(fail)
 refine aj (λV2 hV=>?_);obtain⟨hbV,hL,-⟩:=au hV;have HL:=hid (HL1.out.below hbV);have hB:=HL.out.bel;have hQ:=HQ1.out.below hbV HQ1.out.lt;have hlt:=HQ1.out.lt;clear hV hbV HQ1 HL1;obtain⟨gL,HgL⟩:∃ n,Hid (W1.heap.size=n):=⟨_,hid rfl⟩;rw[HgL.out]at hL hlt ⊢;by_cases hE:E=0
 case neg =>
  have HE:Hid (R=(Ev.Letter.zero,E)):=hid (by rw[<-HR.out,if_pos hE]);have t1:((E:Int) != 0)=true:=by rw[bne_iff_ne];omega
  have t2:¬(E:Int)=0:=by omega
  go_wp2_with(refine wpList_store_row rfl _ _ _ rfl _ _ rfl rfl _ _ hQ (by kernel_rfl) rfl (by simp[Value.oneCell']) ?_);(refine eF rfl _ rfl _ _ _ (hQ.row _) Tryz.underlying56 rfl (by kernel_rfl) rfl ⟨?_,aK hB (by omega) _⟩)
  rw[HE.out];rfl
 subst hE;rw[if_neg (by simp)]at HR;go_upto_region 4 with(fail)
 have fL:=hL.frozen 0;have cL:=hL.cell 0;have fL9:=hL.frozen 9;have cL9:=hL.cell 9;simp only[List.getElem?_toArray,List.getElem?_cons_zero,List.getElem?_cons_succ]at cL cL9;go_upto_region 5 with(fail)
 refine aj (λV3 hV=>?_);have hx:Bk V3 gL 56 #[.int .u8 1,.int .i64 k1,.int .i64 k2,.int .u64 k3,.string k4,.int .u64 k5,.string k6,.string k7,.int .i64 k8,.string body]:=by rw[hV];exact(hL.aA 0 _).aA 9 _
 have hy:Bk V3 (w.heap.size+1) 56 #[.int .u8 0,.int .i64 0,.int .i64 0,.int .u64 0,.string ⟨#[]⟩,.int .u64 0,.string ⟨#[]⟩,.string ⟨#[]⟩,.int .i64 0,.string ⟨#[]⟩]:=by rw[hV];exact(hQ.far (p:=⟨gL,0,none⟩) (by show w.heap.size+1≠gL;omega) _).far (p:=⟨gL,9,none⟩) (by show w.heap.size+1≠gL;omega) _
 have hz:Chk.Lx w V3 #[.string x.name,.slice A1 n1 c1,.slice A2 n2 c2,.slice A3 n3 c3]:=by rw[hV];exact⟨(hB.setCell (p:=⟨gL,0,none⟩) (by show w.heap.size<=gL;omega) _).setCell (p:=⟨gL,9,none⟩) (by show w.heap.size<=gL;omega) _,(HL.out.box.far (p:=⟨gL,0,none⟩) (by show w.heap.size≠gL;omega) _).far (p:=⟨gL,9,none⟩) (by show w.heap.size≠gL;omega) _⟩
 clear hL hQ hB hV cL fL cL9 fL9 HL;have hL:=hx;have hQ:=hy;have HL:=hid hz;clear hx hy hz;cases back with
 |false =>
  have HE:Hid (R=(⟨1,k1,k2,k3,k4,k5,k6,k7,k8,body⟩,0)):=hid (by rw[<-HR.out,if_pos rfl]);have hB:=HL.out.bel;go_wp2_with(first|(refine wpList_load_row rfl _ _ rfl _ rfl _ _ _ _ hL Tryz.underlying56 rfl (by kernel_rfl) ?_)|(refine wpList_store_row rfl _ _ _ rfl _ _ rfl rfl _ _ hQ (by kernel_rfl) rfl (by simp[Value.oneCell']) ?_));(refine eF rfl _ rfl _ _ _ (hQ.row _) Tryz.underlying56 rfl (by kernel_rfl) rfl ⟨?_,aK hB (by omega) _⟩)
  rw[HE.out];rfl
 |true =>
  rw[if_neg (by simp)]at HR;go_upto_region 6 with(fail)
  obtain⟨⟨q0,q1,q2,q3⟩,-⟩:=HL.out.box.k4;have cL6:=hL.cell 6;have cL7:=hL.cell 7;simp only[List.getElem?_toArray,List.getElem?_cons_zero,List.getElem?_cons_succ]at cL6 cL7;go_wp2_with fail;refine(qx _ x k6 k7 _ (Id.ay.below HL.out.bel HV.out)).mono ?_;obtain⟨⟨m0,m1,m2,m3,u⟩,HM⟩:∃ G,Hid ((Chk.meth x k6 k7).getD Chk.oz=G):=⟨_,hid rfl⟩;have HU:Hid (Sd.jh x ⟨k0,k1,k2,k3,k4,k5,k6,k7,k8,k9⟩=u):=hid (by unfold Sd.jh;rw[HM.out]);rw[HU.out]at HR;rw[HM.out];rintro e W4⟨rfl,hb⟩;unfold Chk.rV;have HL4:=hid (HL.out.below hb);have hL4:=hL.below hb hL.lt;have hQ4:=hQ.below hb hQ.lt;clear hb q0 q1 q2 q3 cL6 cL7 hL hQ HL;go_upto_region 7 with(fail)
  refine aj (λV5 hV=>?_);obtain⟨hbV,hM,-⟩:=au hV;have hB:=HL4.out.bel.trans (hbV.mono HL4.out.bel.size);have hQ:=hQ4.below hbV hQ4.lt;have hL:=hL4.below hbV hL4.lt;have hlt4:=hL4.lt;clear hV hbV HL4 hQ4 hL4;obtain⟨gM,HgM⟩:∃ n,Hid (W4.heap.size=n):=⟨_,hid rfl⟩;rw[HgM.out]at hM hlt4 ⊢;have cM:=hM.cell 4;simp only[List.getElem?_toArray,List.getElem?_cons_zero,List.getElem?_cons_succ]at cM;by_cases hu:u.toList.isEmpty=true
  case pos =>
   have HE:Hid (R=(Ev.Letter.zero,133)):=hid (by rw[<-HR.out,if_pos hu]);go_wp2_with(refine wpList_store_row rfl _ _ _ rfl _ _ rfl rfl _ _ hQ (by kernel_rfl) rfl (by simp[Value.oneCell']) ?_);(refine eF rfl _ rfl _ _ _ (hQ.row _) Tryz.underlying56 rfl (by kernel_rfl) rfl ⟨?_,aK hB (by omega) _⟩)
   rw[HE.out];rfl
  have HE:Hid (R=(⟨1,k1,k2,k3,Sd.jF id i true,k5,k6,u,k8,body⟩,0)):=hid (by rw[<-HR.out,if_neg hu]);have hu:u.toList.isEmpty=false:=by simpa using hu
  go_upto_region 9 with(fail)
  have hd:Below V5.heap.size V5 V5.drew:=(Below.refl _ _).drew;have hS:=And.intro (hB.trans (hd.mono hB.size)) (And.intro (hQ.below hd hQ.lt) (And.intro (hL.below hd hL.lt) (hM.below hd hM.lt)));have hkey:=λW=>zu id hIx i true W
  obtain⟨KB,HKB⟩:∃ n,Hid (Sd.jF id i true=n):=⟨_,hid rfl⟩;rw[HKB.out]at hkey HE;have HKEY:=hid hkey;clear hkey hd hB hQ hL hM cM;refine aO (λw'=>Below w.heap.size w w'/\Bk w' (w.heap.size+1) 56 _/\Bk w' gL 56 _/\Bk w' gM 180 _) [6] (by kernel_rfl) hS (λhHeld=>?_);(refine aG 0 (v:=?_) rfl (by kernel_rfl) (λ_ _ _ h=>h) (λ_=>by assumption) (by kernel_rfl) ?_ ?_;rotate_left;· (intro w;go_simp;try with_reducible rfl);try simp only[Act.put,xA,xE,xC])
  (refine Lst.takeN 6 1 (v:=?_) rfl (by kernel_rfl) (λ_ _ _ h=>h) (by assumption) (by kernel_rfl) ?_ ?_;rotate_left;· (intro w hSw;have e4:=hSw.2.2.2.cell 4;simp only[List.getElem?_toArray,List.getElem?_cons_zero,List.getElem?_cons_succ]at e4;go_simp;try with_reducible rfl);try simp only[Act.put,xA,xE,xC])
  (refine aG 2 (v:=?_) rfl (by kernel_rfl) (λ_ _ _ h=>h) (λ_=>by assumption) (by kernel_rfl) ?_ ?_;rotate_left;· (intro w;go_simp;try with_reducible rfl);try simp only[Act.put,xA,xE,xC])
  (refine aG 3 (v:=?_) rfl (by kernel_rfl) (λ_ _ _ h=>h) (λ_=>by assumption) (by kernel_rfl) ?_ ?_;rotate_left;· (intro w;go_simp;try with_reducible rfl);try simp only[Act.put,xA,xE,xC])
  (refine aG 5 (v:=?_) rfl (by kernel_rfl) (λ_ _ _ h=>h) (λ_=>by assumption) (by kernel_rfl) ?_ ?_;rotate_left;· (intro w;go_simp;try with_reducible rfl);try simp only[Act.put,xA,xE,xC])
  (refine aB 4 (by kernel_rfl) rfl (λK hK=>?_))
  go_simp;refine(HKEY.out _).mono ?_;rintro e X⟨rfl,hb⟩;have hS2:=And.intro (hS.1.trans (hb.mono hS.1.size)) (And.intro (hS.2.1.below hb hS.2.1.lt) (And.intro (hS.2.2.1.below hb hS.2.2.1.lt) (hS.2.2.2.below hb hS.2.2.2.lt)));(refine hK.out _ _ (λhnn=>hS2) ?_;clear hK K;try simp only[Act.put,xA,xE,xC])
  obtain⟨hB,hQ,hL,-⟩:=hS2;have fL7:=hL.frozen 7;have cL7:=hL.cell 7;have fL4:=hL.frozen 4;have cL4:=hL.cell 4;simp only[List.getElem?_toArray,List.getElem?_cons_zero,List.getElem?_cons_succ]at cL7 cL4;(refine aB 6 (by kernel_rfl) rfl (λK hK=>?_))
  go_simp;(refine hK.out _ _ (λhnn=>absurd hnn (by decide)) ?_;clear hK K;try simp only[Act.put,xA,xE,xC])
  (refine aB 7 (by kernel_rfl) rfl (λK hK=>?_))
  go_simp;(refine hK.out _ _ (λhnn=>absurd hnn (by decide)) ?_;clear hK K;try simp only[Act.put,xA,xE,xC])
  (refine aB 8 (by kernel_rfl) rfl (λK hK=>?_))
  go_simp;(refine hK.out _ _ (λhnn=>absurd hnn (by decide)) ?_;clear hK K;try simp only[Act.put,xA,xE,xC])
  refine aV (by kernel_rfl) ?_ _;refine NoPanic.normal ?_;have hx:Bk ((X.setCell ⟨gL,7,none⟩ (.string u)).setCell ⟨gL,4,none⟩ (.string KB)) gL 56 #[.int .u8 1,.int .i64 k1,.int .i64 k2,.int .u64 k3,.string KB,.int .u64 k5,.string k6,.string u,.int .i64 k8,.string body]:=(hL.aA 7 _).aA 4 _;have hy:=(hQ.far (p:=⟨gL,7,none⟩) (by show w.heap.size+1≠gL;omega) (.string u)).far (p:=⟨gL,4,none⟩) (by show w.heap.size+1≠gL;omega) (.string KB);have hz:=(hB.setCell (p:=⟨gL,7,none⟩) (by show w.heap.size<=gL;omega) (.string u)).setCell (p:=⟨gL,4,none⟩) (by show w.heap.size<=gL;omega) (.string KB);clear hL hQ hB fL7 cL7 fL4 cL4 hS hHeld hb;have hL:=hx;have hQ:=hy;have hB:=hz;clear hx hy hz;generalize(X.setCell ⟨gL,7,none⟩ (.string u)).setCell ⟨gL,4,none⟩ (.string KB)=X2 at *;go_wp2_with(first|(refine wpList_load_row rfl _ _ rfl _ rfl _ _ _ _ hL Tryz.underlying56 rfl (by kernel_rfl) ?_)|(refine wpList_store_row rfl _ _ _ rfl _ _ rfl rfl _ _ hQ (by kernel_rfl) rfl (by simp[Value.oneCell']) ?_));(refine eF rfl _ rfl _ _ _ (hQ.row _) Tryz.underlying56 rfl (by kernel_rfl) rfl ⟨?_,aK hB (by omega) _⟩)
  rw[HE.out];rfl
end
namespace Ev
end Ev
