import Derived.Test.YtogijkhenihaaaaGreatDoorGB20
import Derived.Test.YtogijkhenihaaaaGreatDoorGB32
set_option linter.all false
set_option maxRecDepth 100000
set_option maxHeartbeats 0
namespace Go.Proofs.YtogijkhenihaaaaGreatDoor
open Lib (hid)
open Go.BigFrame Go.RowKit
namespace Sd
open Id Chk Ev
theorem Ce{x:Sch}{g:ByteArray}{E:Nat}(h:dM x g=E)(hE:E≠0):steps x g=(0,E):=by
 unfold steps;rw[if_pos (by rw[h];exact hE),h]
theorem Eu{x:Sch}{g:ByteArray}(h:dM x g=0):steps x g=((sag x g).steps.length,0):=by
 unfold steps;rw[if_neg (by simp[h])]
theorem GH{x:Sch}{g:ByteArray}{p pe:Nat}(h:Prn.print x=(p,pe))(hE:pe≠0):dM x g=pe:=by
 unfold dM;rw[h,if_pos hE]
theorem JE{x:Sch}{g:ByteArray}{p:Nat}(h:Prn.print x=(p,0))(hE:(gq x g).isSome=false):dM x g=240:=by
 unfold dM;rw[h,if_neg (by simp),if_neg (by rw[hE];simp)]
theorem JD{x:Sch}{g:ByteArray}{p:Nat}(h:Prn.print x=(p,0))(hE:(gq x g).isSome=true):dM x g=0:=by
 unfold dM;rw[h,if_neg (by simp),if_pos hE]
end Sd
theorem Gl(sv:Value)(x:Id.Sch)(hF:Chk.Fine x)(g:ByteArray)(w:World)(hv:Id.ay w none sv x) :
  Calls Tryz.prog 188 #[sv,.string g] w λe w'=>e=.returned (.tuple #[.int .i64 ((Sd.steps x g).1:Nat),.int .i64 ((Sd.steps x g).2:Nat)])/\Below w.heap.size w w':=by
 obtain⟨R,HR⟩:∃ R,Hid (Sd.steps x g=R):=⟨_,hid rfl⟩;rw[HR.out];obtain⟨⟨p,pe⟩,HP⟩:∃ q,Hid (Prn.print x=q):=⟨_,hid rfl⟩;have HV:=hid hv;obtain⟨A1,n1,c1,A2,n2,c2,A3,n3,c3,rfl,-,-,-⟩:=hv;go_enter Tryz.func188,Tryz.ntmps188;go_upto_region 1 with(fail)
 refine aj (λV hV=>?_);have HL:Hid (Chk.Lx w V #[.string x.name,.slice A1 n1 c1,.slice A2 n2 c2,.slice A3 n3 c3]):=hid (by subst hV;exact⟨(Below.refl _ _).alloc (xB _) _,Bk.new w _ _⟩);clear hV;obtain⟨⟨q0,q1,q2,q3⟩,-⟩:=HL.out.box.k4;go_wp2_with fail;refine(Ak _ x hF _ (Id.ay.below HL.out.bel HV.out)).mono ?_;rw[HP.out];rintro e W1⟨rfl,hb⟩;have HL1:=hid (HL.out.below hb);clear hb q0 q1 q2 q3 HL;by_cases hpe:pe=0
 case neg =>
  have HE:Hid (R=(0,pe)):=hid (by rw[<-HR.out,Sd.Ce (Sd.GH HP.out hpe) hpe]);obtain rfl:=HE.out;have t1:((pe:Int) != 0)=true:=by rw[bne_iff_ne];omega
  have t2:¬(pe:Int)=0:=by omega
  go_wp2_with fail;refine bodyPost_ret (results_tmp2 rfl _ _ _) rfl ⟨rfl,HL1.out.bel⟩
 subst hpe;obtain⟨⟨q0,q1,q2,q3⟩,-⟩:=HL1.out.box.k4;go_wp2_with fail;refine(wK _ x g _ (Id.ay.below HL1.out.bel HV.out)).mono ?_;rintro e W2⟨u,rfl,hb,hu⟩;obtain⟨gb,Hgb⟩:∃ gb,Hid ((Chk.gq x g).isSome=gb):=⟨_,hid rfl⟩;rw[Hgb.out];have HSG:Hid (Sd.sag x g=(Chk.gq x g).getD Chk.oq):=hid rfl;obtain⟨G,HG⟩:∃ G,Hid ((Chk.gq x g).getD Chk.oq=G):=⟨_,hid rfl⟩;rw[HG.out]at hu HSG;obtain⟨u2,rfl,hu2⟩:=hu;obtain⟨A6,n6,c6,rfl⟩:=ah.is hu2;have HN:Hid (n6=G.steps.length):=hid (by obtain⟨_,_,e,_⟩:=ah.slice hu2;injection e);have HB:=hid (HL1.out.below hb).bel;clear hb hu2 q0 q1 q2 q3 HL1;go_upto_region 5 with(fail)
 refine aj (λV2 hV=>?_);obtain⟨hbV,hqV,-⟩:=au hV;obtain⟨⟨b0,b1,b2⟩,-⟩:=hqV.k3;have HB2:=hid (HB.out.trans (hbV.mono HB.out.size));clear hV hbV hqV;cases gb
 ·have HE:Hid (R=(0,240)):=hid (by rw[<-HR.out,Sd.Ce (Sd.JE HP.out Hgb.out) (by decide)])
  obtain rfl:=HE.out;go_wp2_with fail;refine bodyPost_ret (results_tmp2 rfl _ _ _) rfl ⟨rfl,HB2.out⟩
 ·have HE:Hid (R=(n6,0)):=hid (by rw[<-HR.out,Sd.Eu (Sd.JD HP.out Hgb.out),HSG.out,HN.out])
  obtain rfl:=HE.out;go_wp2_with fail;refine bodyPost_ret (results_tmp2 rfl _ _ _) rfl ⟨rfl,HB2.out⟩
theorem LD(sv:Value)(x:Id.Sch)(hF:Chk.Fine x)(g id:ByteArray)(hIx:id.size<=100000)(i fr:Int)(w:World)(hv:Id.ay w none sv x) :
  Calls Tryz.prog 151 #[sv,.string g,.string id,.int .i64 i,.int .i64 fr] w λe w'=>e=.returned (.tuple #[(Sd.letter x g id i fr).1.val,.int .i64 ((Sd.letter x g id i fr).2:Nat)])/\Below w.heap.size w w':=by
 have HST:=hid (λW v=>Gl sv x hF g W v);obtain⟨R,HR⟩:∃ R,Hid (Sd.letter x g id i fr=R):=⟨_,hid rfl⟩;rw[HR.out];obtain⟨FE,HFE⟩:∃ F,Hid (Sd.dM x g=F):=⟨_,hid rfl⟩;have HV:=hid hv;obtain⟨A1,n1,c1,A2,n2,c2,A3,n3,c3,rfl,-,-,-⟩:=hv;obtain⟨B,HB⟩:∃ B,Hid (Sd.idL id.data.toList=B):=⟨_,hid rfl⟩;go_enter Tryz.func151,Tryz.ntmps151;go_upto_region 1 with(fail)
 refine aj (λV hV=>?_);have HL:Hid (Chk.Lx w V #[.string x.name,.slice A1 n1 c1,.slice A2 n2 c2,.slice A3 n3 c3]):=hid (by subst hV;exact⟨((Below.refl _ _).alloc (xB _) _).alloc (by simp) _,(Bk.new w _ _).alloc _⟩);have HQ:Hid (Bk V (w.heap.size+1) 56 #[.int .u8 0,.int .i64 0,.int .i64 0,.int .u64 0,.string ⟨#[]⟩,.int .u64 0,.string ⟨#[]⟩,.string ⟨#[]⟩,.int .i64 0,.string ⟨#[]⟩]):=hid (by subst hV;have h:=Bk.new (w.alloc (.cells #[.string x.name,.slice A1 n1 c1,.slice A2 n2 c2,.slice A3 n3 c3] 28)) 56 #[.int .u8 0,.int .i64 0,.int .i64 0,.int .u64 0,.string ⟨#[]⟩,.int .u64 0,.string ⟨#[]⟩,.string ⟨#[]⟩,.int .i64 0,.string ⟨#[]⟩];rw[World.size_alloc]at h;exact h);clear hV;obtain⟨⟨q0,q1,q2,q3⟩,-⟩:=HL.out.box.k4;go_wp2_with fail;refine(HST.out _ (Id.ay.below HL.out.bel HV.out)).mono ?_;obtain⟨⟨sn,se⟩,HS⟩:∃ S,Hid (Sd.steps x g=S):=⟨_,hid rfl⟩;have HSE:Hid (se=FE):=hid (by rw[<-HFE.out,<-Sd.Cc,HS.out]);rw[HS.out];obtain rfl:=HSE.out;rintro e W1⟨rfl,hb⟩;have HL1:=hid (HL.out.below hb);have hQ:=HQ.out.below hb HQ.out.lt;have hB:=HL1.out.bel;clear hb q0 q1 q2 q3 HL HQ;by_cases hf0:se=0
 case neg =>
  have HE:Hid (R=(Ev.Letter.zero,se)):=hid (by rw[<-HR.out];exact Sd.ny (by unfold Sd.letE;rw[if_pos (by rw[HFE.out];exact hf0),HFE.out]) hf0);have t1:((se:Int) != 0)=true:=by rw[bne_iff_ne];omega
  have t2:¬(se:Int)=0:=by omega
  go_wp2_with(refine wpList_store_row rfl _ _ _ rfl _ _ rfl rfl _ _ hQ (by kernel_rfl) rfl (by simp[Value.oneCell']) ?_);(refine eF rfl _ rfl _ _ _ (hQ.row _) Tryz.underlying56 rfl (by kernel_rfl) rfl ⟨?_,aK hB (by omega) _⟩)
  rw[HE.out];rfl
 subst hf0;have HSN:Hid (sn=(Sd.sag x g).steps.length):=hid (by have h:=HS.out;rw[Sd.Eu HFE.out]at h;injection h with h;exact h.symm);go_wp2_with fail;refine(EI id hIx _).mono ?_;rw[HB.out];rintro e w1⟨rfl,rfl⟩;by_cases hbad:B=false∨fr<0∨4<=fr
 case pos =>
  have HE:Hid (R=(Ev.Letter.zero,1)):=hid (by rw[<-HR.out];exact Sd.ny (by unfold Sd.letE;rw[HFE.out,if_neg (by simp),HB.out,if_pos hbad]) (by decide));rcases hbad with rfl|hi|hi
  ·go_wp2_with(refine wpList_store_row rfl _ _ _ rfl _ _ rfl rfl _ _ hQ (by kernel_rfl) rfl (by simp[Value.oneCell']) ?_)
   (refine eF rfl _ rfl _ _ _ (hQ.row _) Tryz.underlying56 rfl (by kernel_rfl) rfl ⟨?_,aK hB (by omega) _⟩)
   rw[HE.out];rfl
  ·cases B
   all_goals
    go_wp2_with(refine wpList_store_row rfl _ _ _ rfl _ _ rfl rfl _ _ hQ (by kernel_rfl) rfl (by simp[Value.oneCell']) ?_);(refine eF rfl _ rfl _ _ _ (hQ.row _) Tryz.underlying56 rfl (by kernel_rfl) rfl ⟨?_,aK hB (by omega) _⟩)
    rw[HE.out];rfl
  ·have hi0:¬fr<0:=by omega
   have hi3:3<fr:=by omega
   cases B
   all_goals
    go_wp2_with(refine wpList_store_row rfl _ _ _ rfl _ _ rfl rfl _ _ hQ (by kernel_rfl) rfl (by simp[Value.oneCell']) ?_);(refine eF rfl _ rfl _ _ _ (hQ.row _) Tryz.underlying56 rfl (by kernel_rfl) rfl ⟨?_,aK hB (by omega) _⟩)
    rw[HE.out];rfl
 have hB1:B=true:=by
  cases B
  ·exact absurd (.inl rfl) hbad
  ·rfl
 subst hB1;have hf0:¬fr<0:=by omega
 have hf4:¬3<fr:=by omega
 have HNB:=hid hbad;clear hbad;go_upto_region 6 with(fail)
 by_cases hbad:i<0∨(sn:Int)<=i
 case pos =>
  have HE:Hid (R=(Ev.Letter.zero,241)):=hid (by
   rw[<-HR.out];exact Sd.ny (by unfold Sd.letE;rw[HFE.out,if_neg (by simp),HB.out,if_neg HNB.out,if_pos (by rw[<-HSN.out];exact hbad)]) (by decide))
  rcases hbad with hi|hi
  ·go_wp2_with(refine wpList_store_row rfl _ _ _ rfl _ _ rfl rfl _ _ hQ (by kernel_rfl) rfl (by simp[Value.oneCell']) ?_)
   (refine eF rfl _ rfl _ _ _ (hQ.row _) Tryz.underlying56 rfl (by kernel_rfl) rfl ⟨?_,aK hB (by omega) _⟩)
   rw[HE.out];rfl
  ·by_cases hi0:i<0
   all_goals
    go_wp2_with(refine wpList_store_row rfl _ _ _ rfl _ _ rfl rfl _ _ hQ (by kernel_rfl) rfl (by simp[Value.oneCell']) ?_);(refine eF rfl _ rfl _ _ _ (hQ.row _) Tryz.underlying56 rfl (by kernel_rfl) rfl ⟨?_,aK hB (by omega) _⟩)
    rw[HE.out];rfl
 have hi0:¬i<0:=by omega
 have hin:¬(sn:Int)<=i:=by omega
 have HE:Hid (R=(Sd.base x g id i fr,0)):=hid (by
  rw[<-HR.out];exact Sd.Di (by unfold Sd.letE;rw[HFE.out,if_neg (by simp),HB.out,if_neg HNB.out,if_neg (by rw[<-HSN.out];exact hbad)]))
 obtain⟨⟨q0,q1,q2,q3⟩,-⟩:=HL1.out.box.k4;go_wp2_with fail;refine(wK _ x g _ (Id.ay.below HL1.out.bel HV.out)).mono ?_;rintro e W2⟨u,rfl,hb,hu⟩;obtain⟨gb',Hgb⟩:∃ gb,Hid ((Chk.gq x g).isSome=gb):=⟨_,hid rfl⟩;rw[Hgb.out];have HSG:Hid (Sd.sag x g=(Chk.gq x g).getD Chk.oq):=hid rfl;obtain⟨G,HG⟩:∃ G,Hid ((Chk.gq x g).getD Chk.oq=G):=⟨_,hid rfl⟩;rw[HG.out]at hu HSG;obtain⟨u2,rfl,HU⟩:=hu;obtain⟨A6,n6,c6,rfl⟩:=ah.is HU;have HN:Hid (n6=G.steps.length):=hid (by obtain⟨_,_,e,_⟩:=ah.slice HU;injection e);have HM:Hid (n6<=9223372036854775807):=hid (by obtain⟨_,_,e,_,_⟩:=ah.slice HU;injection e;omega);have HU1:=hid HU;have HL2:=hid (HL1.out.below hb);have HQ2:=hid (hQ.below hb hQ.lt);clear hb HU q0 q1 q2 q3 HL1 hQ hB;go_upto_region 9 with(fail)
 refine aj (λV2 hV=>?_);obtain⟨hbV,hqV,-⟩:=au hV;have HL3:=hid (HL2.out.below hbV);have HQ3:=hid (HQ2.out.below hbV HQ2.out.lt);have HU3:=hid (ah.below HU1.out hbV Id.dU.kp);have HG3:=hid hqV;have hlt:=HQ2.out.lt;obtain⟨gG,HgG⟩:∃ n,Hid (W2.heap.size=n):=⟨_,hid rfl⟩;rw[HgG.out]at HG3 hlt ⊢;clear hbV hqV hV HL2 HQ2 HU1;obtain⟨⟨q0,q1,q2,q3⟩,-⟩:=HL3.out.box.k4;go_wp2_with fail;refine(Ak _ x hF _ (Id.ay.below HL3.out.bel HV.out)).mono ?_;obtain⟨⟨p,pe⟩,HP⟩:∃ q,Hid (Prn.print x=q):=⟨_,hid rfl⟩;rw[HP.out];rintro e W3⟨rfl,hb⟩;have hB:=(HL3.out.below hb).bel;have hQ:=HQ3.out.below hb HQ3.out.lt;have hG:=HG3.out.below hb HG3.out.lt;have HU4:=hid (ah.below HU3.out hb Id.dU.kp);clear hb q0 q1 q2 q3 HL3 HQ3 HG3 HU3;go_upto_region 10 with(fail)
 clear hbad;obtain⟨k,rfl⟩:=Int.eq_ofNat_of_zero_le (show 0<=i by omega);have hka:k<G.steps.length:=by have:=HSN.out;rw[HSG.out]at this;omega
 have k0:(0:Int)<=(k:Int):=by omega
 have k1:(k:Int)<(n6:Int):=by have:=HN.out;omega
 have k2:k<n6:=by omega
 have hmx:=HM.out;obtain⟨gb,off,cs,rfl,-,he,hc⟩:=ah.get HU4.out hka (by omega);obtain⟨st,Hst⟩:∃ st,Hid (G.steps[k]=st):=⟨_,hid rfl⟩;rw[Hst.out]at he;obtain⟨ss,sm,sa⟩:=st;have hce:cs=[.string ss,.string sm,.int .i64 sa]:=he;subst hce;have a0:=hc 0 _ rfl;have a1:=hc 1 _ rfl;have a2:=hc 2 _ rfl;simp only[xK]at a0;have hgl:gb<W3.heap.size:=xH W3 _ a0;clear he hc;have hd:Below W3.heap.size W3 W3.drew:=(Below.refl _ _).drew;have hS:=And.intro (hB.trans (hd.mono hB.size)) (And.intro (hQ.below hd hQ.lt) (And.intro (hG.below hd hG.lt) (And.intro ((hd.cell (p:=⟨gb,_,none⟩) hgl).trans a0) (And.intro ((hd.cell (p:=⟨gb,_,none⟩) hgl).trans a1) ((hd.cell (p:=⟨gb,_,none⟩) hgl).trans a2)))));have hkey:=λW=>CP id hIx k false W
 obtain⟨KB,HKB⟩:∃ n,Hid (Sd.jF id k false=n):=⟨_,hid rfl⟩;rw[HKB.out]at hkey;have HKEY:=hid hkey;clear hkey hd a0 a1 a2 hgl hB hQ hG HU4;refine aO (λw'=>Below w.heap.size w w'/\Bk w' (w.heap.size+1) 56 _/\Bk w' gG 105 _/\w'.cell? _=_/\w'.cell? _=_/\w'.cell? _=_) [24] (by kernel_rfl) hS (λhHeld=>?_);(refine aG 0 (v:=?_) rfl (by kernel_rfl) (λ_ _ _ h=>h) (λ_=>by assumption) (by kernel_rfl) ?_ ?_;rotate_left;· (intro w;go_simp;try with_reducible rfl);try simp only[Act.put,xA,xE,xC])
 (refine aG 1 (v:=?_) rfl (by kernel_rfl) (λ_ _ _ h=>h) (λ_=>by assumption) (by kernel_rfl) ?_ ?_;rotate_left;· (intro w;go_simp;try with_reducible rfl);try simp only[Act.put,xA,xE,xC])
 (refine Lst.takeN 24 2 (v:=?_) rfl (by kernel_rfl) (λ_ _ _ h=>h) (by assumption) (by kernel_rfl) ?_ ?_;rotate_left;· (intro w hSw;obtain⟨e0,e1,e2⟩:=(Bk.k3 hSw.2.2.1).1;go_simp;try with_reducible rfl);try simp only[Act.put,xA,xE,xC])
 (refine aG 3 (v:=?_) rfl (by kernel_rfl) (λ_ _ _ h=>h) (λ_=>by assumption) (by kernel_rfl) ?_ ?_;rotate_left;· (intro w;go_simp;try with_reducible rfl);try simp only[Act.put,xA,xE,xC])
 (refine Lst.takeN 24 4 (v:=?_) rfl (by kernel_rfl) (λ_ _ _ h=>h) (by assumption) (by kernel_rfl) ?_ ?_;rotate_left;· (intro w hSw;skip;go_simp;try with_reducible rfl);try simp only[Act.put,xA,xE,xC])
 (refine aG 5 (v:=?_) rfl (by kernel_rfl) (λ_ _ _ h=>h) (λ_=>by assumption) (by kernel_rfl) ?_ ?_;rotate_left;· (intro w;go_simp;try with_reducible rfl);try simp only[Act.put,xA,xE,xC])
 (refine Lst.takeN 24 6 (v:=?_) rfl (by kernel_rfl) (λ_ _ _ h=>h) (by assumption) (by kernel_rfl) ?_ ?_;rotate_left;· (intro w hSw;obtain⟨-,-,-,e0,e1,e2⟩:=hSw;go_simp;try with_reducible rfl);try simp only[Act.put,xA,xE,xC])
 (refine aG 7 (v:=?_) rfl (by kernel_rfl) (λ_ _ _ h=>h) (λ_=>by assumption) (by kernel_rfl) ?_ ?_;rotate_left;· (intro w;go_simp;try with_reducible rfl);try simp only[Act.put,xA,xE,xC])
 (refine aG 8 (v:=?_) rfl (by kernel_rfl) (λ_ _ _ h=>h) (λ_=>by assumption) (by kernel_rfl) ?_ ?_;rotate_left;· (intro w;go_simp;try with_reducible rfl);try simp only[Act.put,xA,xE,xC])
 (refine aG 10 (v:=?_) rfl (by kernel_rfl) (λ_ _ _ h=>h) (λ_=>by assumption) (by kernel_rfl) ?_ ?_;rotate_left;· (intro w;go_simp;try with_reducible rfl);try simp only[Act.put,xA,xE,xC])
 (refine aG 11 (v:=?_) rfl (by kernel_rfl) (λ_ _ _ h=>h) (λ_=>by assumption) (by kernel_rfl) ?_ ?_;rotate_left;· (intro w;go_simp;try with_reducible rfl);try simp only[Act.put,xA,xE,xC])
 (refine Lst.takeN 24 12 (v:=?_) rfl (by kernel_rfl) (λ_ _ _ h=>h) (by assumption) (by kernel_rfl) ?_ ?_;rotate_left;· (intro w hSw;obtain⟨e0,e1,e2⟩:=(Bk.k3 hSw.2.2.1).1;go_simp;try with_reducible rfl);try simp only[Act.put,xA,xE,xC])
 (refine aG 13 (v:=?_) rfl (by kernel_rfl) (λ_ _ _ h=>h) (λ_=>by assumption) (by kernel_rfl) ?_ ?_;rotate_left;· (intro w;go_simp;try with_reducible rfl);try simp only[Act.put,xA,xE,xC])
 (refine Lst.takeN 24 14 (v:=?_) rfl (by kernel_rfl) (λ_ _ _ h=>h) (by assumption) (by kernel_rfl) ?_ ?_;rotate_left;· (intro w hSw;skip;go_simp;try with_reducible rfl);try simp only[Act.put,xA,xE,xC])
 (refine aG 15 (v:=?_) rfl (by kernel_rfl) (λ_ _ _ h=>h) (λ_=>by assumption) (by kernel_rfl) ?_ ?_;rotate_left;· (intro w;go_simp;try with_reducible rfl);try simp only[Act.put,xA,xE,xC])
 (refine Lst.takeN 24 16 (v:=?_) rfl (by kernel_rfl) (λ_ _ _ h=>h) (by assumption) (by kernel_rfl) ?_ ?_;rotate_left;· (intro w hSw;obtain⟨-,-,-,e0,e1,e2⟩:=hSw;go_simp;try with_reducible rfl);try simp only[Act.put,xA,xE,xC])
 (refine aG 17 (v:=?_) rfl (by kernel_rfl) (λ_ _ _ h=>h) (λ_=>by assumption) (by kernel_rfl) ?_ ?_;rotate_left;· (intro w;go_simp;try with_reducible rfl);try simp only[Act.put,xA,xE,xC])
 (refine Lst.takeN 24 18 (v:=?_) rfl (by kernel_rfl) (λ_ _ _ h=>h) (by assumption) (by kernel_rfl) ?_ ?_;rotate_left;· (intro w hSw;obtain⟨e0,e1,e2⟩:=(Bk.k3 hSw.2.2.1).1;go_simp;try with_reducible rfl);try simp only[Act.put,xA,xE,xC])
 (refine aG 19 (v:=?_) rfl (by kernel_rfl) (λ_ _ _ h=>h) (λ_=>by assumption) (by kernel_rfl) ?_ ?_;rotate_left;· (intro w;go_simp;try with_reducible rfl);try simp only[Act.put,xA,xE,xC])
 (refine Lst.takeN 24 20 (v:=?_) rfl (by kernel_rfl) (λ_ _ _ h=>h) (by assumption) (by kernel_rfl) ?_ ?_;rotate_left;· (intro w hSw;skip;go_simp;try with_reducible rfl);try simp only[Act.put,xA,xE,xC])
 (refine aG 21 (v:=?_) rfl (by kernel_rfl) (λ_ _ _ h=>h) (λ_=>by assumption) (by kernel_rfl) ?_ ?_;rotate_left;· (intro w;go_simp;try with_reducible rfl);try simp only[Act.put,xA,xE,xC])
 (refine Lst.takeN 24 22 (v:=?_) rfl (by kernel_rfl) (λ_ _ _ h=>h) (by assumption) (by kernel_rfl) ?_ ?_;rotate_left;· (intro w hSw;obtain⟨-,-,-,e0,e1,e2⟩:=hSw;go_simp;try with_reducible rfl);try simp only[Act.put,xA,xE,xC])
 (refine aB 9 (by kernel_rfl) rfl (λK hK=>?_))
 go_simp;refine(HKEY.out _).mono ?_;rintro e X⟨rfl,hb⟩;have hgX:gb<W3.drew.heap.size:=xH W3.drew _ hS.2.2.2.1;have hS2:=And.intro (hS.1.trans (hb.mono hS.1.size)) (And.intro (hS.2.1.below hb hS.2.1.lt) (And.intro (hS.2.2.1.below hb hS.2.2.1.lt) (And.intro ((hb.cell (p:=⟨gb,_,none⟩) hgX).trans hS.2.2.2.1) (And.intro ((hb.cell (p:=⟨gb,_,none⟩) hgX).trans hS.2.2.2.2.1) ((hb.cell (p:=⟨gb,_,none⟩) hgX).trans hS.2.2.2.2.2)))));(refine hK.out _ _ (λhnn=>hS2) ?_;clear hK K;try simp only[Act.put,xA,xE,xC])
 (refine aG 23 (v:=?_) rfl (by kernel_rfl) (λ_ _ _ h=>h) (λ_=>by assumption) (by kernel_rfl) ?_ ?_;rotate_left;· (intro w;go_simp;try with_reducible rfl);try simp only[Act.put,xA,xE,xC])
 (refine aB 24 (by kernel_rfl) rfl (λK hK=>?_))
 rw[if_pos (by rfl)];have hB:=hS2.1;have hQ:=hS2.2.1;refine wp_store_row _ _ _ rfl (w.heap.size+1) #[.int .u8 0,.int .i64 fr,.int .i64 sa,.int .u64 0,.string KB,.int .u64 p,.string ss,.string sm,.int .i64 0,.string ⟨#[]⟩] (by rfl) (by rfl) _ _ hQ (by kernel_rfl) rfl (by simp[Value.oneCell']) ?_;(refine hK.out _ _ (λhnn=>absurd hnn (by decide)) ?_;clear hK K;try simp only[Act.put,xA,xE,xC])
 (refine aB 25 (by kernel_rfl) rfl (λK hK=>?_))
 go_simp;(refine hK.out _ _ (λhnn=>absurd hnn (by decide)) ?_;clear hK K;try simp only[Act.put,xA,xE,xC])
 refine aV (by kernel_rfl) ?_ _;refine NoPanic.normal ?_;have HQF:=hid (hQ.row #[.int .u8 0,.int .i64 fr,.int .i64 sa,.int .u64 0,.string KB,.int .u64 p,.string ss,.string sm,.int .i64 0,.string ⟨#[]⟩]);have HBF:=hid (aK hB (g:=w.heap.size+1) (by omega) #[.int .u8 0,.int .i64 fr,.int .i64 sa,.int .u64 0,.string KB,.int .u64 p,.string ss,.string sm,.int .i64 0,.string ⟨#[]⟩]);clear hHeld hS hS2 hB hQ hb;go_wp2_with fail;refine eF rfl _ rfl _ _ _ HQF.out Tryz.underlying56 rfl (by kernel_rfl) rfl ⟨?_,HBF.out⟩;have HB2:Hid ((Sd.base x g id k fr).val=.agg #[.int .u8 0,.int .i64 fr,.int .i64 sa,.int .u64 0,.string KB,.int .u64 p,.string ss,.string sm,.int .i64 0,.string ⟨#[]⟩]):=hid (by
  have hst:Sd.stp x g (k:Int)=⟨ss,sm,sa⟩:=by
   unfold Sd.stp;rw[HSG.out,Int.toNat_natCast,yG,yF hka,Option.getD_some,Hst.out]
  have hp:(Prn.print x).1=p:=by rw[HP.out]
  unfold Sd.base Ev.Letter.val;rw[hst,hp,HKB.out];rfl)
 rw[HE.out];simp only;rw[HB2.out];rfl
namespace Sd
open Id Chk Ev
end Sd
theorem Jb(sv:Value)(x:Id.Sch)(hF:Chk.Fine x)(g id:ByteArray)(hIx:id.size<=100000)(i:Int)(back:Bool)(fr:Int)(body:ByteArray)(w:World)(hv:Id.ay w none sv x) :
  Calls Tryz.prog 73 #[sv,.string g,.string id,.int .i64 i,.bool back,.int .i64 fr,.string body] w λe w'=>e=.returned (.tuple #[(Sd.call x g id i back fr body).1.val,.int .i64 ((Sd.call x g id i back fr body).2:Nat)])/\Below w.heap.size w w':=by
 have hlo:=λW v=>LD sv x hF g id hIx i fr W v
 obtain⟨R,HR⟩:∃ R,Hid (Sd.call x g id i back fr body=R):=⟨_,hid rfl⟩;rw[HR.out];rw[Sd.I4]at HR;obtain⟨⟨⟨k0,k1,k2,k3,k4,k5,k6,k7,k8,k9⟩,E⟩,HG⟩:∃ G,Hid (Sd.letter x g id i fr=G):=⟨_,hid rfl⟩;rw[HG.out]at HR;simp only at HR;simp only[HG.out,Ev.Letter.val]at hlo;have HFO:=hid hlo;clear hlo;have HV:=hid hv;obtain⟨A1,n1,c1,A2,n2,c2,A3,n3,c3,rfl,-,-,-⟩:=hv;go_enter Tryz.func73,Tryz.ntmps73;go_upto_region 1 with(fail)
 refine aj (λV hV=>?_);have HL:Hid (Chk.Lx w V #[.string x.name,.slice A1 n1 c1,.slice A2 n2 c2,.slice A3 n3 c3]):=hid (by subst hV;exact⟨((Below.refl _ _).alloc (xB _) _).alloc (by simp) _,(Bk.new w _ _).alloc _⟩);have HQ:Hid (Bk V (w.heap.size+1) 56 #[.int .u8 0,.int .i64 0,.int .i64 0,.int .u64 0,.string ⟨#[]⟩,.int .u64 0,.string ⟨#[]⟩,.string ⟨#[]⟩,.int .i64 0,.string ⟨#[]⟩]):=hid (by subst hV;have h:=Bk.new (w.alloc (.cells #[.string x.name,.slice A1 n1 c1,.slice A2 n2 c2,.slice A3 n3 c3] 28)) 56 #[.int .u8 0,.int .i64 0,.int .i64 0,.int .u64 0,.string ⟨#[]⟩,.int .u64 0,.string ⟨#[]⟩,.string ⟨#[]⟩,.int .i64 0,.string ⟨#[]⟩];rw[World.size_alloc]at h;exact h);clear hV;obtain⟨⟨q0,q1,q2,q3⟩,-⟩:=HL.out.box.k4;go_wp2_with fail;refine(HFO.out _ (Id.ay.below HL.out.bel HV.out)).mono ?_;rintro e W1⟨rfl,hb⟩;have HL1:=hid (HL.out.below hb);have HQ1:=hid (HQ.out.below hb HQ.out.lt);clear hb q0 q1 q2 q3 HL HQ HFO;go_upto_region 2 with(fail)
 refine aj (λV2 hV=>?_);obtain⟨hbV,hL,-⟩:=au hV;have HL:=hid (HL1.out.below hbV);have hB:=HL.out.bel;have hQ:=HQ1.out.below hbV HQ1.out.lt;have hlt:=HQ1.out.lt;clear hV hbV HQ1 HL1;obtain⟨gL,HgL⟩:∃ n,Hid (W1.heap.size=n):=⟨_,hid rfl⟩;rw[HgL.out]at hL hlt ⊢;by_cases hE:E=0
 case neg =>
  have HE:Hid (R=(Ev.Letter.zero,E)):=hid (by rw[<-HR.out,if_pos hE]);have t1:((E:Int) != 0)=true:=by rw[bne_iff_ne];omega
  have t2:¬(E:Int)=0:=by omega
  go_wp2_with(refine wpList_store_row rfl _ _ _ rfl _ _ rfl rfl _ _ hQ (by kernel_rfl) rfl (by simp[Value.oneCell']) ?_);(refine eF rfl _ rfl _ _ _ (hQ.row _) Tryz.underlying56 rfl (by kernel_rfl) rfl ⟨?_,aK hB (by omega) _⟩)
  rw[HE.out];rfl
 subst hE;rw[if_neg (by simp)]at HR;go_upto_region 4 with(fail)
 have fL:=hL.frozen 0;have cL:=hL.cell 0;have fL9:=hL.frozen 9;have cL9:=hL.cell 9;simp only[List.getElem?_toArray,List.getElem?_cons_zero,List.getElem?_cons_succ]at cL cL9;go_upto_region 6 with(fail)
 refine aj (λV3 hV=>?_);have hx:Bk V3 gL 56 #[.int .u8 1,.int .i64 k1,.int .i64 k2,.int .u64 k3,.string k4,.int .u64 k5,.string k6,.string k7,.int .i64 k8,.string body]:=by rw[hV];exact(hL.aA 0 _).aA 9 _
 have hy:Bk V3 (w.heap.size+1) 56 #[.int .u8 0,.int .i64 0,.int .i64 0,.int .u64 0,.string ⟨#[]⟩,.int .u64 0,.string ⟨#[]⟩,.string ⟨#[]⟩,.int .i64 0,.string ⟨#[]⟩]:=by rw[hV];exact(hQ.far (p:=⟨gL,0,none⟩) (by show w.heap.size+1≠gL;omega) _).far (p:=⟨gL,9,none⟩) (by show w.heap.size+1≠gL;omega) _
 have hz:Chk.Lx w V3 #[.string x.name,.slice A1 n1 c1,.slice A2 n2 c2,.slice A3 n3 c3]:=by rw[hV];exact⟨(hB.setCell (p:=⟨gL,0,none⟩) (by show w.heap.size<=gL;omega) _).setCell (p:=⟨gL,9,none⟩) (by show w.heap.size<=gL;omega) _,(HL.out.box.far (p:=⟨gL,0,none⟩) (by show w.heap.size≠gL;omega) _).far (p:=⟨gL,9,none⟩) (by show w.heap.size≠gL;omega) _⟩
 clear hL hQ hB hV cL fL cL9 fL9 HL;have hL:=hx;have hQ:=hy;have HL:=hid hz;clear hx hy hz;cases back with
 |false =>
  have HE:Hid (R=(⟨1,k1,k2,k3,k4,k5,k6,k7,k8,body⟩,0)):=hid (by rw[<-HR.out,if_pos rfl]);have hB:=HL.out.bel;go_wp2_with(first|(refine wpList_load_row rfl _ _ rfl _ rfl _ _ _ _ hL Tryz.underlying56 rfl (by kernel_rfl) ?_)|(refine wpList_store_row rfl _ _ _ rfl _ _ rfl rfl _ _ hQ (by kernel_rfl) rfl (by simp[Value.oneCell']) ?_));(refine eF rfl _ rfl _ _ _ (hQ.row _) Tryz.underlying56 rfl (by kernel_rfl) rfl ⟨?_,aK hB (by omega) _⟩)
  rw[HE.out];rfl
 |true =>
  rw[if_neg (by simp)]at HR;go_upto_region 8 with(fail)
  obtain⟨⟨q0,q1,q2,q3⟩,-⟩:=HL.out.box.k4;have cL6:=hL.cell 6;have cL7:=hL.cell 7;simp only[List.getElem?_toArray,List.getElem?_cons_zero,List.getElem?_cons_succ]at cL6 cL7;go_wp2_with fail;refine(qh _ x k6 k7 _ (Id.ay.below HL.out.bel HV.out)).mono ?_;obtain⟨⟨m0,m1,m2,m3,u⟩,HM⟩:∃ G,Hid ((Chk.meth x k6 k7).getD Chk.oz=G):=⟨_,hid rfl⟩;have HU:Hid (Sd.jh x ⟨k0,k1,k2,k3,k4,k5,k6,k7,k8,k9⟩=u):=hid (by unfold Sd.jh;rw[HM.out]);rw[HU.out]at HR;rw[HM.out];rintro e W4⟨rfl,hb⟩;unfold Chk.rV;have HL4:=hid (HL.out.below hb);have hL4:=hL.below hb hL.lt;have hQ4:=hQ.below hb hQ.lt;clear hb q0 q1 q2 q3 cL6 cL7 hL hQ HL;go_upto_region 9 with(fail)
  refine aj (λV5 hV=>?_);obtain⟨hbV,hM,-⟩:=au hV;have hB:=HL4.out.bel.trans (hbV.mono HL4.out.bel.size);have hQ:=hQ4.below hbV hQ4.lt;have hL:=hL4.below hbV hL4.lt;have hlt4:=hL4.lt;clear hV hbV HL4 hQ4 hL4;obtain⟨gM,HgM⟩:∃ n,Hid (W4.heap.size=n):=⟨_,hid rfl⟩;rw[HgM.out]at hM hlt4 ⊢;have cM:=hM.cell 4;simp only[List.getElem?_toArray,List.getElem?_cons_zero,List.getElem?_cons_succ]at cM;by_cases hu:u.toList.isEmpty=true
  case pos =>
   have HE:Hid (R=(Ev.Letter.zero,133)):=hid (by rw[<-HR.out,if_pos hu]);go_wp2_with(refine wpList_store_row rfl _ _ _ rfl _ _ rfl rfl _ _ hQ (by kernel_rfl) rfl (by simp[Value.oneCell']) ?_);(refine eF rfl _ rfl _ _ _ (hQ.row _) Tryz.underlying56 rfl (by kernel_rfl) rfl ⟨?_,aK hB (by omega) _⟩)
   rw[HE.out];rfl
  have HE:Hid (R=(⟨1,k1,k2,k3,Sd.jF id i true,k5,k6,u,k8,body⟩,0)):=hid (by rw[<-HR.out,if_neg hu]);have hu:u.toList.isEmpty=false:=by simpa using hu
  have hkey:=λW=>CP id hIx i true W
  obtain⟨KB,HKB⟩:∃ n,Hid (Sd.jF id i true=n):=⟨_,hid rfl⟩;rw[HKB.out]at hkey HE;have HKEY:=hid hkey;clear hkey;go_upto_region 11 with(fail)
  have fL7:=hL.frozen 7;have cL7:=hL.cell 7;simp only[List.getElem?_toArray,List.getElem?_cons_zero,List.getElem?_cons_succ]at cL7;go_upto_region 12 with(fail)
  refine aj (λX hV=>?_);have hx:Bk X gL 56 #[.int .u8 1,.int .i64 k1,.int .i64 k2,.int .u64 k3,.string k4,.int .u64 k5,.string k6,.string u,.int .i64 k8,.string body]:=by rw[hV];exact hL.aA 7 _
  have hy:Bk X (w.heap.size+1) 56 #[.int .u8 0,.int .i64 0,.int .i64 0,.int .u64 0,.string ⟨#[]⟩,.int .u64 0,.string ⟨#[]⟩,.string ⟨#[]⟩,.int .i64 0,.string ⟨#[]⟩]:=by rw[hV];exact hQ.far (p:=⟨gL,7,none⟩) (by show w.heap.size+1≠gL;omega) _
  have hz:Below w.heap.size w X:=by rw[hV];exact hB.setCell (p:=⟨gL,7,none⟩) (by show w.heap.size<=gL;omega) _
  clear hL hQ hB hV fL7 cL7 cM hM;have HL:=hid hx;have HQ:=hid hy;have HB:=hid hz;clear hx hy hz;go_wp2_with fail;refine(HKEY.out _).mono ?_;rintro e Y⟨rfl,hb⟩;have HL2:=HL.out.below hb HL.out.lt;have HQ2:=HQ.out.below hb HQ.out.lt;have HB2:=HB.out.trans (hb.mono HB.out.size);have fL4:=HL2.frozen 4;have cL4:=HL2.cell 4;simp only[List.getElem?_toArray,List.getElem?_cons_zero,List.getElem?_cons_succ]at cL4;clear hb HL HQ HB;go_upto_region 13 with(fail)
  refine aj (λZ hV=>?_);have hL:Bk Z gL 56 #[.int .u8 1,.int .i64 k1,.int .i64 k2,.int .u64 k3,.string KB,.int .u64 k5,.string k6,.string u,.int .i64 k8,.string body]:=by rw[hV];exact HL2.aA 4 _
  have hQ:Bk Z (w.heap.size+1) 56 #[.int .u8 0,.int .i64 0,.int .i64 0,.int .u64 0,.string ⟨#[]⟩,.int .u64 0,.string ⟨#[]⟩,.string ⟨#[]⟩,.int .i64 0,.string ⟨#[]⟩]:=by rw[hV];exact HQ2.far (p:=⟨gL,4,none⟩) (by show w.heap.size+1≠gL;omega) _
  have hB:Below w.heap.size w Z:=by rw[hV];exact HB2.setCell (p:=⟨gL,4,none⟩) (by show w.heap.size<=gL;omega) _
  clear HL2 HQ2 HB2 hV fL4 cL4;go_wp2_with(first|(refine wpList_load_row rfl _ _ rfl _ rfl _ _ _ _ hL Tryz.underlying56 rfl (by kernel_rfl) ?_)|(refine wpList_store_row rfl _ _ _ rfl _ _ rfl rfl _ _ hQ (by kernel_rfl) rfl (by simp[Value.oneCell']) ?_));(refine eF rfl _ rfl _ _ _ (hQ.row _) Tryz.underlying56 rfl (by kernel_rfl) rfl ⟨?_,aK hB (by omega) _⟩)
  rw[HE.out];rfl
