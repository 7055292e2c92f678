import Derived.Test.YtogijkhenihaaaaGreatDoorGB25
import Derived.Test.YtogijkhenihaaaaGreatDoorGB31
set_option linter.all false
set_option maxRecDepth 100000
set_option maxHeartbeats 0
namespace Go.Proofs.YtogijkhenihaaaaGreatDoor
open Lib (hid)
open Go.BigFrame Go.RowKit
theorem qj(v:Value)(x:Id.Sch)(name:ByteArray)(w0 w:World)(hv:Id.ay w0 none v x)(hb0:Below w0.heap.size w0 w) :
  Calls Tryz.prog 224 #[v,.string name] w λe w'=>∃ u,e=.returned (.tuple #[u,.bool (Chk.find x name).isSome])/\Below w.heap.size w w'/\Chk.Pn w0 none u ((Chk.find x name).getD Chk.qL):=by
 have HB0:=hid hb0;have hs0:=hb0.size;clear hb0;obtain⟨R,HR⟩:∃ R,Hid (Chk.find x name=R):=⟨_,hid rfl⟩;rw[HR.out];obtain⟨A1,n1,c1,A2,n2,c2,A3,n3,c3,rfl,r1,r2,r3⟩:=hv;have r:=r1;clear r1 r2 r3;unfold Chk.find at HR;generalize x.records=rs at *;generalize x.name=xn at *;have hn1:n1=rs.length:=by obtain⟨_,_,e,_⟩:=ah.slice r;injection e
 have hm1:n1<=9223372036854775807:=by obtain⟨_,_,e,_,_⟩:=ah.slice r;injection e;omega
 have HN:=hid hn1;have H1:=hid r;clear r hn1;go_enter Tryz.func224,Tryz.ntmps224;go_upto_region 1 with(fail)
 refine aj (λW0 hW0=>?_);have HL0:Hid (Chk.Look w W0 42 #[.string ⟨#[]⟩,.bool false,.slice none 0 0]):=hid (by
  subst hW0;refine⟨((Below.refl _ _).alloc (xB _) _).alloc (by simp) _,?_,by simp⟩;have:=Bk.new (w.alloc (.cells #[.string xn,.slice A1 n1 c1,.slice A2 n2 c2,.slice A3 n3 c3] 28)) 42 #[.string ⟨#[]⟩,.bool false,.slice none 0 0];rw[World.size_alloc]at this;exact this)
 have q0:Bk W0 w.heap.size 28 #[.string xn,.slice A1 n1 c1,.slice A2 n2 c2,.slice A3 n3 c3]:=by subst hW0;exact(Bk.new w _ _).alloc _
 clear hW0;obtain⟨S,bf⟩:∃ S:Array Value,Hid (S=#[.string xn,.slice A1 n1 c1,.slice A2 n2 c2,.slice A3 n3 c3]):=⟨_,hid rfl⟩;rw[<-bf.out]at q0;have HQ0:=hid q0;clear q0;go_wp2_with fail;go_loopw [6] (λi wr=>∃ k:Nat,k<=n1/\i=.int .i64 k/\Hid ((rs.drop k).find? (λr=>r.name.toList==name.toList)=R)/\Hid (Chk.Look w wr 42 #[.string ⟨#[]⟩,.bool false,.slice none 0 0])/\Hid (Bk wr w.heap.size 28 S)) (λi _=>n1 - (intOf i).toNat)
 case atStart=>exact⟨0,by omega,rfl,HR,HL0,HQ0⟩
 case round =>
  clear HL0 HQ0;obtain⟨k,hk,rfl,HK,HL,HQ⟩:=hrel;obtain⟨Wk,rfl⟩:∃ w',w'=wr:=⟨_,rfl⟩;have i0:(0:Int)<=(k:Int):=by omega
  have hbk:=HL.out.blk;obtain⟨⟨z0,z1,z2⟩,zf0,zf1,zf2⟩:=hbk.k3;by_cases hlt:k<n1
  case neg =>
   have HE:Hid (R=none):=hid (by rw[<-HK.out];exact Chk.kC _ (by rw[<-HN.out];omega));have hsq:=HQ.out;rw[bf.out]at hsq;obtain⟨⟨q0,q1,q2,q3⟩,-⟩:=hsq.k4;clear hsq;go_wp2_with fail;have h1:=(((hbk.aA 0 (.string ⟨#[]⟩)).aA 1 (.bool false)).aA 2 (.slice none 0 0));have hb:=(((HL.out.bel.setCell (p:=⟨w.heap.size+1,0,none⟩) (by simp) (.string ⟨#[]⟩)).setCell (p:=⟨w.heap.size+1,1,none⟩) (by simp) (.bool false)).setCell (p:=⟨w.heap.size+1,2,none⟩) (by simp) (.slice none 0 0));refine bodyPost_ret (v:=.tuple #[.agg #[.string ⟨#[]⟩,.bool false,.slice none 0 0],.bool false]) ?_ rfl ⟨_,by rw[HE.out];rfl,hb,by rw[HE.out];exact⟨_,rfl,ah.zC _ _ _ _⟩⟩;clear z0 z1 z2 zf0 zf1 zf2;obtain⟨⟨y0,y1,y2⟩,_⟩:=h1.k3;rw[iV rfl];go_simp;try rfl
  have hka:k<rs.length:=by rw[<-HN.out];exact hlt
  obtain⟨g,off,cs,rfl,-,⟨u,rfl,HU⟩,hc⟩:=ah.get H1.out hka (by omega);have HD:=HK.out;rw[Chk.ku _ hka]at HD;generalize rs[k]=r at *;obtain⟨rn,rc,rf⟩:=r;simp only at HU hc HD;have hB:=HB0.out.trans (HL.out.bel.mono hs0);have a0:=hc 0 _ rfl;have a1:=hc 1 _ rfl;have a2:=hc 2 _ rfl;have hgl:g<w0.heap.size:=xH w0 _ a0;have a0:=(hB.cell hgl).trans a0;have a1:=(hB.cell hgl).trans a1;have a2:=(hB.cell hgl).trans a2;simp only[xK]at a0;have i1:(k:Int)<(n1:Int):=by omega
  obtain⟨A5,n5,c5,rfl⟩:=ah.is HU;have HD2:=hid HD;have HU2:=hid HU;have hne1:¬g=w.heap.size+1:=by omega
  clear hc hB HD HK hka HU;have hsq:=HQ.out;rw[bf.out]at hsq;obtain⟨⟨q0,q1,q2,q3⟩,-⟩:=hsq.k4;clear hsq;cases hn:(rn.toList==name.toList)
  case false =>
   have HK1:Hid (List.find? (λr=>r.name.toList==name.toList) (List.drop (k+1) rs)=R):=hid (by rw[<-HD2.out];simp[hn]);go_wp2_with fail;go_roundw
   case rel=>exact⟨k+1,by omega,by go_num,HK1,HL,HQ⟩
   case measure=>simp[intOf];omega
  have HE:Hid (R=some ⟨rn,rc,rf⟩):=hid (by rw[<-HD2.out];simp[hn]);go_wp2_with fail;have h1:=(((hbk.aA 0 (.string rn)).aA 1 (.bool rc)).aA 2 (.slice A5 n5 c5));have hb:=(((HL.out.bel.setCell (p:=⟨w.heap.size+1,0,none⟩) (by simp) (.string rn)).setCell (p:=⟨w.heap.size+1,1,none⟩) (by simp) (.bool rc)).setCell (p:=⟨w.heap.size+1,2,none⟩) (by simp) (.slice A5 n5 c5));refine bodyPost_ret (v:=.tuple #[.agg #[.string rn,.bool rc,.slice A5 n5 c5],.bool true]) ?_ rfl ⟨_,by rw[HE.out];rfl,hb,by rw[HE.out];exact⟨_,rfl,HU2.out⟩⟩;clear z0 z1 z2 zf0 zf1 zf2;obtain⟨⟨y0,y1,y2⟩,_⟩:=h1.k3;rw[iV rfl];go_simp;try rfl
namespace Cd
open Id Chk Vl Ev
structure Q4 where
 nm:ByteArray
 a1:Option Addr
 n1:Nat
 c1:Nat
 a2:Option Addr
 n2:Nat
 c2:Nat
 a3:Option Addr
 n3:Nat
 c3:Nat
structure Q1 where
 a:Option Addr
 n:Nat
 c:Nat
abbrev Q1.val(v:Q1):Value:=.slice v.a v.n v.c
abbrev stC(q:Q4)(bb:ByteArray)(v:Q1)(z p e:Nat):Array Value:=#[.string q.nm,.slice q.a1 q.n1 q.c1,.slice q.a2 q.n2 q.c2,.slice q.a3 q.n3 q.c3,.string bb,.slice v.a v.n v.c,.int .i64 (z:Nat),.int .i64 (p:Nat),.int .i64 (e:Nat)]
abbrev st0:Array Value:=#[.string ⟨#[]⟩,.slice none 0 0,.slice none 0 0,.slice none 0 0,.string ⟨#[]⟩,.slice none 0 0,.int .i64 0,.int .i64 0,.int .i64 0]
theorem Ro{fn:Func}{p u:Tmp}{ty:TypeId}(h:fn.results=#[.tmp u,.cell p ty])(tmps:Array Value)(P:Program)(w:World) :
  (results fn tmps).run P w=((asAddr (tmps.getD p undef)).run P w).andThen λa w₁=>((loadVar ty a).run P w₁).andThen λx w₂=>.ok (.tuple #[tmps.getD u undef,x]) w₂:=by
 simp only[results,h];simp[Sem.run_bind,Result.andThen]
theorem qC{P:Program}{fn:Func}{R:Ending->World->Prop}{a:Act}{w:World}{p u:Tmp}{ty:TypeId}(h:fn.results=#[.tmp u,.cell p ty])(g:Nat)(hp:a.tmps.getD p undef=.pointer (some ⟨g,0,none⟩))
  (t:TypeId) (cs:Array Value) (d:TypeDesc) (hg:Bk w g t cs) (hu:P.underlying ty=some d) (hd:(match d with| .struct _| .array _ _=>true|_=>false)=true) (hi:(P.info? ty).map (·.size)=some cs.size)
  (hdf:a.defers=[]) (hR:R (.returned (.tuple #[a.tmps.getD u undef,.agg cs])) w):bodyPost P fn R .ret a w:=by
 refine bodyPost_ret (v:=.tuple #[a.tmps.getD u undef,.agg cs]) ?_ hdf hR;rw[Ro h,hp];simp only[asAddr,Sem.run_pure,Result.andThen_ok,run_loadVar_row (P:=P) w g t ty cs (0,0) d hg hu hd hi]
structure DI(w:World)(cs:Array Value)(W:World):Prop where
 bel:Below w.heap.size w W
 box:Bk W w.heap.size 258 cs
 res:Bk W (w.heap.size+1) 258 st0
theorem DI.start{w V:World}{cs:Array Value}(h:V=(w.alloc (.cells cs 258)).alloc (.cells st0 258)):DI w cs V:=by
 subst h;have h1:(w.alloc (.cells cs 258)).heap.size=w.heap.size+1:=by simp
 refine⟨((Below.refl _ _).alloc (xB _) _).alloc (by omega) _,(Bk.new w _ cs).alloc _,?_⟩;have h:=Bk.new (w.alloc (.cells cs 258)) 258 st0;rw[h1]at h;exact h
theorem DI.below{w W W':World}{cs:Array Value}(h:DI w cs W)(hb:Below W.heap.size W W'):DI w cs W':=⟨h.bel.trans (hb.mono h.bel.size),h.box.below hb h.box.lt,h.res.below hb h.res.lt⟩
theorem DI.set{w W:World}{cs:Array Value}(h:DI w cs W)(i:Nat)(v:Value):DI w (cs.setIfInBounds i v) (W.setCell ⟨w.heap.size,i,none⟩ v) :=
 ⟨h.bel.setCell (p:=⟨w.heap.size,i,none⟩) (xB _) v,h.box.aA i v,h.res.far (by show ¬w.heap.size+1=w.heap.size;omega) v⟩
end Cd
theorem gy(q:Cd.Q4)(bb:ByteArray)(vv:Cd.Q1)(z p e p2 e2:Nat)(w:World) :
  Calls Tryz.prog 219 #[.agg (Cd.stC q bb vv z p e),.int .i64 (p2:Nat),.int .i64 (e2:Nat)] w λen w'=>en=.returned (.agg (Cd.stC q bb vv z p2 e2))/\Below w.heap.size w w':=by
 go_enter Tryz.func219,Tryz.ntmps219;go_upto_region 1 with(fail)
 refine aj (λV hV=>?_);have HI:=hid (Cd.DI.start hV);clear hV;have c7:=HI.out.box.cell 7;have f7:=HI.out.box.frozen 7;have c8:=HI.out.box.cell 8;have f8:=HI.out.box.frozen 8;simp only[List.getElem?_toArray,List.getElem?_cons_zero,List.getElem?_cons_succ]at c7 c8;go_upto_region 3 with(fail)
 refine aj (λV2 hV=>?_);have HI2:Hid (Cd.DI w (Cd.stC q bb vv z p2 e2) V2):=hid (by rw[hV];exact(HI.out.set 7 (.int .i64 (p2:Nat))).set 8 (.int .i64 (e2:Nat)));clear hV c7 f7 c8 f8 HI;have hL:=Sg.bk HI2.out.box;have hQ:=Sg.bk HI2.out.res;go_wp2_with(first|(refine wpList_load_row rfl _ _ rfl _ rfl _ _ _ _ hL Tryz.underlying258 rfl (by kernel_rfl) ?_)|(refine wpList_store_row rfl _ _ _ rfl _ _ rfl rfl _ _ hQ (by kernel_rfl) (by rfl) (by simp[Value.oneCell']) ?_));exact Sg.dW rfl _ rfl _ _ _ (HI2.out.res.row _) Tryz.underlying258 rfl (by kernel_rfl) rfl ⟨rfl,aK HI2.out.bel (by omega) _⟩
namespace Cd
def TW(q:Q4)(bb:ByteArray)(v:Q1)(z e0:Nat)(R:Rs (Nat × Nat))(e:Ending):Prop:=match R with
 | .ok r=>e=.returned (.tuple #[.int .i64 (r.1:Nat),.agg (stC q bb v z r.2 e0)])
 | .error r=>e=.returned (.tuple #[.int .i64 0,.agg (stC q bb v z r.1 r.2)])
def TF(q:Q4)(bb:ByteArray)(v:Q1)(z e0:Nat)(R:Rs (Nat × Nat))(e:Ending):Prop:=match R with
 | .ok r=>e=.returned (.tuple #[.int .u64 (r.1:Nat),.agg (stC q bb v z r.2 e0)])
 | .error r=>e=.returned (.tuple #[.int .u64 0,.agg (stC q bb v z r.1 r.2)])
end Cd
theorem ES(q:Cd.Q4)(bb:ByteArray)(hb:bb.size<=1000000)(vv:Cd.Q1)(z p e:Nat)(hp:p<=bb.size)(w:World) :
  Calls Tryz.prog 221 #[.agg (Cd.stC q bb vv z p e)] w λen w'=>Cd.TW q bb vv z e (Cd.bit bb.data.toList p) en/\Below w.heap.size w w':=by
 obtain⟨R,HR⟩:∃ R,Hid (Cd.bit bb.data.toList p=R):=⟨_,hid rfl⟩;rw[HR.out];have hbl:bb.data.toList.length=bb.size:=by simp
 have HBL:=hid hbl;clear hbl;go_enter Tryz.func221,Tryz.ntmps221;go_upto_region 1 with(fail)
 refine aj (λV hV=>?_);have HI:=hid (Cd.DI.start hV);clear hV;have c4:=HI.out.box.cell 4;have c7:=HI.out.box.cell 7;have f7:=HI.out.box.frozen 7;simp only[List.getElem?_toArray,List.getElem?_cons_zero,List.getElem?_cons_succ]at c4 c7;have hL:=Sg.bk HI.out.box;by_cases hlt:p<bb.size
 case neg =>
  have t1:(bb.size:Int)<=(p:Int):=by omega
  have e2:R=.error (bb.size,160):=by rw[<-HR.out];unfold Cd.bit;rw[if_neg (by rw[HBL.out];exact hlt),HBL.out]
  subst e2;go_wp2_with(refine wpList_load_row rfl _ _ rfl _ rfl _ _ _ _ hL Tryz.underlying258 rfl (by kernel_rfl) ?_);refine(gy q bb vv z p e bb.size 160 _).mono ?_;rintro en W2⟨rfl,hb2⟩;have HI2:=hid (HI.out.below hb2);clear c4 c7 f7 hL hb2;have hQ:=Sg.bk HI2.out.res;go_wp2_with(refine wpList_store_row rfl _ _ _ rfl _ _ rfl rfl _ _ hQ (by kernel_rfl) (by rfl) (by simp[Value.oneCell']) ?_);exact Cd.qC rfl _ rfl _ _ _ (HI2.out.res.row _) Tryz.underlying258 rfl (by kernel_rfl) rfl ⟨rfl,aK HI2.out.bel (by omega) _⟩
 have t1:¬(bb.size:Int)<=(p:Int):=by omega
 have p0:(0:Int)<=(p:Int):=by omega
 have p1:(p:Int)<(bb.size:Int):=by omega
 obtain⟨c,HC⟩:∃ c:Nat,Hid ((bb.data.toList.getD p 0).toNat=c):=⟨_,hid rfl⟩;have hby:∀ h,(bb[p]'h).toNat=c:=λh=>by
  rw[<-HC.out,yG,yF (by rw[HBL.out];exact hlt),Option.getD_some];rfl
 by_cases hc:1<c
 ·have t2:(1:Int)<(c:Int):=by omega
  have e2:R=.error (p,162):=by rw[<-HR.out];unfold Cd.bit;rw[if_pos (by rw[HBL.out];exact hlt),HC.out,if_pos hc]
  subst e2;go_wp2_with(refine wpList_load_row rfl _ _ rfl _ rfl _ _ _ _ hL Tryz.underlying258 rfl (by kernel_rfl) ?_);refine(gy q bb vv z p e p 162 _).mono ?_;rintro en W2⟨rfl,hb2⟩;have HI2:=hid (HI.out.below hb2);clear c4 c7 f7 hL hb2;have hQ:=Sg.bk HI2.out.res;go_wp2_with(refine wpList_store_row rfl _ _ _ rfl _ _ rfl rfl _ _ hQ (by kernel_rfl) (by rfl) (by simp[Value.oneCell']) ?_);exact Cd.qC rfl _ rfl _ _ _ (HI2.out.res.row _) Tryz.underlying258 rfl (by kernel_rfl) rfl ⟨rfl,aK HI2.out.bel (by omega) _⟩
 have t2:¬(1:Int)<(c:Int):=by omega
 have e2:R=.ok (c,p+1):=by rw[<-HR.out];unfold Cd.bit;rw[if_pos (by rw[HBL.out];exact hlt),HC.out,if_neg hc]
 subst e2;have hw1:IntKind.i64.wrap ((p:Int)+1)=((p+1:Nat):Int):=by rw[IntKind.wrap_i64];omega
 have hwc:IntKind.i64.wrap (c:Int)=(c:Int):=by rw[IntKind.wrap_i64];omega
 go_upto_region 7 with(fail)
 refine aj (λV2 hV=>?_);have HI2:Hid (Cd.DI w (Cd.stC q bb vv z (p+1) e) V2):=hid (by rw[hV];exact HI.out.set 7 (.int .i64 ((p+1:Nat):Int)));clear hV c4 c7 f7 hL HI;refine aO (λw'=>Bk w' w.heap.size 258 (Cd.stC q bb vv z (p+1) e)) [4] (by kernel_rfl) HI2.out.box.drew (λhHeld=>?_);(refine aG 0 (v:=?_) rfl (by kernel_rfl) (λ_ _ _ h=>h) (λ_=>by assumption) (by rfl) ?_ ?_;rotate_left;· (intro w;go_simp;try with_reducible rfl);try simp only[Act.put,xA,xE,xC])
 (refine aG 1 (v:=?_) rfl (by kernel_rfl) (λ_ _ _ h=>h) (λ_=>by assumption) (by rfl) ?_ ?_;rotate_left;· (intro w;go_simp;try with_reducible rfl);try simp only[Act.put,xA,xE,xC])
 (refine Lst.IB 4 2 (v:=.agg (Cd.stC q bb vv z (p+1) e)) rfl (by kernel_rfl) (by kernel_rfl) (by kernel_rfl) (by kernel_rfl) (by kernel_rfl) (by kernel_rfl) (λ_ _ _ h=>h) (by assumption) (by kernel_rfl) (λw' hSw=>Sg.kY _ _ rfl w.heap.size rfl _ _ _ hSw Tryz.underlying258 rfl (by kernel_rfl)) ?_;try simp only[Act.put,xA,xE,xC])
 (refine aG 3 (v:=?_) rfl (by kernel_rfl) (λ_ _ _ h=>h) (λ_=>by assumption) (by rfl) ?_ ?_;rotate_left;· (intro w;go_simp;try with_reducible rfl);try simp only[Act.put,xA,xE,xC])
 (refine aB 4 (by kernel_rfl) rfl (λK hK=>?_))
 rw[if_pos (by rfl)];have hQ:Bk V2.drew (w.heap.size+1) 258 Cd.st0:=HI2.out.res.drew;(with_reducible refine wp_store_row 258 _ _ rfl (w.heap.size+1) (Cd.stC q bb vv z (p+1) e) (by kernel_rfl) (by kernel_rfl) 258 _ (Sg.bk hQ) (by kernel_rfl) (by kernel_rfl) (by simp[Value.oneCell']) ?_)
 (refine hK.out _ _ (λhnn=>absurd hnn (by decide)) ?_;clear hK K;try simp only[Act.put,xA,xE,xC])
 refine aV (by kernel_rfl) ?_ _;refine NoPanic.normal ?_;go_wp2_with fail;exact Cd.qC rfl _ rfl _ _ _ (hQ.row _) Tryz.underlying258 rfl (by kernel_rfl) rfl ⟨rfl,aK (HI2.out.bel.drew) (by omega) _⟩
namespace Cd
theorem QI{L:List UInt8}{k c:Nat}(hc:(L.getD k 0).toNat=c)(h9:k<=9)(ha:Ev.acc L k<128 ^ k)(h1:k=9->c % 128<2):Ev.acc L (k+1)=Ev.acc L k+c % 128 * 128 ^ k/\Ev.acc L (k+1)<18446744073709551616/\(k<9->Ev.acc L (k+1)<128 ^ (k+1)):=by
 have h:=zN h9 ha (by omega) (λe=>by rw[hc];exact h1 e);rw[hc]at h;have hp9:(128:Nat) ^ 9=9223372036854775808:=by decide
 have hle:128 ^ k<=128 ^ 9:=Nat.pow_le_pow_right (by decide) h9;refine⟨h,?_,λh8=>?_⟩
 ·rw[h]
  by_cases e9:k=9
  ·have:=h1 e9
   have h2:c % 128 * 128 ^ k<=1 * 128 ^ k:=Nat.mul_le_mul_right _ (by omega);omega
  ·have hps:128 ^ (k+1)=128 ^ k * 128:=Nat.pow_succ ..
   have hle2:128 ^ (k+1)<=128 ^ 9:=Nat.pow_le_pow_right (by decide) (by omega);have h2:c % 128 * 128 ^ k<=127 * 128 ^ k:=Nat.mul_le_mul_right _ (by omega);omega
 ·rw[h]
  have hps:128 ^ (k+1)=128 ^ k * 128:=Nat.pow_succ ..;have h2:c % 128 * 128 ^ k<=127 * 128 ^ k:=Nat.mul_le_mul_right _ (by omega);omega
end Cd
theorem tX(q:Cd.Q4)(bb:ByteArray)(hb:bb.size<=1000000)(vv:Cd.Q1)(z p e:Nat)(hp:p<=bb.size)(w:World) :
  Calls Tryz.prog 222 #[.agg (Cd.stC q bb vv z p e)] w λen w'=>Cd.TF q bb vv z e (Cd.num bb.data.toList p) en/\Below w.heap.size w w':=by
 obtain⟨R,HR⟩:∃ R,Hid (Cd.num bb.data.toList p=R):=⟨_,hid rfl⟩;rw[HR.out];have hbl:bb.data.toList.length=bb.size:=by simp
 have HBL:=hid hbl;obtain⟨L,HL⟩:∃ L,Hid (bb.data.toList.drop p=L):=⟨_,hid rfl⟩;have hLl:L.length=bb.size - p:=by rw[<-HL.out,List.length_drop,hbl]
 have HLL:=hid hLl;clear hbl hLl;go_enter Tryz.func222,Tryz.ntmps222;go_upto_region 1 with(fail)
 refine aj (λV hV=>?_);have HI:=hid (Cd.DI.start hV);clear hV;have c7:=HI.out.box.cell 7;simp only[List.getElem?_toArray,List.getElem?_cons_zero,List.getElem?_cons_succ]at c7;go_wp2_with fail;clear c7;go_loopw [4,6] (λu i wr=>∃ k:Nat,k<=10/\p+k<=bb.size/\i=.int .i64 k/\u=.int .u64 (Ev.acc L k:Nat)/\Hid (k<10->Ev.acc L k<128 ^ k)/\Hid (Cd.nmF L 10 0=Cd.nmF L (10 - k) k)/\Hid (Cd.DI w (Cd.stC q bb vv z (p+k) e) wr)) (λ_ i _=>10 - (intOf i).toNat)
 case atStart=>exact⟨0,by omega,by omega,rfl,rfl,hid (λ_=>by show 0<128 ^ 0;decide),hid rfl,HI⟩
 case round =>
  clear HI;obtain⟨k,h10,hpk,rfl,rfl,HAK,HF,HI⟩:=hrel;obtain⟨W,rfl⟩:∃ w',w'=wr:=⟨_,rfl⟩;have c4:=HI.out.box.cell 4;have c7:=HI.out.box.cell 7;have f7:=HI.out.box.frozen 7;simp only[List.getElem?_toArray,List.getElem?_cons_zero,List.getElem?_cons_succ]at c4 c7;have hL:=Sg.bk HI.out.box;by_cases hk10:k<10
  case neg =>
   obtain rfl:k=10:=by omega
   have e2:R=.error (p,162):=by rw[<-HR.out];exact Cd.pG (by rw[HL.out,HF.out];rfl)
   subst e2;simp only[xY];go_wp2_with(refine wpList_load_row rfl _ _ rfl _ rfl _ _ _ _ hL Tryz.underlying258 rfl (by kernel_rfl) ?_);refine(gy q bb vv z (p+10) e p 162 _).mono ?_;rintro en W2⟨rfl,hb2⟩;have HI2:=hid (HI.out.below hb2);clear c4 c7 f7 hL hb2;have hQ:=Sg.bk HI2.out.res;go_wp2_with(refine wpList_store_row rfl _ _ _ rfl _ _ rfl rfl _ _ hQ (by kernel_rfl) (by rfl) (by simp[Value.oneCell']) ?_);exact Cd.qC rfl _ rfl _ _ _ (HI2.out.res.row _) Tryz.underlying258 rfl (by kernel_rfl) rfl ⟨rfl,aK HI2.out.bel (by omega) _⟩
  have ki:(k:Int)<10:=by omega
  obtain⟨j,hj⟩:∃ j,p+k=j:=⟨_,rfl⟩;rw[hj]at c7;have HJ:=hid hj;by_cases hlt:k<L.length
  case neg =>
   have t1:(bb.size:Int)<=(j:Int):=by have:=HLL.out;omega
   have e2:R=.error (bb.size,160):=by rw[<-HR.out];have h:=Cd.Ig (b:=bb.data.toList) (p:=p) (by rw[HL.out,HF.out];exact Cd.Ii hk10 hlt);rw[HBL.out]at h;exact h
   subst e2;rw[hj]at hL;clear hj;go_wp2_with(refine wpList_load_row rfl _ _ rfl _ rfl _ _ _ _ hL Tryz.underlying258 rfl (by kernel_rfl) ?_);refine(gy q bb vv z j e bb.size 160 _).mono ?_;rintro en W2⟨rfl,hb2⟩;have HI2:=hid (HI.out.below hb2);clear c4 c7 f7 hL hb2;have hQ:=Sg.bk HI2.out.res;go_wp2_with(refine wpList_store_row rfl _ _ _ rfl _ _ rfl rfl _ _ hQ (by kernel_rfl) (by rfl) (by simp[Value.oneCell']) ?_);exact Cd.qC rfl _ rfl _ _ _ (HI2.out.res.row _) Tryz.underlying258 rfl (by kernel_rfl) rfl ⟨rfl,aK HI2.out.bel (by omega) _⟩
  have hjb:j<bb.size:=by have:=HLL.out;omega
  have t1:¬(bb.size:Int)<=(j:Int):=by omega
  have j0:(0:Int)<=(j:Int):=by omega
  have j1:(j:Int)<(bb.size:Int):=by omega
  have hcc:=(L.getD k 0).toNat_lt;obtain⟨c,HC⟩:∃ c,Hid ((L.getD k 0).toNat=c):=⟨_,hid rfl⟩;rw[HC.out]at hcc;have hby:∀ h,(bb[j]'h).toNat=c:=λh=>by
   rw[<-HC.out,<-HL.out,yG,List.getElem?_drop,hj,yF (by rw[HBL.out];exact hjb),Option.getD_some];rfl
  have hwj:IntKind.i64.wrap ((j:Int)+1)=((j+1:Nat):Int):=by rw[IntKind.wrap_i64];omega
  have HBAD:=hid (Cd.Ik hk10 hlt HC.out);have qZ:=hid (Cd.Fh hk10 hlt HC.out);have sO:=hid (Cd.Ij hk10 hlt HC.out);have HGO:=hid (Cd.MK hk10 hlt HC.out);rw[hj]at hL;clear hj;go_upto_region 10 with(fail)
  refine aj (λW1 hW=>?_);have HI1:Hid (Cd.DI w (Cd.stC q bb vv z (j+1) e) W1):=hid (by
   have h:=HI.out;rw[HJ.out]at h;rw[hW];exact h.set 7 (.int .i64 ((j+1:Nat):Int)))
  clear hW c4 c7 f7 hL HI hwj hby;have hL:=Sg.bk HI1.out.box;have hc256:c<256:=by simpa using hcc
  clear hcc;by_cases h9:k=9/\1<c
  case pos =>
   have e2:R=.error (p,162):=by rw[<-HR.out];exact Cd.pG (by rw[HL.out,HF.out];exact HBAD.out h9)
   obtain⟨rfl,hc1⟩:=h9;subst e2;have u1:((c:Int) != 0)=true:=by rw[bne_iff_ne];omega
   have u2:((c:Int) != 1)=true:=by rw[bne_iff_ne];omega
   simp only[xY];go_wp2_with(refine wpList_load_row rfl _ _ rfl _ rfl _ _ _ _ hL Tryz.underlying258 rfl (by kernel_rfl) ?_);refine(gy q bb vv z (j+1) e p 162 _).mono ?_;rintro en W2⟨rfl,hb2⟩;have HI2:=hid (HI1.out.below hb2);clear hL hb2;have hQ:=Sg.bk HI2.out.res;go_wp2_with(refine wpList_store_row rfl _ _ _ rfl _ _ rfl rfl _ _ hQ (by kernel_rfl) (by rfl) (by simp[Value.oneCell']) ?_);exact Cd.qC rfl _ rfl _ _ _ (HI2.out.res.row _) Tryz.underlying258 rfl (by kernel_rfl) rfl ⟨rfl,aK HI2.out.bel (by omega) _⟩
  obtain⟨hs1,hs2,hs3⟩:=Cd.QI HC.out (by omega) (HAK.out hk10) (λe9=>by omega);have HS1:=hid hs1;have HS2:=hid hs2;have HS3:=hid hs3;clear hs1 hs2 hs3;have hwk:IntKind.i64.wrap (7 * (k:Int))=7 * (k:Int):=by rw[IntKind.wrap_i64];omega
  have hk0:(0:Int)<=7 * (k:Int):=by omega
  rcases(show k≠9∨(k=9/\c=0)∨(k=9/\c=1)by omega)with e9|⟨e9,e0⟩|⟨e9,e0⟩
  case' inl =>
   have u9:((k:Int)==9)=false:=by rw[xG];omega
   have E9:=hid e9;clear e9;go_upto_region 12 with(fail)
   clear u9 E9
  case' inr.inl =>
   have u9:((k:Int)==9)=true:=by rw[beq_iff_eq];omega
   have u0:((c:Int) != 0)=false:=by rw[bne_eq_false_iff_eq];omega
   have E9:=hid e9;have E0:=hid e0;clear e9 e0;go_upto_region 12 with(fail)
   clear u9 u0 E9 E0
  case' inr.inr =>
   have u9:((k:Int)==9)=true:=by rw[beq_iff_eq];omega
   have u0:((c:Int) != 0)=true:=by rw[bne_iff_ne];omega
   have u1:((c:Int) != 1)=false:=by rw[bne_eq_false_iff_eq];omega
   have E9:=hid e9;have E0:=hid e0;clear e9 e0;go_upto_region 12 with(fail)
   clear u9 u0 u1 E9 E0
  all_goals
   have h9n:¬(k=9/\1<c):=h9;have HK9:=hid h9n;clear h9 h9n;have Sz:Hid (IntKind.u64.wrap ((Ev.acc L k:Nat)+IntKind.u64.wrap ((c:Int) % 128 * 2 ^ (7 * k)))=((Ev.acc L (k+1):Nat):Int)):=hid (by
    have e1:((c:Int) % 128 * 2 ^ (7 * k))=((c % 128 * 128 ^ k:Nat):Int):=by
     rw[<-Ev.Ar];push_cast
     rfl
    have h1:=HS1.out;have h2:=HS2.out;rw[e1,IntKind.wrap_u64,IntKind.wrap_u64];generalize c % 128 * 128 ^ k=X at *;omega)
   go_upto_region 13 with(fail)
   rw[Sz.out];clear Sz;obtain⟨A,HA⟩:∃ A,Hid (Ev.acc L (k+1)=A):=⟨_,hid rfl⟩;rw[HA.out];clear hwk hk0;by_cases h128:c<128
   case neg =>
    have t3:¬(c:Int)<128:=by omega
    have hF2:=HGO.out HK9.out (by omega);have HF2:Hid (Cd.nmF L 10 0=Cd.nmF L (10 - (k+1)) (k+1)):=hid (by rw[HF.out,hF2]);have HJ1:Hid (Cd.DI w (Cd.stC q bb vv z (p+(k+1)) e) W1):=hid (by have h:=HI1.out;rw[<-HJ.out]at h;exact h);have hk9:k<9:=by have:=HK9.out;omega
    clear hF2 HBAD qZ sO HGO hL;go_wp2_with fail;go_roundw
    case rel=>exact⟨k+1,by omega,by have:=HJ.out;omega,by go_num,by rw[HA.out],hid (λ_=>HS3.out hk9),HF2,HJ1⟩
    case measure=>simp[intOf];omega
   have t3:(c:Int)<128:=by omega
   by_cases hz:c=0/\0<k
   case pos =>
    have e2:R=.error (p,162):=by rw[<-HR.out];exact Cd.pG (by rw[HL.out,HF.out];exact qZ.out hz)
    subst e2;have u1:((c:Int)==0)=true:=by rw[beq_iff_eq];omega
    have u2:(0:Int)<(k:Int):=by omega
    have HZZ:=hid hz;clear hz HBAD qZ sO HGO;go_wp2_with(refine wpList_load_row rfl _ _ rfl _ rfl _ _ _ _ hL Tryz.underlying258 rfl (by kernel_rfl) ?_);refine(gy q bb vv z (j+1) e p 162 _).mono ?_;rintro en W2⟨rfl,hb2⟩;have HI2:=hid (HI1.out.below hb2);clear hL hb2;have hQ:=Sg.bk HI2.out.res;go_wp2_with(refine wpList_store_row rfl _ _ _ rfl _ _ rfl rfl _ _ hQ (by kernel_rfl) (by rfl) (by simp[Value.oneCell']) ?_);exact Cd.qC rfl _ rfl _ _ _ (HI2.out.res.row _) Tryz.underlying258 rfl (by kernel_rfl) rfl ⟨rfl,aK HI2.out.bel (by omega) _⟩
   have e2:R=.ok (A,p+(k+1)):=by rw[<-HR.out,<-HA.out];exact Cd.Ie (by rw[HL.out,HF.out];exact sO.out HK9.out h128 hz)
   subst e2;have HJ1:Hid (Cd.DI w (Cd.stC q bb vv z (p+(k+1)) e) W1):=hid (by have h:=HI1.out;rw[<-HJ.out]at h;exact h);clear HBAD qZ sO HGO hL;have u3:((c:Int)==0)=false∨¬(0:Int)<(k:Int):=by rw[xG];omega
   rcases u3 with u3|u3
   case' inl =>
    go_upto_region 16 with(fail)
   case' inr =>
    cases u1:((c:Int)==0)
    case' false=>go_upto_region 16 with(fail)
    case' true=>go_upto_region 16 with(fail)
   all_goals
    refine aO (λw'=>Bk w' w.heap.size 258 (Cd.stC q bb vv z (p+(k+1)) e)) [3] (by kernel_rfl) HJ1.out.box.drew (λhHeld=>?_);(refine aG 0 (v:=?_) rfl (by kernel_rfl) (λ_ _ _ h=>h) (λ_=>by assumption) (by rfl) ?_ ?_;rotate_left;· (intro w;go_simp;try with_reducible rfl);try simp only[Act.put,xA,xE,xC])
    (refine Lst.IB 3 1 (v:=.agg (Cd.stC q bb vv z (p+(k+1)) e)) rfl (by kernel_rfl) (by kernel_rfl) (by kernel_rfl) (by kernel_rfl) (by kernel_rfl) (by kernel_rfl) (λ_ _ _ h=>h) (by assumption) (by kernel_rfl) (λw' hSw=>Sg.kY _ _ rfl w.heap.size rfl _ _ _ hSw Tryz.underlying258 rfl (by kernel_rfl)) ?_;try simp only[Act.put,xA,xE,xC])
    (refine aG 2 (v:=?_) rfl (by kernel_rfl) (λ_ _ _ h=>h) (λ_=>by assumption) (by rfl) ?_ ?_;rotate_left;· (intro w;go_simp;try with_reducible rfl);try simp only[Act.put,xA,xE,xC])
    (refine aB 3 (by kernel_rfl) rfl (λK hK=>?_))
    rw[if_pos (by rfl)];have hQ:Bk W1.drew (w.heap.size+1) 258 Cd.st0:=HJ1.out.res.drew;(with_reducible refine wp_store_row 258 _ _ rfl (w.heap.size+1) (Cd.stC q bb vv z (p+(k+1)) e) (by kernel_rfl) (by kernel_rfl) 258 _ (Sg.bk hQ) (by kernel_rfl) (by kernel_rfl) (by simp[Value.oneCell']) ?_)
    (refine hK.out _ _ (λhnn=>absurd hnn (by decide)) ?_;clear hK K;try simp only[Act.put,xA,xE,xC])
    refine aV (by kernel_rfl) ?_ _;refine NoPanic.normal ?_;go_wp2_with fail;exact Cd.qC rfl _ rfl _ _ _ (hQ.row _) Tryz.underlying258 rfl (by kernel_rfl) rfl ⟨rfl,aK (HJ1.out.bel.drew) (by omega) _⟩
namespace Vl
open Id Chk
end Vl
namespace Vl
end Vl
namespace Vl
open Id Chk Prn
end Vl
namespace Vl
open Id Chk
theorem bT.below{w w':World}{B:Option Nat}{v:Value}{l:List Node}(h:bT w B v l)(hb:Below w.heap.size w w'):bT w' B v l:=ah.below h hb (λ_ _ h=>h)
end Vl
theorem IY(sv:Value)(x:Id.Sch)(hF:Chk.Fine x)(tv:Value)(t:List Id.Srt)(w:World)(hv:Id.ay w none sv x)(ht:Id.bG w none tv t) :
  Calls Tryz.prog 191 #[sv,tv] w λe w'=>e=.returned (.int .i64 (Vl.oK x t))/\Below w.heap.size w w':=by
 obtain⟨R,HR⟩:∃ R,Hid (Vl.oK x t=R):=⟨_,hid rfl⟩;rw[HR.out];unfold Vl.oK at HR;have HF:=hid hF;have HV:=hid hv;have HS:=hid ht;obtain⟨A1,n1,c1,A2,n2,c2,A3,n3,c3,rfl,-,-,-⟩:=hv;clear hF ht;go_enter Tryz.func191,Tryz.ntmps191;go_upto_region 1 with(fail)
 refine aj (λV hV=>?_);have HL:=hid (Chk.Lx.start hV);clear hV;obtain⟨⟨q0,q1,q2,q3⟩,-⟩:=HL.out.box.k4;go_wp2_with fail;clear q0 q1 q2 q3;have h1:=Aj _ x HF.out _ (HV.out.below HL.out.bel);rw[Chk.Dw]at h1;unfold Chk.zK at h1;refine h1.mono ?_;rintro e W1⟨rfl,hb⟩;have HL1:=hid (HL.out.below hb);clear hb h1 HL;obtain⟨⟨cw,ce⟩,HC⟩:∃ c,Hid (Chk.check x=c):=⟨_,hid rfl⟩;rw[HC.out]at HR;rw[HC.out];simp only at HR ⊢;by_cases h0:ce=0
 case neg =>
  have HE:Hid (ce=R):=hid (by rw[<-HR.out,if_pos h0]);have t0:((ce:Int) != 0)=true:=by rw[bne_iff_ne];omega
  have t1:¬(ce:Int)=0:=by omega
  have t2:((ce:Int)==0)=false:=by rw[xG];omega
  go_wp2_with fail;go_ret;exact⟨by rw[<-HE.out];rfl,HL1.out.bel⟩
 subst h0;have HR2:Hid ((if Chk.right x t=true then 0 else 131)=R):=hid (by rw[<-HR.out];simp only[ne_eq,not_true,if_false]);clear HR HC;simp only[xY];obtain⟨⟨q0,q1,q2,q3⟩,-⟩:=HL1.out.box.k4;go_wp2_with fail;clear q0 q1 q2 q3;refine(Ag _ x _ t _ (HV.out.below HL1.out.bel) (ah.below HS.out HL1.out.bel (λ_ _ h=>h))).mono ?_;rintro e W2⟨rfl,hb⟩;have HL2:=hid (HL1.out.below hb);clear hb HL1;cases hrt:Chk.right x t
 case false =>
  have HE:Hid (131=R):=hid (by rw[<-HR2.out,hrt];rfl);go_wp2_with fail;go_ret;exact⟨by rw[<-HE.out];rfl,HL2.out.bel⟩
 case true =>
  have HE:Hid (0=R):=hid (by rw[<-HR2.out,hrt];rfl);go_wp2_with fail;go_ret;exact⟨by rw[<-HE.out];rfl,HL2.out.bel⟩
