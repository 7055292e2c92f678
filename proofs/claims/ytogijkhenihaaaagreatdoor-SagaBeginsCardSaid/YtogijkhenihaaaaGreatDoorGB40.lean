import Derived.Test.YtogijkhenihaaaaGreatDoorGB36
set_option linter.all false
set_option maxRecDepth 100000
set_option maxHeartbeats 0
namespace Go.Proofs.YtogijkhenihaaaaGreatDoor
open Lib (hid)
open Go.BigFrame Go.RowKit
theorem Ob(s:Id.Sch)(hF:Chk.Fine s)(hR:Chk.Right s)(q:Cd.Q4)(bb:ByteArray)(hbb:bb.size<=1000000)(w0:World)(hs:Id.ay w0 none (Cd.qK q) s)(k:Nat)(hk:k+1<=12)(ih:Cd.og s q bb w0 k):Cd.Ed s q bb w0 (k+1) (λx y=>¬Cd.full x/\y.kind=7/\∀ r,Chk.find s y.name=some r->r.choice=false):=by
 intro tv t x vv w hkk ht h12 hx hb0 hrow hst;obtain⟨R,HR⟩:∃ R,Hid (Cd.aY s bb.data.toList (k+1) t x=R):=⟨_,hid rfl⟩;rw[HR.out];obtain⟨⟨xk,xn⟩,t,rfl⟩:∃ x l,t=x::l:=List.exists_cons_of_ne_nil (Vl.lJ ht);have hkx:=hkk _ _ rfl;clear hkk;obtain⟨ar,har⟩:∃ ar:Nat,ar+k+1=12:=⟨11 - k,by omega⟩;have e12:(12 - ((k+1:Nat):Int))=(ar:Int):=by omega
 have e13:(12 - (k:Int))=(ar:Int)+1:=by omega
 rw[e12];unfold Cd.og at ih;rw[e13]at ih;have HIH:=hid ih;have HTT:=hid ht;have HKN:=hid (Vl.pF ht);obtain⟨A,n,c,rfl⟩:=ah.is hst;have hn:n=t.length+1:=by obtain⟨_,_,e,_⟩:=ah.slice hst;injection e
 have hcn:n<=c:=by obtain⟨_,_,e,h,_⟩:=ah.slice hst;injection e with _ e2 e3;rw[e3,e2];exact h
 have hcm:c<=9223372036854775807:=by obtain⟨_,_,e,_,h,_⟩:=ah.slice hst;injection e with _ _ e3;omega
 have hnm:n<=12:=by rw[hn];simpa using h12
 obtain⟨g7,dJ,cs,rfl,-⟩:=ah.get hst (i:=0) (by simp) (by omega);have HLT:Hid (n=t.length+1):=hid hn;have hn1:0<n:=by omega
 have hn0:(0:Int)<(n:Int):=by omega
 obtain⟨tt0,tt1⟩:=Cd.sW hst;have hg7:g7<w0.heap.size:=xH w0 _ tt0;have hg8:g7<w0.heap.size:=hg7;have HT0:=hid (λ(W:World) (h:Below w0.heap.size w0 W)=>((h.cell (p:=⟨g7,dJ,none⟩) hg7).trans tt0));have HT1:=hid (λ(W:World) (h:Below w0.heap.size w0 W)=>((h.cell (p:=⟨g7,dJ+1,none⟩) hg7).trans tt1));have HTL:=hid (λ(y:Id.Srt) (l:List Id.Srt) (e:t=y::l)=>ah.tail hst);have HFI:=hid (λW hW=>qj (Cd.qK q) s xn w0 W hs hW);have HTY:Hid (∀ r,Chk.find s xn=some r->r.fields.length<=99/\∀ f∈r.fields,Chk.okT s f.type=true/\f.type.length<=12):=hid (λr hr=>by
  have hrm:r∈s.records:=List.mem_of_find?_eq_some hr;exact⟨(hF.re r hrm).2.1,λf hf=>Vl.lZ (Vl.nV hR hrm hf)⟩)
 obtain⟨p,v,z⟩:=x;obtain⟨A9,n9,c9⟩:=vv;have HN9:Hid (n9=v.length):=hid (by obtain⟨_,_,e,_⟩:=ah.slice hrow;injection e);have hv9:n9<=4096:=by rw[HN9.out];exact hx.hv
 have hz9:z<=4096:=hx.hz;have hp9:p<=bb.size:=hx.ha;have HRW:=hid hrow;have HB0:=hid hb0;have hB:=hb0.size;clear hx hb0 hrow hst ht h12 ih e12 e13 hn hs hF hR tt0 tt1 hg7;have hnf:¬(4096<=v.length∨4096<=z):=hkx.1;have h1:¬n9=4096:=by rw[HN9.out];omega
 have h2:¬z=4096:=by omega
 replace hkx:xk=7/\∀ r,Chk.find s xn=some r->r.choice=false:=hkx.2;clear hnf;go_enter Tryz.func192,Tryz.ntmps192;go_upto_region 1 with(fail)
 refine aj (λV hV=>?_);have HP:=hid (Cd.PS.start hB hV);have HRV:=hid (Vl.bT.below HRW.out (Cd.DI.start hV).bel);clear hV HRW;(have c4:=HP.out.y.cell 4;have c5:=HP.out.y.cell 5;have c6:=HP.out.y.cell 6;have c7:=HP.out.y.cell 7;have c8:=HP.out.y.cell 8;have f6:=HP.out.y.frozen 6;simp only[List.getElem?_toArray,List.getElem?_cons_zero,List.getElem?_cons_succ]at c4 c5 c6 c7 c8)
 try simp only[xY]at c8
 have ha1:¬(12:Int)<=(ar:Int):=by omega
 have hwz:IntKind.i64.wrap ((z:Int)+1)=((z+1:Nat):Int):=by rw[IntKind.wrap_i64];omega
 have t1:¬(4096:Int)<=(n9:Int):=by omega
 have t2:¬(4096:Int)<((z+1:Nat):Int):=by omega
 have HNF:Hid (¬Cd.full ⟨p,v,z⟩):=hid (by unfold Cd.full;simp only;rw[<-HN9.out];omega);have hvl:v.length<4096:=by rw[<-HN9.out];omega
 go_upto_region 7 with(fail)
 refine aj (λV2 hV=>?_);have HRR:Hid ((if Cd.iy xk then Cd.uH bb.data.toList xk ⟨p,v,z+1⟩else Cd.goD (Cd.aY s bb.data.toList k) (Cd.o7 s bb.data.toList ⟨xk,xn⟩ t ⟨p,v,z+1⟩))=R):=hid (by rw[<-HR.out,Cd.aY,if_neg HNF.out];rfl);have HP2:Hid (Cd.PS w0.heap.size w w.heap.size (Cd.stC q bb ⟨A9,n9,c9⟩ (z+1) p 0) V2):=hid (by rw[hV];exact HP.out.set 6 (.int .i64 ((z+1:Nat):Int)));have jT:Hid (Vl.bT V2 (some w0.heap.size) (.slice A9 n9 c9) v):=hid (by rw[hV];exact Cd.pq HRV.out HP.out.y (by decide) 6 _);have hz1:z+1<=4096:=by omega
 clear hV HP HRV HR HNF h1 h2 t1 t2 hwz hz9 ha1;(clear c4 c5 c6 c7 c8 f6)
 generalize z+1=z1 at *;have hb2:=HB0.out.trans HP2.out.on.bel;have HB2:=hid hb2;have t0:=HT0.out _ hb2;clear hb2;(have c4:=HP2.out.y.cell 4;have c5:=HP2.out.y.cell 5;have c6:=HP2.out.y.cell 6;have c7:=HP2.out.y.cell 7;have c8:=HP2.out.y.cell 8;have f6:=HP2.out.y.frozen 6;simp only[List.getElem?_toArray,List.getElem?_cons_zero,List.getElem?_cons_succ]at c4 c5 c6 c7 c8)
 try simp only[xY]at c8
 have HNL:Hid (¬Cd.iy xk):=hid (by have h:=hkx.1;unfold Cd.iy;omega);have k5:¬xk=5:=by have h:=hkx.1;omega
 have k6:¬xk=6:=by have h:=hkx.1;omega
 have hk7:xk=7/\t=[]/\(Chk.find s xn).isSome=true:=by
  rcases HKN.out with h|h|h|h
  ·exact absurd (show Cd.iy xk from h) HNL.out
  ·exact absurd h k5
  ·exact absurd h k6
  ·exact h
 obtain⟨rfl,rfl,hfs⟩:=hk7;obtain⟨⟨rn,rc,rf⟩,hfr⟩:=Option.isSome_iff_exists.1 hfs;obtain⟨hfl,hty⟩:=HTY.out _ hfr;have HTF:=hid hty;have hfi:=λW hW=>HFI.out W hW
 rw[hfr]at hfi;simp only[Option.getD_some,Option.isSome_some]at hfi;have HFN:=hid hfi;have HRN:Hid (Cd.goD (Cd.aY s bb.data.toList k) (Cd.BP ⟨rn,rc,rf⟩ bb.data.toList ⟨p,v,z1⟩)=R):=hid (by
  rw[<-HRR.out,if_neg HNL.out];unfold Cd.o7;rw[if_neg (show ¬(7:Nat)=5 by decide),if_neg (show ¬(7:Nat)=6 by decide)];simp only;rw[hfr];rfl)
 simp only at hfl;obtain rfl:rc=false:=hkx.2 _ hfr;clear hkx hfs hfi hty hfr HFI HTY HRR HKN HTT k5 k6 HTL;go_upto_region 44 with(fail)
 (clear c4 c5 c6 c7 c8 f6)
 clear t0;go_cut [17] (λu wx=>∃(gA:Nat)(u3:Value),u=.pointer (some ⟨gA,0,none⟩)/\Hid (Id.jC w0 none u3 rf)/\Hid (Bk wx gA 42 #[.string rn,.bool false,u3])/\Hid (Cd.PV w0.heap.size w w.heap.size q bb ⟨A9,n9,c9⟩ z1 p 0 v wx))
 case first =>
  have hPV:Cd.PV w0.heap.size w w.heap.size q bb ⟨A9,n9,c9⟩ z1 p 0 v V2.drew:=Cd.PV.below ⟨HP2.out,jT.out⟩ (Below.refl _ _).drew;have hS0:=hPV;refine aO (λw'=>Cd.PV w0.heap.size w w.heap.size q bb ⟨A9,n9,c9⟩ z1 p 0 v w') [6] (by kernel_rfl) hPV (λhHeld=>?_);have HPT:=hid (Cd.EX q bb ⟨A9,n9,c9⟩ z1 p 0);(refine aG 0 (v:=?_) rfl (by kernel_rfl) (λ_ _ _ h=>h) (λ_=>by assumption) (by rfl) ?_ ?_;rotate_left;· (intro w;go_simp;try with_reducible rfl);try simp only[Act.put,xA,xE,xC])
  (refine pY 1 (v:=Cd.qK q) rfl (by kernel_rfl) (by kernel_rfl) (by kernel_rfl) (by kernel_rfl) (λ_ _ _ h=>h) (by assumption) (by rfl) (λw' hSw=>Sg.xq _ _ rfl w.heap.size 0 rfl _ _ _ _ hSw.ps.y HPT.out Tryz.underlying28 rfl (by kernel_rfl)) ?_;try simp only[Act.put,xA,xE,xC])
  (refine aG 2 (v:=?_) rfl (by kernel_rfl) (λ_ _ _ h=>h) (λ_=>by assumption) (by rfl) ?_ ?_;rotate_left;· (intro w;go_simp;try with_reducible rfl);try simp only[Act.put,xA,xE,xC])
  (refine aG 3 (v:=?_) rfl (by kernel_rfl) (λ_ _ _ h=>h) (λ_=>by assumption) (by rfl) ?_ ?_;rotate_left;· (intro w;go_simp;try with_reducible rfl);try simp only[Act.put,xA,xE,xC])
  (refine aG 4 (v:=?_) rfl (by kernel_rfl) (λ_ _ _ h=>h) (λ_=>by assumption) (by rfl) ?_ ?_;rotate_left;· (intro w;go_simp;try with_reducible rfl);try simp only[Act.put,xA,xE,xC])
  (refine pY 5 (v:=?_) rfl (by kernel_rfl) (by kernel_rfl) (by kernel_rfl) (by kernel_rfl) (λ_ _ _ h=>h) (by assumption) (by rfl) ?_ ?_;rotate_left;· (intro w hSw;have e5:=HT1.out _ (HB0.out.trans hSw.ps.on.bel);go_simp;try with_reducible rfl);try simp only[Act.put,xA,xE,xC])
  clear hHeld;refine Lst.two 6 10 (by kernel_rfl) rfl rfl (λK hK=>?_) (λK hK=>?_)
  ·go_simp
   refine(HFN.out _ (HB0.out.trans hS0.ps.on.bel)).mono ?_;rintro en X⟨u,rfl,hb,u3,rfl,hu3⟩;obtain⟨A5,n5,c5,rfl⟩:=ah.is hu3;have hS1:=hS0.below hb;(refine hK.out _ _ (λhnn=>absurd hnn (by decide)) ?_;clear hK K;try simp only[Act.put,xA,xE,xC])
   clear hb hS0 hPV;(refine aG 7 (v:=?_) rfl (by kernel_rfl) (λ_ _ _ h=>h) (λhnn=>absurd hnn (by decide)) (by rfl) ?_ ?_;rotate_left;· (intro w;go_simp;try with_reducible rfl);try simp only[Act.put,xA,xE,xC])
   (refine aG 8 (v:=?_) rfl (by kernel_rfl) (λ_ _ _ h=>h) (λhnn=>absurd hnn (by decide)) (by rfl) ?_ ?_;rotate_left;· (intro w;go_simp;try with_reducible rfl);try simp only[Act.put,xA,xE,xC])
   (refine aG 9 (v:=?_) rfl (by kernel_rfl) (λ_ _ _ h=>h) (λhnn=>absurd hnn (by decide)) (by rfl) ?_ ?_;rotate_left;· (intro w;go_simp;try with_reducible rfl);try simp only[Act.put,xA,xE,xC])
   (refine aB 10 (by kernel_rfl) rfl (λK hK=>?_))
   go_simp;have hA:=Bk.new X 42 #[.string ⟨#[]⟩,.bool false,.slice none 0 0];have hS2:=hS1.below ((Below.refl _ _).alloc (xB _) (.cells #[.string ⟨#[]⟩,.bool false,.slice none 0 0] 42));have hlt:=hS1.ps.on.bel.size;have hl2:=hS1.ps.res.lt;(refine hK.out _ _ (λhnn=>absurd hnn (by decide)) ?_;clear hK K;try simp only[Act.put,xA,xE,xC])
   clear hS1;(refine aB 11 (by kernel_rfl) rfl (λK hK=>?_))
   rw[if_pos (by rfl)];(with_reducible refine wp_store_row 42 _ _ rfl (X.heap.size) #[.string rn,.bool false,.slice A5 n5 c5] (by kernel_rfl) (by kernel_rfl) 42 _ (Sg.bk hA) (by kernel_rfl) (by kernel_rfl) (by simp[Value.oneCell']) ?_)
   (refine hK.out _ _ (λhnn=>absurd hnn (by decide)) ?_;clear hK K;try simp only[Act.put,xA,xE,xC])
   (refine aG 12 (v:=?_) rfl (by kernel_rfl) (λ_ _ _ h=>h) (λhnn=>absurd hnn (by decide)) (by rfl) ?_ ?_;rotate_left;· (intro w;go_simp;try with_reducible rfl);try simp only[Act.put,xA,xE,xC])
   refine aV (by kernel_rfl) ?_ _;refine NoPanic.normal ?_;go_wp2_with fail;go_meet
   case rel=>exact⟨X.heap.size,.slice A5 n5 c5,rfl,hid hu3,hid (hA.row _),hid (Cd.PV.other hS2 hlt hA (by omega) (by omega) (by decide) _)⟩
  ·go_simp
   have hA0:=Bk.new V2.drew 42 #[.string ⟨#[]⟩,.bool false,.slice none 0 0];have hS1:=hS0.below ((Below.refl _ _).alloc (xB _) (.cells #[.string ⟨#[]⟩,.bool false,.slice none 0 0] 42));have hlt:=hS0.ps.on.bel.size;have hl2:=hS0.ps.res.lt;(refine hK.out _ _ (λhnn=>hS1) ?_;clear hK K;try simp only[Act.put,xA,xE,xC])
   clear hS0 hPV;(refine aB 6 (by kernel_rfl) rfl (λK hK=>?_))
   go_simp;refine(HFN.out _ (HB0.out.trans hS1.ps.on.bel)).mono ?_;rintro en X⟨u,rfl,hb,u3,rfl,hu3⟩;obtain⟨A5,n5,c5,rfl⟩:=ah.is hu3;have hS2:=hS1.below hb;have hA:=hA0.below hb hA0.lt;(refine hK.out _ _ (λhnn=>absurd hnn (by decide)) ?_;clear hK K;try simp only[Act.put,xA,xE,xC])
   clear hb hS1;(refine aG 7 (v:=?_) rfl (by kernel_rfl) (λ_ _ _ h=>h) (λhnn=>absurd hnn (by decide)) (by rfl) ?_ ?_;rotate_left;· (intro w;go_simp;try with_reducible rfl);try simp only[Act.put,xA,xE,xC])
   (refine aG 8 (v:=?_) rfl (by kernel_rfl) (λ_ _ _ h=>h) (λhnn=>absurd hnn (by decide)) (by rfl) ?_ ?_;rotate_left;· (intro w;go_simp;try with_reducible rfl);try simp only[Act.put,xA,xE,xC])
   (refine aG 9 (v:=?_) rfl (by kernel_rfl) (λ_ _ _ h=>h) (λhnn=>absurd hnn (by decide)) (by rfl) ?_ ?_;rotate_left;· (intro w;go_simp;try with_reducible rfl);try simp only[Act.put,xA,xE,xC])
   (refine aB 11 (by kernel_rfl) rfl (λK hK=>?_))
   rw[if_pos (by rfl)];(with_reducible refine wp_store_row 42 _ _ rfl (V2.drew.heap.size) #[.string rn,.bool false,.slice A5 n5 c5] (by kernel_rfl) (by kernel_rfl) 42 _ (Sg.bk hA) (by kernel_rfl) (by kernel_rfl) (by simp[Value.oneCell']) ?_)
   (refine hK.out _ _ (λhnn=>absurd hnn (by decide)) ?_;clear hK K;try simp only[Act.put,xA,xE,xC])
   (refine aG 12 (v:=?_) rfl (by kernel_rfl) (λ_ _ _ h=>h) (λhnn=>absurd hnn (by decide)) (by rfl) ?_ ?_;rotate_left;· (intro w;go_simp;try with_reducible rfl);try simp only[Act.put,xA,xE,xC])
   refine aV (by kernel_rfl) ?_ _;refine NoPanic.normal ?_;go_wp2_with fail;go_meet
   case rel=>exact⟨V2.drew.heap.size,.slice A5 n5 c5,rfl,hid hu3,hid (hA.row _),hid (Cd.PV.other hS2 hlt hA (by omega) (by omega) (by decide) _)⟩
 case rest =>
  obtain⟨gA,u3,rfl,HU,HQA,HPV⟩:=hcut;obtain⟨W1,rfl⟩:∃ wo:World,wo=wc:=⟨_,rfl⟩;clear HP2 jT HB2 HFN;obtain⟨A3,n3,c3,rfl⟩:=ah.is HU.out;have HN3:Hid (n3=rf.length):=hid (by obtain⟨_,_,e,_⟩:=ah.slice HU.out;injection e);have hn3:n3<=99:=by rw[HN3.out];exact hfl
  have HP2:=hid HPV.out.ps;have jT:=hid HPV.out.val;clear HPV hfl;(have c4:=HP2.out.y.cell 4;have c5:=HP2.out.y.cell 5;have c6:=HP2.out.y.cell 6;have c7:=HP2.out.y.cell 7;have c8:=HP2.out.y.cell 8;have f6:=HP2.out.y.frozen 6;simp only[List.getElem?_toArray,List.getElem?_cons_zero,List.getElem?_cons_succ]at c4 c5 c6 c7 c8)
  try simp only[xY]at c8
  have hwa:IntKind.i64.wrap ((ar:Int)+1)=(ar:Int)+1:=by rw[IntKind.wrap_i64];omega
  obtain⟨⟨x0,x1,x2⟩,-⟩:=HQA.out.k3;have HRC:Hid (Cd.eP (Cd.aY s bb.data.toList k) (rf.map (·.type)) ⟨p,v++[⟨7,0,Cd.E0,n3⟩],z1⟩=R):=hid (by rw[<-HRN.out,HN3.out];rfl);clear HRN;have hL:=Sg.bk HP2.out.y;go_wp2_with(refine wpList_load_row rfl _ _ rfl _ rfl _ _ _ _ hL Tryz.underlying258 rfl (by kernel_rfl) ?_);refine(jY q bb ⟨A9,n9,c9⟩ z1 p 0 w0.heap.size v ⟨7,0,Cd.E0,n3⟩ _ jT.out (by omega) HP2.out.big).mono ?_;rintro en W5⟨v5,rfl,hr5,ho5⟩;have HP5:=hid (HP2.out.go ho5);have HV5:=hid hr5;have HQ5:=hid (ho5.only.bk HQA.out (by decide));(clear c4 c5 c6 c7 c8 f6)
  clear hL ho5 hr5 HP2 jT HQA x0 x1 x2;go_upto_region 54 with(fail)
  refine aj (λV3 hV=>?_);have hp6:=HP5.out.new hV;have hq6:Bk V3 gA 42 #[.string rn,.bool false,.slice A3 n3 c3]:=by rw[hV];exact HQ5.out.alloc _
  have hv6:Vl.bT V3 (some w0.heap.size) (.slice v5.a v5.n v5.c) (v++[⟨7,0,Cd.E0,n3⟩]):=(by rw[hV];exact Vl.bT.below HV5.out ((Below.refl W5.heap.size W5).alloc (xB _) _));have hga:gA≠W5.heap.size:=by have:=HQ5.out.lt;omega
  obtain⟨g,hg⟩:∃ g,W5.heap.size=g:=⟨_,rfl⟩;rw[hg]at hp6 hga ⊢;have FY:Hid (Cd.Acc q bb w0.heap.size w g R (Cd.eP (Cd.aY s bb.data.toList k) ((rf.drop 0).map (·.type))) V3):=hid (.inl ⟨⟨p,v++[⟨7,0,Cd.E0,n3⟩],z1⟩,v5,by rw[List.drop_zero];exact HRC.out,Cd.Fit.put (by omega) (by omega) (by omega),hv6,hp6⟩);have HQ6:=hid hq6;have HGA:=hid hga;clear hV hp6 hq6 hv6 hg hga HP5 HV5 HQ5 HRC;go_wp2_with fail;go_loopw [22] (λi wr=>∃ j:Nat,j<=n3/\i=.int .i64 j/\Hid (Bk wr gA 42 #[.string rn,.bool false,.slice A3 n3 c3])/\Hid (Cd.Acc q bb w0.heap.size w g R (Cd.eP (Cd.aY s bb.data.toList k) ((rf.drop j).map (·.type))) wr)) (λi _=>n3 - (intOf i).toNat)
  case atStart=>exact⟨0,by omega,rfl,HQ6,FY⟩
  case round =>
   obtain⟨j,hj,rfl,HQJ,HJ⟩:=hrel;obtain⟨W,rfl⟩:∃ w',w'=wr:=⟨_,rfl⟩;clear FY HQ6;obtain⟨⟨x0,x1,x2⟩,-⟩:=HQJ.out.k3;rcases HJ.out with⟨⟨yp,yv,yz⟩,yy,hF,hfit,hval,hps⟩|⟨⟨rp,re⟩,yy,yz,hF,hne,hps⟩
   case inr =>
    subst hF;simp only at hne hps;have HP6:=hid hps;have HNE:=hid hne;have t8:((re:Int)==0)=false:=by rw[xG];omega
    clear hps hne HJ;(have c4:=HP6.out.y.cell 4;have c5:=HP6.out.y.cell 5;have c6:=HP6.out.y.cell 6;have c7:=HP6.out.y.cell 7;have c8:=HP6.out.y.cell 8;have f6:=HP6.out.y.frozen 6;simp only[List.getElem?_toArray,List.getElem?_cons_zero,List.getElem?_cons_succ]at c4 c5 c6 c7 c8)
    by_cases hlt:j<n3
    ·have h3:(j:Int)<(n3:Int):=by omega
     (have hL:=Sg.bk HP6.out.y;have hQ:=Sg.bk HP6.out.res;go_wp2_with(first|(refine wpList_load_row rfl _ _ rfl _ rfl _ _ _ _ hL Tryz.underlying258 rfl (by kernel_rfl) ?_)|(refine wpList_store_row rfl _ _ _ rfl _ _ rfl rfl _ _ hQ (by kernel_rfl) (by rfl) (by simp[Value.oneCell']) ?_));exact Sg.dW rfl _ rfl _ _ _ (HP6.out.res.row _) Tryz.underlying258 rfl (by kernel_rfl) rfl ⟨yy,yz,rfl,HNE.out,HP6.out.out _⟩)
    ·have h3:¬(j:Int)<(n3:Int):=by omega
     (have hL:=Sg.bk HP6.out.y;have hQ:=Sg.bk HP6.out.res;go_wp2_with(first|(refine wpList_load_row rfl _ _ rfl _ rfl _ _ _ _ hL Tryz.underlying258 rfl (by kernel_rfl) ?_)|(refine wpList_store_row rfl _ _ _ rfl _ _ rfl rfl _ _ hQ (by kernel_rfl) (by rfl) (by simp[Value.oneCell']) ?_));exact Sg.dW rfl _ rfl _ _ _ (HP6.out.res.row _) Tryz.underlying258 rfl (by kernel_rfl) rfl ⟨yy,yz,rfl,HNE.out,HP6.out.out _⟩)
   simp only at hval hps;have HP6:=hid hps;have HV6:=hid hval;have uJ:=hid hfit;have HFF:=hid hF;clear hps hval hfit hF HJ;(have c4:=HP6.out.y.cell 4;have c5:=HP6.out.y.cell 5;have c6:=HP6.out.y.cell 6;have c7:=HP6.out.y.cell 7;have c8:=HP6.out.y.cell 8;have f6:=HP6.out.y.frozen 6;simp only[List.getElem?_toArray,List.getElem?_cons_zero,List.getElem?_cons_succ]at c4 c5 c6 c7 c8)
   try simp only[xY]at c8
   by_cases hlt:j<n3
   case neg =>
    have HE:Hid (R=.ok ⟨yp,yv,yz⟩):=hid (by rw[<-HFF.out,xP (by rw[<-HN3.out];omega)];rfl);obtain rfl:=HE.out;have h3:¬(j:Int)<(n3:Int):=by omega
    (have hL:=Sg.bk HP6.out.y;have hQ:=Sg.bk HP6.out.res;go_wp2_with(first|(refine wpList_load_row rfl _ _ rfl _ rfl _ _ _ _ hL Tryz.underlying258 rfl (by kernel_rfl) ?_)|(refine wpList_store_row rfl _ _ _ rfl _ _ rfl rfl _ _ hQ (by kernel_rfl) (by rfl) (by simp[Value.oneCell']) ?_));exact Sg.dW rfl _ rfl _ _ _ (HP6.out.res.row _) Tryz.underlying258 rfl (by kernel_rfl) rfl ⟨⟨yy,rfl,Cd.gY HV6.out HP6.out.res (by decide) _,HP6.out.out _⟩,uJ.out⟩)
   have h3:(j:Int)<(n3:Int):=by omega
   have h0:(0:Int)<=(j:Int):=by omega
   have hjl:j<rf.length:=by rw[<-HN3.out];exact hlt
   have HFK:Hid (Cd.eP (Cd.aY s bb.data.toList k) (rf[j].type::(rf.drop (j+1)).map (·.type)) ⟨yp,yv,yz⟩=R):=hid (by rw[<-HFF.out,xQ hjl];rfl);have HTN:=hid (HTF.out rf[j] (xR hjl));obtain⟨g6,zB,cs,e0,-,⟨u',e1,hsu⟩,hc⟩:=ah.get HU.out hjl (by omega);subst e1;obtain rfl:=e0;obtain⟨A5,n5,d5,rfl⟩:=ah.is hsu;have a1:=hc 1 _ rfl;have hg6:g6<w0.heap.size:=xH w0 _ a1;have HA1:=hid a1;have HST:=hid hsu;clear hc hsu a1 HFF;go_upto_region 57 with(fail)
   (clear c4 c5 c6 c7 c8 f6)
   clear x0 x1 x2;have HPd:=hid (HP6.out.below (Below.refl _ _).drew);have HVd:=hid (Vl.bT.below HV6.out (Below.refl _ _).drew);have HQd:=hid HQJ.out.drew;have hcl:=((HB0.out.trans HPd.out.on.bel).cell (p:=⟨g6,zB+j * 2+1,none⟩) hg6).trans HA1.out;refine aO (λw'=>Bk w' g 258 (Cd.stC q bb yy yz yp 0)/\Bk w' gA 42 #[.string rn,.bool false,.slice (some ⟨g6,zB,none⟩) n3 c3]/\w'.cell? ⟨g6,zB+j * 2+1,none⟩=some (.slice A5 n5 d5)) [9] (by kernel_rfl) ⟨HPd.out.y,HQd.out,hcl⟩ (λhHeld=>?_);(refine Lst.takeN 9 0 (v:=.agg (Cd.stC q bb yy yz yp 0)) rfl (by kernel_rfl) (λ_ _ _ h=>h) (by assumption) (by kernel_rfl) (λw' hSw=>Sg.kY _ _ rfl g rfl _ _ _ hSw.1 Tryz.underlying258 rfl (by kernel_rfl)) ?_;try simp only[Act.put,xA,xE,xC])
   (refine aG 1 (v:=?_) rfl (by kernel_rfl) (λ_ _ _ h=>h) (λ_=>by assumption) (by rfl) ?_ ?_;rotate_left;· (intro w;go_simp;try with_reducible rfl);try simp only[Act.put,xA,xE,xC])
   (refine Lst.takeN 9 2 (v:=?_) rfl (by kernel_rfl) (λ_ _ _ h=>h) (by assumption) (by rfl) ?_ ?_;rotate_left;· (intro w hSw;obtain⟨e0,e1,e2⟩:=(Bk.k3 hSw.2.1).1;go_simp;try with_reducible rfl);try simp only[Act.put,xA,xE,xC])
   (refine aG 3 (v:=?_) rfl (by kernel_rfl) (λ_ _ _ h=>h) (λ_=>by assumption) (by rfl) ?_ ?_;rotate_left;· (intro w;go_simp;try with_reducible rfl);try simp only[Act.put,xA,xE,xC])
   (refine aG 4 (v:=?_) rfl (by kernel_rfl) (λ_ _ _ h=>h) (λ_=>by assumption) (by rfl) ?_ ?_;rotate_left;· (intro w;go_simp;try with_reducible rfl);try simp only[Act.put,xA,xE,xC])
   (refine aG 5 (v:=?_) rfl (by kernel_rfl) (λ_ _ _ h=>h) (λ_=>by assumption) (by rfl) ?_ ?_;rotate_left;· (intro w;go_simp;try with_reducible rfl);try simp only[Act.put,xA,xE,xC])
   (refine Lst.takeN 9 6 (v:=?_) rfl (by kernel_rfl) (λ_ _ _ h=>h) (by assumption) (by rfl) ?_ ?_;rotate_left;· (intro w hSw;have e5:=hSw.2.2;go_simp;try with_reducible rfl);try simp only[Act.put,xA,xE,xC])
   (refine aG 7 (v:=?_) rfl (by kernel_rfl) (λ_ _ _ h=>h) (λ_=>by assumption) (by rfl) ?_ ?_;rotate_left;· (intro w;go_simp;try with_reducible rfl);try simp only[Act.put,xA,xE,xC])
   (refine aG 8 (v:=?_) rfl (by kernel_rfl) (λ_ _ _ h=>h) (λ_=>by assumption) (by rfl) ?_ ?_;rotate_left;· (intro w;go_simp;try with_reducible rfl);try simp only[Act.put,xA,xE,xC])
   clear hHeld hcl;(refine aB 9 (by kernel_rfl) rfl (λK hK=>?_))
   go_simp;refine(HIH.out _ rf[j].type ⟨yp,yv,yz⟩ yy _ HTN.out.1 HTN.out.2 uJ.out (HB0.out.trans HPd.out.on.bel) HVd.out HST.out).mono ?_;obtain⟨D,HD⟩:∃ D,Hid (Cd.aY s bb.data.toList k rf[j].type ⟨yp,yv,yz⟩=D):=⟨_,hid rfl⟩;rw[HD.out];rintro en W7 hen;match D,HD,hen with
   | .error r,HD,hen =>
    obtain⟨v7,z7,rfl,hne,ho7⟩:=hen;have HNE:=hid hne;have HP7:=hid (HPd.out.go ho7);have HQ7:=hid (ho7.only.bk HQd.out (by decide));clear ho7 hne;(refine hK.out _ _ (λhnn=>absurd hnn (by decide)) ?_;clear hK K;try simp only[Act.put,xA,xE,xC])
    (refine aB 10 (by kernel_rfl) rfl (λK hK=>?_))
    rw[if_pos (by rfl)];(with_reducible refine wp_store_row 258 _ _ rfl (g) (Cd.stC q bb v7 z7 r.1 r.2) (by kernel_rfl) (by kernel_rfl) 258 _ (Sg.bk HP7.out.y) (by kernel_rfl) (by kernel_rfl) (by simp[Value.oneCell']) ?_)
    (refine hK.out _ _ (λhnn=>absurd hnn (by decide)) ?_;clear hK K;try simp only[Act.put,xA,xE,xC])
    refine aV (by kernel_rfl) ?_ _;refine NoPanic.normal ?_;go_wp2_with fail;go_roundw
    case rel=>exact⟨j+1,by omega,by go_num,hid (HQ7.out.jK HGA.out _),hid (.inr ⟨r,v7,z7,by rw[<-HFK.out];exact Cd.kP HD.out,HNE.out,HP7.out.row _⟩)⟩
    case measure=>simp[intOf];omega
   | .ok y2,HD,hen =>
    obtain⟨⟨v7,rfl,hr7,ho7⟩,hf7⟩:=hen;have HP7:=hid (HPd.out.go ho7);have HQ7:=hid (ho7.only.bk HQd.out (by decide));have HV7:=hid hr7;have HF7:=hid hf7;clear ho7 hr7 hf7;(refine hK.out _ _ (λhnn=>absurd hnn (by decide)) ?_;clear hK K;try simp only[Act.put,xA,xE,xC])
    (refine aB 10 (by kernel_rfl) rfl (λK hK=>?_))
    rw[if_pos (by rfl)];(with_reducible refine wp_store_row 258 _ _ rfl (g) (Cd.stC q bb v7 y2.sz y2.at_ 0) (by kernel_rfl) (by kernel_rfl) 258 _ (Sg.bk HP7.out.y) (by kernel_rfl) (by kernel_rfl) (by simp[Value.oneCell']) ?_)
    (refine hK.out _ _ (λhnn=>absurd hnn (by decide)) ?_;clear hK K;try simp only[Act.put,xA,xE,xC])
    refine aV (by kernel_rfl) ?_ _;refine NoPanic.normal ?_;go_wp2_with fail;go_roundw
    case rel=>exact⟨j+1,by omega,by go_num,hid (HQ7.out.jK HGA.out _),hid (.inl ⟨y2,v7,by rw[<-HFK.out,Cd.mJ HD.out],HF7.out,Cd.gY HV7.out HP7.out.y (by decide) _,HP7.out.row _⟩)⟩
    case measure=>simp[intOf];omega
