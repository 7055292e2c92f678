import Derived.Test.YtogijkhenihaaaaGreatDoorGB36
set_option linter.all false
set_option maxRecDepth 100000
set_option maxHeartbeats 0
namespace Go.Proofs.YtogijkhenihaaaaGreatDoor
open Lib (hid)
open Go.BigFrame Go.RowKit
theorem Oc(s:Id.Sch)(hF:Chk.Fine s)(hR:Chk.Right s)(q:Cd.Q4)(bb:ByteArray)(hbb:bb.size<=1000000)(w0:World)(hs:Id.ay w0 none (Cd.qK q) s)(k:Nat)(hk:k+1<=12)(ih:Cd.og s q bb w0 k):Cd.Ed s q bb w0 (k+1) (λx y=>¬Cd.full x/\y.kind=7/\∀ r,Chk.find s y.name=some r->r.choice=true):=by
 intro tv t x vv w hkk ht h12 hx hb0 hrow hst;obtain⟨R,HR⟩:∃ R,Hid (Cd.aY s bb.data.toList (k+1) t x=R):=⟨_,hid rfl⟩;rw[HR.out];obtain⟨⟨xk,xn⟩,t,rfl⟩:∃ x l,t=x::l:=List.exists_cons_of_ne_nil (Vl.lJ ht);have hkx:=hkk _ _ rfl;clear hkk;obtain⟨ar,har⟩:∃ ar:Nat,ar+k+1=12:=⟨11 - k,by omega⟩;have e12:(12 - ((k+1:Nat):Int))=(ar:Int):=by omega
 have e13:(12 - (k:Int))=(ar:Int)+1:=by omega
 rw[e12];unfold Cd.og at ih;rw[e13]at ih;have HIH:=hid ih;have HTT:=hid ht;have HKN:=hid (Vl.pF ht);obtain⟨A,n,c,rfl⟩:=ah.is hst;have hn:n=t.length+1:=by obtain⟨_,_,e,_⟩:=ah.slice hst;injection e
 have hcn:n<=c:=by obtain⟨_,_,e,h,_⟩:=ah.slice hst;injection e with _ e2 e3;rw[e3,e2];exact h
 have hcm:c<=9223372036854775807:=by obtain⟨_,_,e,_,h,_⟩:=ah.slice hst;injection e with _ _ e3;omega
 have hnm:n<=12:=by rw[hn];simpa using h12
 obtain⟨g7,dJ,cs,rfl,-⟩:=ah.get hst (i:=0) (by simp) (by omega);have HLT:Hid (n=t.length+1):=hid hn;have hn1:0<n:=by omega
 have hn0:(0:Int)<(n:Int):=by omega
 obtain⟨tt0,tt1⟩:=Cd.sW hst;have hg7:g7<w0.heap.size:=xH w0 _ tt0;have hg8:g7<w0.heap.size:=hg7;have HT0:=hid (λ(W:World) (h:Below w0.heap.size w0 W)=>((h.cell (p:=⟨g7,dJ,none⟩) hg7).trans tt0));have HT1:=hid (λ(W:World) (h:Below w0.heap.size w0 W)=>((h.cell (p:=⟨g7,dJ+1,none⟩) hg7).trans tt1));have HTL:=hid (λ(y:Id.Srt) (l:List Id.Srt) (e:t=y::l)=>ah.tail hst);have HFI:=hid (λW hW=>qj (Cd.qK q) s xn w0 W hs hW);have HTY:Hid (∀ r,Chk.find s xn=some r->r.fields.length<=99/\∀ f∈r.fields,Chk.okT s f.type=true/\f.type.length<=12):=hid (λr hr=>by
  have hrm:r∈s.records:=List.mem_of_find?_eq_some hr;exact⟨(hF.re r hrm).2.1,λf hf=>Vl.lZ (Vl.nV hR hrm hf)⟩)
 obtain⟨p,v,z⟩:=x;obtain⟨A9,n9,c9⟩:=vv;have HN9:Hid (n9=v.length):=hid (by obtain⟨_,_,e,_⟩:=ah.slice hrow;injection e);have hv9:n9<=4096:=by rw[HN9.out];exact hx.hv
 have hz9:z<=4096:=hx.hz;have hp9:p<=bb.size:=hx.ha;have HRW:=hid hrow;have HB0:=hid hb0;have hB:=hb0.size;clear hx hb0 hrow hst ht h12 ih e12 e13 hn hs hF hR tt0 tt1 hg7;have hnf:¬(4096<=v.length∨4096<=z):=hkx.1;have h1:¬n9=4096:=by rw[HN9.out];omega
 have h2:¬z=4096:=by omega
 replace hkx:xk=7/\∀ r,Chk.find s xn=some r->r.choice=true:=hkx.2;clear hnf;go_enter Tryz.func192,Tryz.ntmps192;go_upto_region 1 with(fail)
 refine aj (λV hV=>?_);have HP:=hid (Cd.PS.start hB hV);have HRV:=hid (Vl.bT.below HRW.out (Cd.DI.start hV).bel);clear hV HRW;(have c4:=HP.out.y.cell 4;have c5:=HP.out.y.cell 5;have c6:=HP.out.y.cell 6;have c7:=HP.out.y.cell 7;have c8:=HP.out.y.cell 8;have f6:=HP.out.y.frozen 6;simp only[List.getElem?_toArray,List.getElem?_cons_zero,List.getElem?_cons_succ]at c4 c5 c6 c7 c8)
 try simp only[xY]at c8
 have ha1:¬(12:Int)<=(ar:Int):=by omega
 have hwz:IntKind.i64.wrap ((z:Int)+1)=((z+1:Nat):Int):=by rw[IntKind.wrap_i64];omega
 have t1:¬(4096:Int)<=(n9:Int):=by omega
 have t2:¬(4096:Int)<((z+1:Nat):Int):=by omega
 have HNF:Hid (¬Cd.full ⟨p,v,z⟩):=hid (by unfold Cd.full;simp only;rw[<-HN9.out];omega);have hvl:v.length<4096:=by rw[<-HN9.out];omega
 go_upto_region 7 with(fail)
 refine aj (λV2 hV=>?_);have HRR:Hid ((if Cd.iy xk then Cd.uH bb.data.toList xk ⟨p,v,z+1⟩else Cd.goD (Cd.aY s bb.data.toList k) (Cd.o7 s bb.data.toList ⟨xk,xn⟩ t ⟨p,v,z+1⟩))=R):=hid (by rw[<-HR.out,Cd.aY,if_neg HNF.out];rfl);have HP2:Hid (Cd.PS w0.heap.size w w.heap.size (Cd.stC q bb ⟨A9,n9,c9⟩ (z+1) p 0) V2):=hid (by rw[hV];exact HP.out.set 6 (.int .i64 ((z+1:Nat):Int)));have jT:Hid (Vl.bT V2 (some w0.heap.size) (.slice A9 n9 c9) v):=hid (by rw[hV];exact Cd.pq HRV.out HP.out.y (by decide) 6 _);have hz1:z+1<=4096:=by omega
 clear hV HP HRV HR HNF h1 h2 t1 t2 hwz hz9 ha1;(clear c4 c5 c6 c7 c8 f6)
 generalize z+1=z1 at *;have hb2:=HB0.out.trans HP2.out.on.bel;have HB2:=hid hb2;have t0:=HT0.out _ hb2;clear hb2;(have c4:=HP2.out.y.cell 4;have c5:=HP2.out.y.cell 5;have c6:=HP2.out.y.cell 6;have c7:=HP2.out.y.cell 7;have c8:=HP2.out.y.cell 8;have f6:=HP2.out.y.frozen 6;simp only[List.getElem?_toArray,List.getElem?_cons_zero,List.getElem?_cons_succ]at c4 c5 c6 c7 c8)
 try simp only[xY]at c8
 have HNL:Hid (¬Cd.iy xk):=hid (by have h:=hkx.1;unfold Cd.iy;omega);have k5:¬xk=5:=by have h:=hkx.1;omega
 have k6:¬xk=6:=by have h:=hkx.1;omega
 have hk7:xk=7/\t=[]/\(Chk.find s xn).isSome=true:=by
  rcases HKN.out with h|h|h|h
  ·exact absurd (show Cd.iy xk from h) HNL.out
  ·exact absurd h k5
  ·exact absurd h k6
  ·exact h
 obtain⟨rfl,rfl,hfs⟩:=hk7;obtain⟨⟨rn,rc,rf⟩,hfr⟩:=Option.isSome_iff_exists.1 hfs;obtain⟨hfl,hty⟩:=HTY.out _ hfr;have HTF:=hid hty;have hfi:=λW hW=>HFI.out W hW
 rw[hfr]at hfi;simp only[Option.getD_some,Option.isSome_some]at hfi;have HFN:=hid hfi;have HRN:Hid (Cd.goD (Cd.aY s bb.data.toList k) (Cd.BP ⟨rn,rc,rf⟩ bb.data.toList ⟨p,v,z1⟩)=R):=hid (by
  rw[<-HRR.out,if_neg HNL.out];unfold Cd.o7;rw[if_neg (show ¬(7:Nat)=5 by decide),if_neg (show ¬(7:Nat)=6 by decide)];simp only;rw[hfr];rfl)
 simp only at hfl;obtain rfl:rc=true:=hkx.2 _ hfr;clear hkx hfs hfi hty hfr HFI HTY HRR HKN HTT k5 k6 HTL;go_upto_region 44 with(fail)
 (clear c4 c5 c6 c7 c8 f6)
 clear t0;go_cut [17] (λu wx=>∃(gA:Nat)(u3:Value),u=.pointer (some ⟨gA,0,none⟩)/\Hid (Id.jC w0 none u3 rf)/\Hid (Bk wx gA 42 #[.string rn,.bool true,u3])/\Hid (Cd.PV w0.heap.size w w.heap.size q bb ⟨A9,n9,c9⟩ z1 p 0 v wx))
 case first =>
  have hPV:Cd.PV w0.heap.size w w.heap.size q bb ⟨A9,n9,c9⟩ z1 p 0 v V2.drew:=Cd.PV.below ⟨HP2.out,jT.out⟩ (Below.refl _ _).drew;have hS0:=hPV;refine aO (λw'=>Cd.PV w0.heap.size w w.heap.size q bb ⟨A9,n9,c9⟩ z1 p 0 v w') [6] (by kernel_rfl) hPV (λhHeld=>?_);have HPT:=hid (Cd.EX q bb ⟨A9,n9,c9⟩ z1 p 0);(refine aG 0 (v:=?_) rfl (by kernel_rfl) (λ_ _ _ h=>h) (λ_=>by assumption) (by rfl) ?_ ?_;rotate_left;· (intro w;go_simp;try with_reducible rfl);try simp only[Act.put,xA,xE,xC])
  (refine pY 1 (v:=Cd.qK q) rfl (by kernel_rfl) (by kernel_rfl) (by kernel_rfl) (by kernel_rfl) (λ_ _ _ h=>h) (by assumption) (by rfl) (λw' hSw=>Sg.xq _ _ rfl w.heap.size 0 rfl _ _ _ _ hSw.ps.y HPT.out Tryz.underlying28 rfl (by kernel_rfl)) ?_;try simp only[Act.put,xA,xE,xC])
  (refine aG 2 (v:=?_) rfl (by kernel_rfl) (λ_ _ _ h=>h) (λ_=>by assumption) (by rfl) ?_ ?_;rotate_left;· (intro w;go_simp;try with_reducible rfl);try simp only[Act.put,xA,xE,xC])
  (refine aG 3 (v:=?_) rfl (by kernel_rfl) (λ_ _ _ h=>h) (λ_=>by assumption) (by rfl) ?_ ?_;rotate_left;· (intro w;go_simp;try with_reducible rfl);try simp only[Act.put,xA,xE,xC])
  (refine aG 4 (v:=?_) rfl (by kernel_rfl) (λ_ _ _ h=>h) (λ_=>by assumption) (by rfl) ?_ ?_;rotate_left;· (intro w;go_simp;try with_reducible rfl);try simp only[Act.put,xA,xE,xC])
  (refine pY 5 (v:=?_) rfl (by kernel_rfl) (by kernel_rfl) (by kernel_rfl) (by kernel_rfl) (λ_ _ _ h=>h) (by assumption) (by rfl) ?_ ?_;rotate_left;· (intro w hSw;have e5:=HT1.out _ (HB0.out.trans hSw.ps.on.bel);go_simp;try with_reducible rfl);try simp only[Act.put,xA,xE,xC])
  clear hHeld;refine Lst.two 6 10 (by kernel_rfl) rfl rfl (λK hK=>?_) (λK hK=>?_)
  ·go_simp
   refine(HFN.out _ (HB0.out.trans hS0.ps.on.bel)).mono ?_;rintro en X⟨u,rfl,hb,u3,rfl,hu3⟩;obtain⟨A5,n5,c5,rfl⟩:=ah.is hu3;have hS1:=hS0.below hb;(refine hK.out _ _ (λhnn=>absurd hnn (by decide)) ?_;clear hK K;try simp only[Act.put,xA,xE,xC])
   clear hb hS0 hPV;(refine aG 7 (v:=?_) rfl (by kernel_rfl) (λ_ _ _ h=>h) (λhnn=>absurd hnn (by decide)) (by rfl) ?_ ?_;rotate_left;· (intro w;go_simp;try with_reducible rfl);try simp only[Act.put,xA,xE,xC])
   (refine aG 8 (v:=?_) rfl (by kernel_rfl) (λ_ _ _ h=>h) (λhnn=>absurd hnn (by decide)) (by rfl) ?_ ?_;rotate_left;· (intro w;go_simp;try with_reducible rfl);try simp only[Act.put,xA,xE,xC])
   (refine aG 9 (v:=?_) rfl (by kernel_rfl) (λ_ _ _ h=>h) (λhnn=>absurd hnn (by decide)) (by rfl) ?_ ?_;rotate_left;· (intro w;go_simp;try with_reducible rfl);try simp only[Act.put,xA,xE,xC])
   (refine aB 10 (by kernel_rfl) rfl (λK hK=>?_))
   go_simp;have hA:=Bk.new X 42 #[.string ⟨#[]⟩,.bool false,.slice none 0 0];have hS2:=hS1.below ((Below.refl _ _).alloc (xB _) (.cells #[.string ⟨#[]⟩,.bool false,.slice none 0 0] 42));have hlt:=hS1.ps.on.bel.size;have hl2:=hS1.ps.res.lt;(refine hK.out _ _ (λhnn=>absurd hnn (by decide)) ?_;clear hK K;try simp only[Act.put,xA,xE,xC])
   clear hS1;(refine aB 11 (by kernel_rfl) rfl (λK hK=>?_))
   rw[if_pos (by rfl)];(with_reducible refine wp_store_row 42 _ _ rfl (X.heap.size) #[.string rn,.bool true,.slice A5 n5 c5] (by kernel_rfl) (by kernel_rfl) 42 _ (Sg.bk hA) (by kernel_rfl) (by kernel_rfl) (by simp[Value.oneCell']) ?_)
   (refine hK.out _ _ (λhnn=>absurd hnn (by decide)) ?_;clear hK K;try simp only[Act.put,xA,xE,xC])
   (refine aG 12 (v:=?_) rfl (by kernel_rfl) (λ_ _ _ h=>h) (λhnn=>absurd hnn (by decide)) (by rfl) ?_ ?_;rotate_left;· (intro w;go_simp;try with_reducible rfl);try simp only[Act.put,xA,xE,xC])
   refine aV (by kernel_rfl) ?_ _;refine NoPanic.normal ?_;go_wp2_with fail;go_meet
   case rel=>exact⟨X.heap.size,.slice A5 n5 c5,rfl,hid hu3,hid (hA.row _),hid (Cd.PV.other hS2 hlt hA (by omega) (by omega) (by decide) _)⟩
  ·go_simp
   have hA0:=Bk.new V2.drew 42 #[.string ⟨#[]⟩,.bool false,.slice none 0 0];have hS1:=hS0.below ((Below.refl _ _).alloc (xB _) (.cells #[.string ⟨#[]⟩,.bool false,.slice none 0 0] 42));have hlt:=hS0.ps.on.bel.size;have hl2:=hS0.ps.res.lt;(refine hK.out _ _ (λhnn=>hS1) ?_;clear hK K;try simp only[Act.put,xA,xE,xC])
   clear hS0 hPV;(refine aB 6 (by kernel_rfl) rfl (λK hK=>?_))
   go_simp;refine(HFN.out _ (HB0.out.trans hS1.ps.on.bel)).mono ?_;rintro en X⟨u,rfl,hb,u3,rfl,hu3⟩;obtain⟨A5,n5,c5,rfl⟩:=ah.is hu3;have hS2:=hS1.below hb;have hA:=hA0.below hb hA0.lt;(refine hK.out _ _ (λhnn=>absurd hnn (by decide)) ?_;clear hK K;try simp only[Act.put,xA,xE,xC])
   clear hb hS1;(refine aG 7 (v:=?_) rfl (by kernel_rfl) (λ_ _ _ h=>h) (λhnn=>absurd hnn (by decide)) (by rfl) ?_ ?_;rotate_left;· (intro w;go_simp;try with_reducible rfl);try simp only[Act.put,xA,xE,xC])
   (refine aG 8 (v:=?_) rfl (by kernel_rfl) (λ_ _ _ h=>h) (λhnn=>absurd hnn (by decide)) (by rfl) ?_ ?_;rotate_left;· (intro w;go_simp;try with_reducible rfl);try simp only[Act.put,xA,xE,xC])
   (refine aG 9 (v:=?_) rfl (by kernel_rfl) (λ_ _ _ h=>h) (λhnn=>absurd hnn (by decide)) (by rfl) ?_ ?_;rotate_left;· (intro w;go_simp;try with_reducible rfl);try simp only[Act.put,xA,xE,xC])
   (refine aB 11 (by kernel_rfl) rfl (λK hK=>?_))
   rw[if_pos (by rfl)];(with_reducible refine wp_store_row 42 _ _ rfl (V2.drew.heap.size) #[.string rn,.bool true,.slice A5 n5 c5] (by kernel_rfl) (by kernel_rfl) 42 _ (Sg.bk hA) (by kernel_rfl) (by kernel_rfl) (by simp[Value.oneCell']) ?_)
   (refine hK.out _ _ (λhnn=>absurd hnn (by decide)) ?_;clear hK K;try simp only[Act.put,xA,xE,xC])
   (refine aG 12 (v:=?_) rfl (by kernel_rfl) (λ_ _ _ h=>h) (λhnn=>absurd hnn (by decide)) (by rfl) ?_ ?_;rotate_left;· (intro w;go_simp;try with_reducible rfl);try simp only[Act.put,xA,xE,xC])
   refine aV (by kernel_rfl) ?_ _;refine NoPanic.normal ?_;go_wp2_with fail;go_meet
   case rel=>exact⟨V2.drew.heap.size,.slice A5 n5 c5,rfl,hid hu3,hid (hA.row _),hid (Cd.PV.other hS2 hlt hA (by omega) (by omega) (by decide) _)⟩
 case rest =>
  obtain⟨gA,u3,rfl,HU,HQA,HPV⟩:=hcut;obtain⟨W1,rfl⟩:∃ wo:World,wo=wc:=⟨_,rfl⟩;clear HP2 jT HB2 HFN;obtain⟨A3,n3,c3,rfl⟩:=ah.is HU.out;have HN3:Hid (n3=rf.length):=hid (by obtain⟨_,_,e,_⟩:=ah.slice HU.out;injection e);have hn3:n3<=99:=by rw[HN3.out];exact hfl
  have HP2:=hid HPV.out.ps;have jT:=hid HPV.out.val;clear HPV hfl;(have c4:=HP2.out.y.cell 4;have c5:=HP2.out.y.cell 5;have c6:=HP2.out.y.cell 6;have c7:=HP2.out.y.cell 7;have c8:=HP2.out.y.cell 8;have f6:=HP2.out.y.frozen 6;simp only[List.getElem?_toArray,List.getElem?_cons_zero,List.getElem?_cons_succ]at c4 c5 c6 c7 c8)
  try simp only[xY]at c8
  have hwa:IntKind.i64.wrap ((ar:Int)+1)=(ar:Int)+1:=by rw[IntKind.wrap_i64];omega
  obtain⟨⟨x0,x1,x2⟩,-⟩:=HQA.out.k3;have hrb:(match Cd.num bb.data.toList p with
   | .error e=>.error e
   | .ok q=>if n3<=q.1 then .error (p,162)else Cd.eP (Cd.aY s bb.data.toList k) [(rf.map (·.type)).getD q.1 []] ⟨q.2,v++[⟨8,q.1,Cd.E0,1⟩],z1⟩:Cd.Rs Cd.S)=R:=by
   rw[<-HRN.out,HN3.out];unfold Cd.BP;rw[if_pos rfl];unfold Cd.BQ;simp only;generalize Cd.num bb.data.toList p=O;cases O with
   |error e=>rfl
   |ok q=>(simp only;split<;>rfl)
  have hrd:=λW=>tX q bb hbb ⟨A9,n9,c9⟩ z1 p 0 hp9 W
  obtain⟨O,HO⟩:∃ O,Hid (Cd.num bb.data.toList p=O):=⟨_,hid rfl⟩;rw[HO.out]at hrb hrd;have HRB:=hid hrb;have HRD:=hid hrd;have HER:=hid (λ(r:Nat × Nat) (h:O=.error r)=>Cd.vw (HO.out.trans h));have HOK:=hid (λ(u j:Nat) (h:O=.ok (u,j))=>Cd.uQ (HO.out.trans h));have HBL:Hid (bb.data.toList.length=bb.size):=hid (by simp);clear hrb hrd HO HRN;have hL:=Sg.bk HP2.out.y;go_wp2_with(refine wpList_load_row rfl _ _ rfl _ rfl _ _ _ _ hL Tryz.underlying258 rfl (by kernel_rfl) ?_);refine(HRD.out _).mono ?_;rintro en W2⟨hen,hb2⟩;have HP3:=hid (HP2.out.below hb2);have lI:=hid (Vl.bT.below jT.out hb2);have HQ3:=hid (HQA.out.below hb2 HQA.out.lt);clear hb2 hL HRD HP2 jT HQA x0 x1 x2;(clear c4 c5 c6 c7 c8 f6)
  match O,hen,HRB,HER,HOK with
  | .error r,hen,HRB,HER,HOK=>(obtain⟨pp,ee⟩:=r;obtain rfl:=hen;have hee:ee≠0:=HER.out (pp,ee) rfl;have HEE:=hid hee;have HE:Hid (R=.error (pp,ee)):=hid HRB.out.symm;obtain rfl:=HE.out;have t1:((ee:Int) != 0)=true:=(by rw[bne_iff_ne];omega);simp only;go_upto_region 47 with(fail);refine aj (λV3 hV=>?_);have HP4:=hid (HP3.out.new hV);clear hV hee HER HOK HRB HE HP3 lI;(have c4:=HP4.out.y.cell 4;have c5:=HP4.out.y.cell 5;have c6:=HP4.out.y.cell 6;have c7:=HP4.out.y.cell 7;have c8:=HP4.out.y.cell 8;have f6:=HP4.out.y.frozen 6;simp only[List.getElem?_toArray,List.getElem?_cons_zero,List.getElem?_cons_succ]at c4 c5 c6 c7 c8);(have hL:=Sg.bk HP4.out.y;have hQ:=Sg.bk HP4.out.res;go_wp2_with(first|(refine wpList_load_row rfl _ _ rfl _ rfl _ _ _ _ hL Tryz.underlying258 rfl (by kernel_rfl) ?_)|(refine wpList_store_row rfl _ _ _ rfl _ _ rfl rfl _ _ hQ (by kernel_rfl) (by rfl) (by simp[Value.oneCell']) ?_));exact Sg.dW rfl _ rfl _ _ _ (HP4.out.res.row _) Tryz.underlying258 rfl (by kernel_rfl) rfl ⟨⟨A9,n9,c9⟩,z1,rfl,HEE.out,HP4.out.out _⟩))
  | .ok r,hen,HRB,HER,HOK =>
   obtain⟨u,pp⟩:=r;obtain rfl:=hen;obtain⟨hu,-,hlt,hpp⟩:=HOK.out u pp rfl;rw[HBL.out]at hpp;simp only;go_upto_region 47 with(fail)
   refine aj (λV3 hV=>?_);have hp4:=HP3.out.new hV;have hq4:Bk V3 gA 42 #[.string rn,.bool true,.slice A3 n3 c3]:=by rw[hV];exact HQ3.out.alloc _
   have oO:Vl.bT V3 (some w0.heap.size) (.slice A9 n9 c9) v:=(by rw[hV];exact Vl.bT.below lI.out ((Below.refl W2.heap.size W2).alloc (xB _) _));have hga:gA≠W2.heap.size:=by have:=HQ3.out.lt;omega
   obtain⟨g,hg⟩:∃ g,W2.heap.size=g:=⟨_,rfl⟩;rw[hg]at hp4 hga ⊢;have HP4:=hid hp4;have pW:=hid oO;have HQ4:=hid hq4;have HGA:=hid hga;clear hV hp4 oO hq4 hg hga HP3 lI HER HOK HQ3;(have c4:=HP4.out.y.cell 4;have c5:=HP4.out.y.cell 5;have c6:=HP4.out.y.cell 6;have c7:=HP4.out.y.cell 7;have c8:=HP4.out.y.cell 8;have f6:=HP4.out.y.frozen 6;simp only[List.getElem?_toArray,List.getElem?_cons_zero,List.getElem?_cons_succ]at c4 c5 c6 c7 c8)
   try simp only[xY]at c8
   obtain⟨⟨x0,x1,x2⟩,-⟩:=HQ4.out.k3;have hw9:IntKind.u64.wrap (n3:Int)=(n3:Int):=by rw[IntKind.wrap_u64];omega
   by_cases h1:n3<=u
   ·have HE:Hid (R=.error (p,162)):=hid (by rw[<-HRB.out];simp only;rw[if_pos h1])
    obtain rfl:=HE.out;have t1:(n3:Int)<=(u:Int):=by omega
    (have hL:=Sg.bk HP4.out.y;go_wp2_with(refine wpList_load_row rfl _ _ rfl _ rfl _ _ _ _ hL Tryz.underlying258 rfl (by kernel_rfl) ?_);refine(gy q bb ⟨A9,n9,c9⟩ z1 pp 0 p 162 _).mono ?_;rintro en W3⟨rfl,hb3⟩;have HF:=hid (HP4.out.below hb3);clear hb3 hL;have hQ:=Sg.bk HF.out.res;go_wp2_with(refine wpList_store_row rfl _ _ _ rfl _ _ rfl rfl _ _ hQ (by kernel_rfl) (by rfl) (by simp[Value.oneCell']) ?_);exact Sg.dW rfl _ rfl _ _ _ (HF.out.res.row _) Tryz.underlying258 rfl (by kernel_rfl) rfl ⟨⟨A9,n9,c9⟩,z1,rfl,(show(162:Nat)≠0 by decide),HF.out.out _⟩)
   have hul:u<rf.length:=by rw[<-HN3.out];omega
   have HRM:Hid (Cd.eP (Cd.aY s bb.data.toList k) [rf[u].type] ⟨pp,v++[⟨8,u,Cd.E0,1⟩],z1⟩=R):=hid (by
    rw[<-HRB.out];simp only;rw[if_neg h1,yG,List.getElem?_map,yF hul];rfl)
   have HTN:=hid (HTF.out rf[u] (xR hul));have t1:¬(n3:Int)<=(u:Int):=by omega
   have hwu:IntKind.i64.wrap (u:Int)=(u:Int):=by rw[IntKind.wrap_i64];omega
   have hL:=Sg.bk HP4.out.y;go_wp2_with(refine wpList_load_row rfl _ _ rfl _ rfl _ _ _ _ hL Tryz.underlying258 rfl (by kernel_rfl) ?_);refine(jY q bb ⟨A9,n9,c9⟩ z1 pp 0 w0.heap.size v ⟨8,u,Cd.E0,1⟩ _ pW.out (by omega) HP4.out.big).mono ?_;rintro en W5⟨yy,rfl,hr5,ho5⟩;have hp5:=HP4.out.go ho5;have HP6:=hid (hp5.row (Cd.stC q bb yy z1 pp 0));have HV6:=hid (Cd.gY hr5 hp5.y (by decide) (Cd.stC q bb yy z1 pp 0));have HQ6:=hid ((ho5.only.bk HQ4.out (by decide)).jK HGA.out (Cd.stC q bb yy z1 pp 0));have uJ:Hid (Cd.Fit bb ⟨pp,v++[⟨8,u,Cd.E0,1⟩],z1⟩):=hid (Cd.Fit.put (by omega) (by omega) (by omega));have hQ:=Sg.bk hp5.y;obtain⟨g6,zB,cs,e0,-,⟨u',e1,hsu⟩,hc⟩:=ah.get HU.out hul (by omega);subst e1;obtain rfl:=e0;obtain⟨A5,n5,d5,rfl⟩:=ah.is hsu;have a1:=hc 1 _ rfl;have hg6:g6<w0.heap.size:=xH w0 _ a1;have HA1:=hid a1;have HST:=hid hsu;have hn0:(0:Int)<=(u:Int):=by omega
   have hnn:(u:Int)<(n3:Int):=by omega
   have hun:u<n3:=by omega
   (clear c4 c5 c6 c7 c8 f6)
   clear hL ho5 hr5 HP4 pW HRB HQ4 x0 x1 x2 hc hsu a1;go_upto_region 52 with(refine wpList_store_row rfl _ _ _ rfl _ _ rfl rfl _ _ hQ (by kernel_rfl) (by rfl) (by simp[Value.oneCell']) ?_)
   clear hQ hp5;generalize W5.setRow g (Cd.stC q bb yy z1 pp 0)=W6 at *;generalize v++[(⟨8,u,Cd.E0,1⟩:Vl.Node)]=yv at *;have HPd:=hid (HP6.out.below (Below.refl _ _).drew);have HVd:=hid (Vl.bT.below HV6.out (Below.refl _ _).drew);have HQd:=hid HQ6.out.drew;have hcl:=((HB0.out.trans HPd.out.on.bel).cell (p:=⟨g6,zB+u * 2+1,none⟩) hg6).trans HA1.out;refine aO (λw'=>Bk w' g 258 (Cd.stC q bb yy z1 pp 0)/\Bk w' gA 42 #[.string rn,.bool true,.slice (some ⟨g6,zB,none⟩) n3 c3]/\w'.cell? ⟨g6,zB+u * 2+1,none⟩=some (.slice A5 n5 d5)) [9] (by kernel_rfl) ⟨HPd.out.y,HQd.out,hcl⟩ (λhHeld=>?_);(refine Lst.takeN 9 0 (v:=.agg (Cd.stC q bb yy z1 pp 0)) rfl (by kernel_rfl) (λ_ _ _ h=>h) (by assumption) (by kernel_rfl) (λw' hSw=>Sg.kY _ _ rfl g rfl _ _ _ hSw.1 Tryz.underlying258 rfl (by kernel_rfl)) ?_;try simp only[Act.put,xA,xE,xC])
   (refine aG 1 (v:=?_) rfl (by kernel_rfl) (λ_ _ _ h=>h) (λ_=>by assumption) (by rfl) ?_ ?_;rotate_left;· (intro w;go_simp;try with_reducible rfl);try simp only[Act.put,xA,xE,xC])
   (refine Lst.takeN 9 2 (v:=?_) rfl (by kernel_rfl) (λ_ _ _ h=>h) (by assumption) (by rfl) ?_ ?_;rotate_left;· (intro w hSw;obtain⟨e0,e1,e2⟩:=(Bk.k3 hSw.2.1).1;go_simp;try with_reducible rfl);try simp only[Act.put,xA,xE,xC])
   (refine aG 3 (v:=?_) rfl (by kernel_rfl) (λ_ _ _ h=>h) (λ_=>by assumption) (by rfl) ?_ ?_;rotate_left;· (intro w;go_simp;try with_reducible rfl);try simp only[Act.put,xA,xE,xC])
   (refine aG 4 (v:=?_) rfl (by kernel_rfl) (λ_ _ _ h=>h) (λ_=>by assumption) (by rfl) ?_ ?_;rotate_left;· (intro w;go_simp;try with_reducible rfl);try simp only[Act.put,xA,xE,xC])
   (refine aG 5 (v:=?_) rfl (by kernel_rfl) (λ_ _ _ h=>h) (λ_=>by assumption) (by rfl) ?_ ?_;rotate_left;· (intro w;go_simp;try with_reducible rfl);try simp only[Act.put,xA,xE,xC])
   (refine Lst.takeN 9 6 (v:=?_) rfl (by kernel_rfl) (λ_ _ _ h=>h) (by assumption) (by rfl) ?_ ?_;rotate_left;· (intro w hSw;have e5:=hSw.2.2;go_simp;try with_reducible rfl);try simp only[Act.put,xA,xE,xC])
   (refine aG 7 (v:=?_) rfl (by kernel_rfl) (λ_ _ _ h=>h) (λ_=>by assumption) (by rfl) ?_ ?_;rotate_left;· (intro w;go_simp;try with_reducible rfl);try simp only[Act.put,xA,xE,xC])
   (refine aG 8 (v:=?_) rfl (by kernel_rfl) (λ_ _ _ h=>h) (λ_=>by assumption) (by rfl) ?_ ?_;rotate_left;· (intro w;go_simp;try with_reducible rfl);try simp only[Act.put,xA,xE,xC])
   clear hHeld hcl;(refine aB 9 (by kernel_rfl) rfl (λK hK=>?_))
   go_simp;refine(HIH.out _ rf[u].type ⟨pp,yv,z1⟩ yy _ HTN.out.1 HTN.out.2 uJ.out (HB0.out.trans HPd.out.on.bel) HVd.out HST.out).mono ?_;obtain⟨D,HD⟩:∃ D,Hid (Cd.aY s bb.data.toList k rf[u].type ⟨pp,yv,z1⟩=D):=⟨_,hid rfl⟩;rw[HD.out];rintro en W7 hen;match D,HD,hen with
   | .error r,HD,hen =>
    obtain⟨v7,z7,rfl,hne,ho7⟩:=hen;have HE:Hid (R=.error r):=hid (by rw[<-HRM.out];exact Cd.kP HD.out);obtain rfl:=HE.out;have HNE:=hid hne;have HP7:=hid (HPd.out.go ho7);clear ho7 hne;(refine hK.out _ _ (λhnn=>absurd hnn (by decide)) ?_;clear hK K;try simp only[Act.put,xA,xE,xC])
    (refine aB 10 (by kernel_rfl) rfl (λK hK=>?_))
    rw[if_pos (by rfl)];(with_reducible refine wp_store_row 258 _ _ rfl (w.heap.size+1) (Cd.stC q bb v7 z7 r.1 r.2) (by kernel_rfl) (by kernel_rfl) 258 _ (Sg.bk HP7.out.res) (by kernel_rfl) (by kernel_rfl) (by simp[Value.oneCell']) ?_)
    (refine hK.out _ _ (λhnn=>absurd hnn (by decide)) ?_;clear hK K;try simp only[Act.put,xA,xE,xC])
    refine aV (by kernel_rfl) ?_ _;refine NoPanic.normal ?_;go_wp2_with fail;exact Sg.dW rfl _ rfl _ _ _ (HP7.out.res.row _) Tryz.underlying258 rfl (by kernel_rfl) rfl ⟨v7,z7,rfl,HNE.out,HP7.out.out _⟩
   | .ok y2,HD,hen =>
    obtain⟨⟨v7,rfl,hr7,ho7⟩,hf7⟩:=hen;have HE:Hid (R=.ok y2):=hid (by rw[<-HRM.out,Cd.mJ HD.out];rfl);obtain rfl:=HE.out;have HP7:=hid (HPd.out.go ho7);have HV7:=hid hr7;have HF7:=hid hf7;clear ho7 hr7 hf7;(refine hK.out _ _ (λhnn=>absurd hnn (by decide)) ?_;clear hK K;try simp only[Act.put,xA,xE,xC])
    (refine aB 10 (by kernel_rfl) rfl (λK hK=>?_))
    rw[if_pos (by rfl)];(with_reducible refine wp_store_row 258 _ _ rfl (w.heap.size+1) (Cd.stC q bb v7 y2.sz y2.at_ 0) (by kernel_rfl) (by kernel_rfl) 258 _ (Sg.bk HP7.out.res) (by kernel_rfl) (by kernel_rfl) (by simp[Value.oneCell']) ?_)
    (refine hK.out _ _ (λhnn=>absurd hnn (by decide)) ?_;clear hK K;try simp only[Act.put,xA,xE,xC])
    refine aV (by kernel_rfl) ?_ _;refine NoPanic.normal ?_;go_wp2_with fail;exact Sg.dW rfl _ rfl _ _ _ (HP7.out.res.row _) Tryz.underlying258 rfl (by kernel_rfl) rfl ⟨⟨v7,rfl,Cd.gY HV7.out HP7.out.res (by decide) _,HP7.out.out _⟩,HF7.out⟩
