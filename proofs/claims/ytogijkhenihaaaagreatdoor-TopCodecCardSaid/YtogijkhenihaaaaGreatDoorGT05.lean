import Derived.Test.YtogijkhenihaaaaGreatDoorGT03
import Derived.Test.YtogijkhenihaaaaGreatDoorGT04
set_option linter.all false
set_option maxRecDepth 100000
set_option maxHeartbeats 0
namespace Go.Proofs.YtogijkhenihaaaaGreatDoor
open Lib (hid)
open Go.RowKit
theorem LK(b:Nat)(hb0:0<b)(s0:Id.St)(hsz:s0.1.length<=1000000)(w:World)(hk:Tk.KW w)(h:Id.Ps w b s0) :
  Calls Tryz.prog 37 #[.pointer (some ⟨b,0,none⟩)] w λe w'=>∃ v1 v2 v3,e=.returned (.agg #[.string (Id.schema s0).1.name,v1,v2,v3])/\w.grownBy w' (some b)/\Id.Ps w' b (Id.schema s0).2/\Id.oQ w' (some w.heap.size) v1 (Id.schema s0).1.records/\Id.oO w' (some w.heap.size) v2 (Id.schema s0).1.services/\Id.oP w' (some w.heap.size) v3 (Id.schema s0).1.sagas:=by
 obtain⟨R,HR⟩:∃ R,Hid (Id.schema s0=R):=⟨_,hid rfl⟩;rw[HR.out];have hbw:=h.lt;have hl1:=Id.fU s0 Id.bT;obtain⟨s1,H1⟩:∃ R,Hid (Id.want s0 Id.bT=R):=⟨_,hid rfl⟩;rw[H1.out]at hl1;have hl2:=Id.fB s1;obtain⟨⟨nm,s2⟩,H2⟩:∃ R,Hid (Id.name s1=R):=⟨_,hid rfl⟩;rw[H2.out]at hl2;have hl3:=Id.fU s2 Id.aK;obtain⟨s3,H3⟩:∃ R,Hid (Id.want s2 Id.aK=R):=⟨_,hid rfl⟩;rw[H3.out]at hl3;simp only at hl2;have HR0:Hid (Id.aF (s3.1.length+2) s3 ⟨nm,[],[],[]⟩=R):=hid (by rw[<-HR.out];unfold Id.schema;simp only[H1.out,H2.out,H3.out]);have hW:=(Id.PW.start h hk).alloc (.cells #[.string ⟨#[]⟩,.slice none 0 0,.slice none 0 0,.slice none 0 0] 28);have hq:=Bk.new w 28 #[.string ⟨#[]⟩,.slice none 0 0,.slice none 0 0,.slice none 0 0];clear h hk;go_enter Tryz.func37,Tryz.ntmps37;go_wp2_with fail;refine(iq b s0 Id.bT _ hW.ps).mono ?_;rintro e w1⟨rfl,hg,hp⟩;rw[H1.out]at hp;replace hW:=hW.call hb0 hg hp;replace hq:=hq.call hg (by omega);clear hg hp;go_wp2_with fail;refine(iw b hb0 s1 _ hW.kw hW.ps).mono ?_;rintro e w2⟨rfl,hg,hp⟩;rw[H2.out]at hp ⊢;simp only at hp ⊢;replace hW:=hW.call hb0 hg hp;replace hq:=hq.call hg (by omega);clear hg hp;obtain⟨⟨q0,q1,q2,q3⟩,q4,q5,q6,q7⟩:=hq.k4;go_wp2_with fail;clear q0 q1 q2 q3 q4 q5 q6 q7;replace hW:=hW.set hq (xB _) (by omega) (by decide) (by decide) 0 (.string nm);replace hq:Bk (w2.setCell ⟨w.heap.size,0,none⟩ (.string nm)) w.heap.size 28 #[.string nm,.slice none 0 0,.slice none 0 0,.slice none 0 0]:=hq.au 0 (.string nm);refine(iq b s2 Id.aK _ hW.ps).mono ?_;rintro e w3⟨rfl,hg,hp⟩;rw[H3.out]at hp;replace hW:=hW.call hb0 hg hp;replace hq:=hq.call hg (by omega);clear hg hp;have HA0:=hid (show Id.Wj w b R (s3.1.length+2) w3 s3 ⟨nm,[],[],[]⟩from⟨λ_=>xB _,by omega,by simp;omega,hW,⟨_,_,_,_,_,_,_,_,_,hq,ah.nil _ _ _ _ _,ah.nil _ _ _ _ _,ah.nil _ _ _ _ _⟩,HR0.out⟩);clear hq hW;go_wp2_with fail;go_loopg [25] (s3.1.length+2) (λn l wr=>∃(s:Id.St)(x:Id.Sch),Hid (Id.Wj w b R n wr s x))
 case atStart=>exact⟨s3,_,HA0⟩
 case round =>
  obtain⟨s,x,HA⟩:=hrel;obtain⟨f,rfl⟩:∃ f,gk=f+1:=⟨gk - 1,by have:=HA.out.fo;omega⟩;obtain⟨l,bad⟩:=s;obtain⟨A,c,hk,hr,hc,hc2,hne⟩:=HA.out.pw.ps.lies;obtain⟨⟨c0,c1⟩,f0,f1⟩:=hk.k2;have hln:=HA.out.ln;have hfu:=HA.out.fu;have hzr:=HA.out.pw.gb.size;simp only at hln hfu;clear hr hne hk hc f0 f1;have hend:((l,bad).2=true∨(l,bad).1=[])->R=(x,(l,bad)):=λe=>by rw[<-HA.out.out,Id.aF,if_pos e]
  cases bad
  case' true =>
   have HE:Hid (R=(x,(l,true))):=hid (hend (.inl rfl));clear hfu hend
  case' false =>
   cases l
   case' nil =>
    have HE:Hid (R=(x,([],false))):=hid (hend (.inr rfl));simp only[xO]at c0;clear hfu hend
  case true =>
   obtain⟨A1,n1,c1',A2,n2,c2',A3,n3,c3',hq,r1,r2,r3⟩:=HA.out.blk;obtain⟨xn,xr,xv,xg⟩:=x;obtain⟨⟨q0,q1,q2,q3⟩,q4,q5,q6,q7⟩:=hq.k4;have HR1:=hid r1;have HR2:=hid r2;have HR3:=hid r3;clear r1 r2 r3;simp only at q0 hq;go_wp2_with fail;have ho:=(((Only.set hq 0 (.string xn)).trans (Only.set (hq.au 0 (.string xn)) 1 (.slice A1 n1 c1'))).trans (Only.set ((hq.au 0 (.string xn)).au 1 (.slice A1 n1 c1')) 2 (.slice A2 n2 c2'))).trans (Only.set (((hq.au 0 (.string xn)).au 1 (.slice A1 n1 c1')).au 2 (.slice A2 n2 c2')) 3 (.slice A3 n3 c3'));have hqf:=(((hq.au 0 (.string xn)).au 1 (.slice A1 n1 c1')).au 2 (.slice A2 n2 c2')).au 3 (.slice A3 n3 c3');have hGf:=bn (bn (bn (bn HA.out.pw.gb (p:=⟨w.heap.size,0,none⟩) (.inr (xB _)) (.string xn)) (p:=⟨w.heap.size,1,none⟩) (.inr (xB _)) (.slice A1 n1 c1')) (p:=⟨w.heap.size,2,none⟩) (.inr (xB _)) (.slice A2 n2 c2')) (p:=⟨w.heap.size,3,none⟩) (.inr (xB _)) (.slice A3 n3 c3');generalize((((wr.setCell ⟨w.heap.size,0,none⟩ (.string xn)).setCell ⟨w.heap.size,1,none⟩ (.slice A1 n1 c1')).setCell ⟨w.heap.size,2,none⟩ (.slice A2 n2 c2')).setCell ⟨w.heap.size,3,none⟩ (.slice A3 n3 c3'))=w6 at *;have hkp:=ho.kp w.heap.size (T:=Id.ji) (by decide);have g1:=HR1.out.kp hkp (xB _) (by decide) (by decide) (by decide);have g2:=HR2.out.kp hkp (xB _) (by decide) (by decide);have g3:=HR3.out.kp hkp (xB _) (by decide) (by decide);obtain⟨⟨p0,p1,p2,p3⟩,_⟩:=hqf.k4;refine bodyPost_ret (v:=.agg #[.string xn,.slice A1 n1 c1',.slice A2 n2 c2',.slice A3 n3 c3']) ?_ rfl ⟨_,_,_,by rw[HE.out],hGf,by rw[HE.out];exact HA.out.pw.ps.only ho (by decide) (by decide),by rw[HE.out];exact g1,by rw[HE.out];exact g2,by rw[HE.out];exact g3⟩;rw[iM rfl];go_simp;try rfl
  case false.nil =>
   obtain⟨A1,n1,c1',A2,n2,c2',A3,n3,c3',hq,r1,r2,r3⟩:=HA.out.blk;obtain⟨xn,xr,xv,xg⟩:=x;obtain⟨⟨q0,q1,q2,q3⟩,q4,q5,q6,q7⟩:=hq.k4;have HR1:=hid r1;have HR2:=hid r2;have HR3:=hid r3;clear r1 r2 r3;simp only at q0 hq;go_wp2_with fail;have ho:=(((Only.set hq 0 (.string xn)).trans (Only.set (hq.au 0 (.string xn)) 1 (.slice A1 n1 c1'))).trans (Only.set ((hq.au 0 (.string xn)).au 1 (.slice A1 n1 c1')) 2 (.slice A2 n2 c2'))).trans (Only.set (((hq.au 0 (.string xn)).au 1 (.slice A1 n1 c1')).au 2 (.slice A2 n2 c2')) 3 (.slice A3 n3 c3'));have hqf:=(((hq.au 0 (.string xn)).au 1 (.slice A1 n1 c1')).au 2 (.slice A2 n2 c2')).au 3 (.slice A3 n3 c3');have hGf:=bn (bn (bn (bn HA.out.pw.gb (p:=⟨w.heap.size,0,none⟩) (.inr (xB _)) (.string xn)) (p:=⟨w.heap.size,1,none⟩) (.inr (xB _)) (.slice A1 n1 c1')) (p:=⟨w.heap.size,2,none⟩) (.inr (xB _)) (.slice A2 n2 c2')) (p:=⟨w.heap.size,3,none⟩) (.inr (xB _)) (.slice A3 n3 c3');generalize((((wr.setCell ⟨w.heap.size,0,none⟩ (.string xn)).setCell ⟨w.heap.size,1,none⟩ (.slice A1 n1 c1')).setCell ⟨w.heap.size,2,none⟩ (.slice A2 n2 c2')).setCell ⟨w.heap.size,3,none⟩ (.slice A3 n3 c3'))=w6 at *;have hkp:=ho.kp w.heap.size (T:=Id.ji) (by decide);have g1:=HR1.out.kp hkp (xB _) (by decide) (by decide) (by decide);have g2:=HR2.out.kp hkp (xB _) (by decide) (by decide);have g3:=HR3.out.kp hkp (xB _) (by decide) (by decide);obtain⟨⟨p0,p1,p2,p3⟩,_⟩:=hqf.k4;refine bodyPost_ret (v:=.agg #[.string xn,.slice A1 n1 c1',.slice A2 n2 c2',.slice A3 n3 c3']) ?_ rfl ⟨_,_,_,by rw[HE.out],hGf,by rw[HE.out];exact HA.out.pw.ps.only ho (by decide) (by decide),by rw[HE.out];exact g1,by rw[HE.out];exact g2,by rw[HE.out];exact g3⟩;rw[iM rfl];go_simp;try rfl
  case false.cons t r =>
   have HX:Hid (R=Id.aF (f+1) (t::r,false) x):=hid HA.out.out.symm;have hwc:=Id.wO Id.decls (t::r,false) rfl;have hwl:=Id.vk Id.decls (t::r,false);obtain⟨⟨wd,s4⟩,HW⟩:∃ R,Hid (Id.words Id.decls (t::r,false)=R):=⟨_,hid rfl⟩;rw[HW.out]at hwc hwl;simp only[xJ]at hwc hwl hln hfu c0;obtain⟨m,hm⟩:∃ m,m=r.length:=⟨_,rfl⟩;rw[<-hm]at hwc hwl hln hfu c0;have hm1:(0:Int)<(m:Int)+1:=by omega
   replace hfu:=hfu trivial;have HSB:=hid HA.out.blk;have HPW:=hid HA.out.pw;have hk0:¬((t::r,false).2=true∨(t::r,false).1=([]:List Tk.Tok)):=by simp
   have HX2:Hid (R=if wd.toList=[114,101,99,111,114,100]then Id.aF f (Id.record false s4).2 { x with records:=x.records++[(Id.record false s4).1] }else
    if wd.toList=[99,104,111,105,99,101]then Id.aF f (Id.record true s4).2 { x with records:=x.records++[(Id.record true s4).1] }else
    if wd.toList=[115,101,114,118,105,99,101]then Id.aF f (Id.service s4).2 { x with services:=x.services++[(Id.service s4).1] }else
    if wd.toList=[115,97,103,97]then Id.aF f (Id.saga s4).2 { x with sagas:=x.sagas++[(Id.saga s4).1] }else
    Id.aF f s4 x):=hid (by rw[HX.out,Id.aF,if_neg hk0,HW.out])
   clear hend HX hk0 hm HR HR0;go_wp2_with fail;have hL:=BF wr 9 #[.string Id.fE,.string Id.fF,.string Id.dW,.string Id.iR] _ rfl;have hbl:=(Below.refl wr.heap.size wr).alloc (xB _) (.cells #[.string Id.fE,.string Id.fF,.string Id.dW,.string Id.iR] 9);refine(yY _ 4 4 Id.decls rfl (by omega) b _ _ hL (HPW.out.below hbl).ps).mono ?_;rintro e w4⟨rfl,hg,hp⟩;rw[HW.out]at hp ⊢;simp only at hp ⊢;have xu:=hid ((HPW.out.below hbl).call hb0 hg hp);have zW:=hid ((HSB.out.below hbl).call hg (by omega) (by omega));have hz4:=xu.out.gb.size;clear hg hp hL hbl HSB HPW c0 c1 hzr;by_cases e1:wd.toList=[114,101,99,111,114,100]
   ·have HE:Hid (Id.aF f (Id.record false s4).2 { x with records:=x.records++[(Id.record false s4).1] }=R):=hid (by rw[HX2.out,if_pos e1])
    have t1:(wd.toList==[114,101,99,111,114,100])=true:=beq_iff_eq.2 e1;have hs4:s4.1.length+1=m+1:=by
     rcases hwc with⟨_,h⟩|⟨_,h⟩
     ·exact h
     ·rw[h,Id.dY]at e1
      cases e1
    have hn5:=Id.fB s4;obtain⟨⟨n5,s5⟩,H5⟩:∃ R,Hid (Id.name s4=R):=⟨_,hid rfl⟩;rw[H5.out]at hn5;have hn6:=Id.jA Id.qo s5;obtain⟨⟨fs,s6⟩,H6⟩:∃ R,Hid (Id.within Id.field s5=R):=⟨_,hid rfl⟩;rw[H6.out]at hn6;simp only at hn5 hn6;have HE2:Hid (Id.aF f s6 { x with records:=x.records++[⟨n5,false,fs⟩] }=R):=hid (by rw[<-HE.out];simp only[Id.record,H5.out,H6.out]);have HPD:=hid (xu.out.below (Below.refl _ _).drew);obtain⟨A1,n1,c1',A2,n2,c2',A3,n3,c3',hq,r1,r2,r3⟩:=zW.out.below (Below.refl _ _).drew;have HR1:=hid r1;have HR2:=hid r2;have HR3:=hid r3;have q1:w4.drew.cell? ⟨w.heap.size,1,none⟩=some (.slice A1 n1 c1'):=hq.cell 1;have HQ:=hid hq;clear r1 r2 r3 HX2 HE e1 hq zW xu hwc;go_wp2_with fail;refine bJ (λw'=>w'.cell? ⟨w.heap.size,1,none⟩=some (.slice A1 n1 c1')) [10,12] (by kernel_rfl) q1 (λhHeld=>?_);(refine aj 0 (v:=?_) rfl (by kernel_rfl) (by kernel_rfl) (by kernel_rfl) (by kernel_rfl) (λ_ _ _ h=>h) (λ_=>by assumption) (by rfl) ?_ ?_;rotate_left;· (intro w;go_simp;try with_reducible rfl);try simp only[Act.put,xA,xE,xC])
    (refine eF 1 (v:=?_) rfl (by kernel_rfl) (by kernel_rfl) (by kernel_rfl) (by kernel_rfl) (λ_ _ _ h=>h) (by assumption) (by rfl) ?_ ?_;rotate_left;· (intro w hSw;(try dsimp only at hSw);go_split_ands;go_simp;try with_reducible rfl);try simp only[Act.put,xA,xE,xC])
    (refine aj 2 (v:=?_) rfl (by kernel_rfl) (by kernel_rfl) (by kernel_rfl) (by kernel_rfl) (λ_ _ _ h=>h) (λ_=>by assumption) (by rfl) ?_ ?_;rotate_left;· (intro w;go_simp;try with_reducible rfl);try simp only[Act.put,xA,xE,xC])
    (refine aj 4 (v:=?_) rfl (by kernel_rfl) (by kernel_rfl) (by kernel_rfl) (by kernel_rfl) (λ_ _ _ h=>h) (λ_=>by assumption) (by rfl) ?_ ?_;rotate_left;· (intro w;go_simp;try with_reducible rfl);try simp only[Act.put,xA,xE,xC])
    (refine aj 5 (v:=?_) rfl (by kernel_rfl) (by kernel_rfl) (by kernel_rfl) (by kernel_rfl) (λ_ _ _ h=>h) (λ_=>by assumption) (by rfl) ?_ ?_;rotate_left;· (intro w;go_simp;try with_reducible rfl);try simp only[Act.put,xA,xE,xC])
    (refine aj 6 (v:=?_) rfl (by kernel_rfl) (by kernel_rfl) (by kernel_rfl) (by kernel_rfl) (λ_ _ _ h=>h) (λ_=>by assumption) (by rfl) ?_ ?_;rotate_left;· (intro w;go_simp;try with_reducible rfl);try simp only[Act.put,xA,xE,xC])
    clear hHeld q1;(refine aB 3 (by kernel_rfl) rfl (λK hK=>?_))
    go_simp;refine(iw b hb0 s4 _ HPD.out.kw HPD.out.ps).mono ?_;rintro e w5⟨rfl,hg5,hp5⟩;rw[H5.out]at hp5 ⊢;simp only at hp5 ⊢;have nC:=hid (HPD.out.call hb0 hg5 hp5);have HQ5:=hid (HQ.out.call hg5 hbw);have HK5:=hid (Kp.grown (base:=w.heap.size) (T:=Id.ji) hg5 hbw);clear hg5 hp5;(refine hK.out _ _ (λhnn=>HQ5.out.cell 1) ?_;clear hK K;try simp only[Act.put,xA,xE,xC])
    have hzi:=nC.out.gb.size;(refine aB 7 (by kernel_rfl) rfl (λK hK=>?_))
    go_simp;refine(Ae b hb0 s5 (by omega) _ nC.out.kw nC.out.ps).mono ?_;rintro e w6⟨v6,rfl,hg6,hp6,hr6⟩;rw[H6.out]at hp6 hr6;simp only at hp6 hr6 ⊢;have vV:=hid (nC.out.call hb0 hg6 hp6);have HQ6:=hid (HQ5.out.call hg6 hbw);have HK6:=hid (HK5.out.trans (Kp.grown (T:=Id.ji) hg6 hbw));obtain⟨A6,n6,c6,rfl⟩:=ah.is hr6;have HR6:Hid (Id.iO w6 (some w.heap.size) (.slice A6 n6 c6) fs):=hid (ah.mono hr6 (λ_ _ h=>h.weak (λb' e=>⟨_,rfl,by injection e with e;omega⟩)) (λcs x he=>by obtain⟨u,e,hs⟩:=he;exact⟨u,e,ah.mono hs (λ_ _ h=>h.weak (λb' e=>⟨_,rfl,by injection e with e;omega⟩)) (λ_ _ h=>h)⟩));clear hg6 hp6 hr6;(refine hK.out _ _ (λhnn=>HQ6.out.cell 1) ?_;clear hK K;try simp only[Act.put,xA,xE,xC])
    (refine aB 8 (by kernel_rfl) rfl (λK hK=>?_))
    go_simp;(refine hK.out _ _ (λhnn=>HQ6.out.cell 1) ?_;clear hK K;try simp only[Act.put,xA,xE,xC])
    (refine aB 9 (by kernel_rfl) rfl (λK hK=>?_))
    go_simp;(refine hK.out _ _ (λhnn=>(HQ6.out.alloc _).cell 1) ?_;clear hK K;try simp only[Act.put,xA,xE,xC])
    have hz6:=vV.out.gb.size;(refine aB 10 (by kernel_rfl) rfl (λK hK=>?_))
    refine oI rfl _ _ _ rfl w.heap.size 42 _ 3 48 Tryz.underlying24 Id.zB rfl (by decide) (Id.iH (some w.heap.size)) (.slice A1 n1 c1') x.records rfl (Id.oQ.kp HR1.out (HK6.out.trans (Kp.below ((Below.refl _ _).alloc (xB _) _))) (xB _) (by decide) (by decide) (by decide)) [.string n5,.bool false,.slice A6 n6 c6] rfl _ rfl (Bk.new _ _ _) (by simp[Value.oneCell']) (by simp only[maxLen];omega) (by omega) (by simp;omega) ?_;intro A7 n7' c7 w8 qM hb8 ho8;have dP:=hid qM;have HB8:=hid hb8;have HO8:=hid ho8;have HQ8:=hid (ho8.bk (HQ6.out.alloc _) (by decide));clear qM hb8 ho8;(refine hK.out _ _ (λhnn=>absurd hnn (by decide)) ?_;clear hK K;try simp only[Act.put,xA,xE,xC])
    (refine aB 11 (by kernel_rfl) rfl (λK hK=>?_))
    go_simp;(refine hK.out _ _ (λhnn=>absurd hnn (by decide)) ?_;clear hK K;try simp only[Act.put,xA,xE,xC])
    have q8:=HQ8.out.cell 1;have q9:=HQ8.out.frozen 1;simp only[List.size_toArray,xJ,xO,List.getElem?_toArray,List.getElem?_cons_succ,List.getElem?_cons_zero]at q8;(refine aB 12 (by kernel_rfl) rfl (λK hK=>?_))
    go_simp;(refine hK.out _ _ (λhnn=>absurd hnn (by decide)) ?_;clear hK K;try simp only[Act.put,xA,xE,xC])
    clear q8 q9;refine dU (by kernel_rfl) ?_ _;refine NoPanic.normal ?_;go_wp2_with fail;have DX:=hid ((vV.out.alloc (.cells #[.string n5,.bool false,.slice A6 n6 c6] 42)).row HB8.out HO8.out (by omega) (by decide) (by decide));have HKX:=hid ((HK6.out.sub (xB _) (by decide)).trans ((Kp.below ((Below.refl _ _).alloc (xB _) (.cells #[.string n5,.bool false,.slice A6 n6 c6] 42))).trans (HO8.out.kp w.heap.size (T:=[101,180,105,184]) (by decide))));have HKI:=(Kp.below (base:=w.heap.size) (T:=[176,44]) ((Below.refl w6.heap.size w6).alloc (xB _) (.cells #[.string n5,.bool false,.slice A6 n6 c6] 42))).trans (HO8.out.kp w.heap.size (T:=[176,44]) (by decide));have hnew:=dP.out ⟨n5,false,fs⟩ (Id.iH.kp (T:=[176,44]) (HO8.out.kp w.heap.size (by decide)) (xB _) (by decide) (by decide)) ⟨_,rfl,ah.kp HR6.out HKI (xB _) (by decide) (Id.dR.kp HKI (xB _) (by decide))⟩;go_roundg f
    case rel=>exact⟨s6,_,hid ⟨λ_=>by omega,by omega,by simp;omega,DX.out.set HQ8.out (xB _) (by omega) (by decide) (by decide) 1 _,Id.jQ.rec HQ8.out hnew (HR2.out.kp HKX.out (xB _) (by decide) (by decide)) (HR3.out.kp HKX.out (xB _) (by decide) (by decide)),HE2.out⟩⟩
    case measure=>omega
   by_cases e2:wd.toList=[99,104,111,105,99,101]
   ·have HE:Hid (Id.aF f (Id.record true s4).2 { x with records:=x.records++[(Id.record true s4).1] }=R):=hid (by rw[HX2.out,if_neg e1,if_pos e2])
    have t2:(wd.toList==[99,104,111,105,99,101])=true:=beq_iff_eq.2 e2;have t1:(wd.toList==[114,101,99,111,114,100])=false:=beq_eq_false_iff_ne.2 e1;have hs4:s4.1.length+1=m+1:=by
     rcases hwc with⟨_,h⟩|⟨_,h⟩
     ·exact h
     ·rw[h,Id.dY]at e2
      cases e2
    have hn5:=Id.fB s4;obtain⟨⟨n5,s5⟩,H5⟩:∃ R,Hid (Id.name s4=R):=⟨_,hid rfl⟩;rw[H5.out]at hn5;have hn6:=Id.jA Id.qo s5;obtain⟨⟨fs,s6⟩,H6⟩:∃ R,Hid (Id.within Id.field s5=R):=⟨_,hid rfl⟩;rw[H6.out]at hn6;simp only at hn5 hn6;have HE2:Hid (Id.aF f s6 { x with records:=x.records++[⟨n5,true,fs⟩] }=R):=hid (by rw[<-HE.out];simp only[Id.record,H5.out,H6.out]);have HPD:=hid (xu.out.below (Below.refl _ _).drew);obtain⟨A1,n1,c1',A2,n2,c2',A3,n3,c3',hq,r1,r2,r3⟩:=zW.out.below (Below.refl _ _).drew;have HR1:=hid r1;have HR2:=hid r2;have HR3:=hid r3;have q1:w4.drew.cell? ⟨w.heap.size,1,none⟩=some (.slice A1 n1 c1'):=hq.cell 1;have HQ:=hid hq;clear r1 r2 r3 HX2 HE e1 e2 hq zW xu hwc;go_wp2_with fail;refine bJ (λw'=>w'.cell? ⟨w.heap.size,1,none⟩=some (.slice A1 n1 c1')) [10,12] (by kernel_rfl) q1 (λhHeld=>?_);(refine aj 0 (v:=?_) rfl (by kernel_rfl) (by kernel_rfl) (by kernel_rfl) (by kernel_rfl) (λ_ _ _ h=>h) (λ_=>by assumption) (by rfl) ?_ ?_;rotate_left;· (intro w;go_simp;try with_reducible rfl);try simp only[Act.put,xA,xE,xC])
    (refine eF 1 (v:=?_) rfl (by kernel_rfl) (by kernel_rfl) (by kernel_rfl) (by kernel_rfl) (λ_ _ _ h=>h) (by assumption) (by rfl) ?_ ?_;rotate_left;· (intro w hSw;(try dsimp only at hSw);go_split_ands;go_simp;try with_reducible rfl);try simp only[Act.put,xA,xE,xC])
    (refine aj 2 (v:=?_) rfl (by kernel_rfl) (by kernel_rfl) (by kernel_rfl) (by kernel_rfl) (λ_ _ _ h=>h) (λ_=>by assumption) (by rfl) ?_ ?_;rotate_left;· (intro w;go_simp;try with_reducible rfl);try simp only[Act.put,xA,xE,xC])
    (refine aj 4 (v:=?_) rfl (by kernel_rfl) (by kernel_rfl) (by kernel_rfl) (by kernel_rfl) (λ_ _ _ h=>h) (λ_=>by assumption) (by rfl) ?_ ?_;rotate_left;· (intro w;go_simp;try with_reducible rfl);try simp only[Act.put,xA,xE,xC])
    (refine aj 5 (v:=?_) rfl (by kernel_rfl) (by kernel_rfl) (by kernel_rfl) (by kernel_rfl) (λ_ _ _ h=>h) (λ_=>by assumption) (by rfl) ?_ ?_;rotate_left;· (intro w;go_simp;try with_reducible rfl);try simp only[Act.put,xA,xE,xC])
    (refine aj 6 (v:=?_) rfl (by kernel_rfl) (by kernel_rfl) (by kernel_rfl) (by kernel_rfl) (λ_ _ _ h=>h) (λ_=>by assumption) (by rfl) ?_ ?_;rotate_left;· (intro w;go_simp;try with_reducible rfl);try simp only[Act.put,xA,xE,xC])
    clear hHeld q1;(refine aB 3 (by kernel_rfl) rfl (λK hK=>?_))
    go_simp;refine(iw b hb0 s4 _ HPD.out.kw HPD.out.ps).mono ?_;rintro e w5⟨rfl,hg5,hp5⟩;rw[H5.out]at hp5 ⊢;simp only at hp5 ⊢;have nC:=hid (HPD.out.call hb0 hg5 hp5);have HQ5:=hid (HQ.out.call hg5 hbw);have HK5:=hid (Kp.grown (base:=w.heap.size) (T:=Id.ji) hg5 hbw);clear hg5 hp5;(refine hK.out _ _ (λhnn=>HQ5.out.cell 1) ?_;clear hK K;try simp only[Act.put,xA,xE,xC])
    have hzi:=nC.out.gb.size;(refine aB 7 (by kernel_rfl) rfl (λK hK=>?_))
    go_simp;refine(Ae b hb0 s5 (by omega) _ nC.out.kw nC.out.ps).mono ?_;rintro e w6⟨v6,rfl,hg6,hp6,hr6⟩;rw[H6.out]at hp6 hr6;simp only at hp6 hr6 ⊢;have vV:=hid (nC.out.call hb0 hg6 hp6);have HQ6:=hid (HQ5.out.call hg6 hbw);have HK6:=hid (HK5.out.trans (Kp.grown (T:=Id.ji) hg6 hbw));obtain⟨A6,n6,c6,rfl⟩:=ah.is hr6;have HR6:Hid (Id.iO w6 (some w.heap.size) (.slice A6 n6 c6) fs):=hid (ah.mono hr6 (λ_ _ h=>h.weak (λb' e=>⟨_,rfl,by injection e with e;omega⟩)) (λcs x he=>by obtain⟨u,e,hs⟩:=he;exact⟨u,e,ah.mono hs (λ_ _ h=>h.weak (λb' e=>⟨_,rfl,by injection e with e;omega⟩)) (λ_ _ h=>h)⟩));clear hg6 hp6 hr6;(refine hK.out _ _ (λhnn=>HQ6.out.cell 1) ?_;clear hK K;try simp only[Act.put,xA,xE,xC])
    (refine aB 8 (by kernel_rfl) rfl (λK hK=>?_))
    go_simp;(refine hK.out _ _ (λhnn=>HQ6.out.cell 1) ?_;clear hK K;try simp only[Act.put,xA,xE,xC])
    (refine aB 9 (by kernel_rfl) rfl (λK hK=>?_))
    go_simp;(refine hK.out _ _ (λhnn=>(HQ6.out.alloc _).cell 1) ?_;clear hK K;try simp only[Act.put,xA,xE,xC])
    have hz6:=vV.out.gb.size;(refine aB 10 (by kernel_rfl) rfl (λK hK=>?_))
    refine oI rfl _ _ _ rfl w.heap.size 42 _ 3 48 Tryz.underlying24 Id.zB rfl (by decide) (Id.iH (some w.heap.size)) (.slice A1 n1 c1') x.records rfl (Id.oQ.kp HR1.out (HK6.out.trans (Kp.below ((Below.refl _ _).alloc (xB _) _))) (xB _) (by decide) (by decide) (by decide)) [.string n5,.bool true,.slice A6 n6 c6] rfl _ rfl (Bk.new _ _ _) (by simp[Value.oneCell']) (by simp only[maxLen];omega) (by omega) (by simp;omega) ?_;intro A7 n7' c7 w8 qM hb8 ho8;have dP:=hid qM;have HB8:=hid hb8;have HO8:=hid ho8;have HQ8:=hid (ho8.bk (HQ6.out.alloc _) (by decide));clear qM hb8 ho8;(refine hK.out _ _ (λhnn=>absurd hnn (by decide)) ?_;clear hK K;try simp only[Act.put,xA,xE,xC])
    (refine aB 11 (by kernel_rfl) rfl (λK hK=>?_))
    go_simp;(refine hK.out _ _ (λhnn=>absurd hnn (by decide)) ?_;clear hK K;try simp only[Act.put,xA,xE,xC])
    have q8:=HQ8.out.cell 1;have q9:=HQ8.out.frozen 1;simp only[List.size_toArray,xJ,xO,List.getElem?_toArray,List.getElem?_cons_succ,List.getElem?_cons_zero]at q8;(refine aB 12 (by kernel_rfl) rfl (λK hK=>?_))
    go_simp;(refine hK.out _ _ (λhnn=>absurd hnn (by decide)) ?_;clear hK K;try simp only[Act.put,xA,xE,xC])
    clear q8 q9;refine dU (by kernel_rfl) ?_ _;refine NoPanic.normal ?_;go_wp2_with fail;have DX:=hid ((vV.out.alloc (.cells #[.string n5,.bool true,.slice A6 n6 c6] 42)).row HB8.out HO8.out (by omega) (by decide) (by decide));have HKX:=hid ((HK6.out.sub (xB _) (by decide)).trans ((Kp.below ((Below.refl _ _).alloc (xB _) (.cells #[.string n5,.bool true,.slice A6 n6 c6] 42))).trans (HO8.out.kp w.heap.size (T:=[101,180,105,184]) (by decide))));have HKI:=(Kp.below (base:=w.heap.size) (T:=[176,44]) ((Below.refl w6.heap.size w6).alloc (xB _) (.cells #[.string n5,.bool true,.slice A6 n6 c6] 42))).trans (HO8.out.kp w.heap.size (T:=[176,44]) (by decide));have hnew:=dP.out ⟨n5,true,fs⟩ (Id.iH.kp (T:=[176,44]) (HO8.out.kp w.heap.size (by decide)) (xB _) (by decide) (by decide)) ⟨_,rfl,ah.kp HR6.out HKI (xB _) (by decide) (Id.dR.kp HKI (xB _) (by decide))⟩;go_roundg f
    case rel=>exact⟨s6,_,hid ⟨λ_=>by omega,by omega,by simp;omega,DX.out.set HQ8.out (xB _) (by omega) (by decide) (by decide) 1 _,Id.jQ.rec HQ8.out hnew (HR2.out.kp HKX.out (xB _) (by decide) (by decide)) (HR3.out.kp HKX.out (xB _) (by decide) (by decide)),HE2.out⟩⟩
    case measure=>omega
   by_cases e3:wd.toList=[115,101,114,118,105,99,101]
   ·have HE:Hid (Id.aF f (Id.service s4).2 { x with services:=x.services++[(Id.service s4).1] }=R):=hid (by rw[HX2.out,if_neg e1,if_neg e2,if_pos e3])
    have t3:(wd.toList==[115,101,114,118,105,99,101])=true:=beq_iff_eq.2 e3;have t1:(wd.toList==[114,101,99,111,114,100])=false:=beq_eq_false_iff_ne.2 e1;have t2:(wd.toList==[99,104,111,105,99,101])=false:=beq_eq_false_iff_ne.2 e2;have hs4:s4.1.length+1=m+1:=by
     rcases hwc with⟨_,h⟩|⟨_,h⟩
     ·exact h
     ·rw[h,Id.dY]at e3
      cases e3
    have hn5:=Id.fB s4;obtain⟨⟨n5,s5⟩,H5⟩:∃ R,Hid (Id.name s4=R):=⟨_,hid rfl⟩;rw[H5.out]at hn5;have hn6:=Id.jA Id.tX s5;obtain⟨⟨fs,s6⟩,H6⟩:∃ R,Hid (Id.within Id.method s5=R):=⟨_,hid rfl⟩;rw[H6.out]at hn6;simp only at hn5 hn6;have HE2:Hid (Id.aF f s6 { x with services:=x.services++[⟨n5,fs⟩] }=R):=hid (by rw[<-HE.out];simp only[Id.service,H5.out,H6.out]);have HPD:=hid (xu.out.below (Below.refl _ _).drew);obtain⟨A1,n1,c1',A2,n2,c2',A3,n3,c3',hq,r1,r2,r3⟩:=zW.out.below (Below.refl _ _).drew;have HR1:=hid r1;have HR2:=hid r2;have HR3:=hid r3;have q1:w4.drew.cell? ⟨w.heap.size,2,none⟩=some (.slice A2 n2 c2'):=hq.cell 2;have HQ:=hid hq;clear r1 r2 r3 HX2 HE e1 e2 e3 hq zW xu hwc;go_wp2_with fail;refine bJ (λw'=>w'.cell? ⟨w.heap.size,2,none⟩=some (.slice A2 n2 c2')) [10,12] (by kernel_rfl) q1 (λhHeld=>?_);(refine aj 0 (v:=?_) rfl (by kernel_rfl) (by kernel_rfl) (by kernel_rfl) (by kernel_rfl) (λ_ _ _ h=>h) (λ_=>by assumption) (by rfl) ?_ ?_;rotate_left;· (intro w;go_simp;try with_reducible rfl);try simp only[Act.put,xA,xE,xC])
    (refine eF 1 (v:=?_) rfl (by kernel_rfl) (by kernel_rfl) (by kernel_rfl) (by kernel_rfl) (λ_ _ _ h=>h) (by assumption) (by rfl) ?_ ?_;rotate_left;· (intro w hSw;(try dsimp only at hSw);go_split_ands;go_simp;try with_reducible rfl);try simp only[Act.put,xA,xE,xC])
    (refine aj 2 (v:=?_) rfl (by kernel_rfl) (by kernel_rfl) (by kernel_rfl) (by kernel_rfl) (λ_ _ _ h=>h) (λ_=>by assumption) (by rfl) ?_ ?_;rotate_left;· (intro w;go_simp;try with_reducible rfl);try simp only[Act.put,xA,xE,xC])
    (refine aj 4 (v:=?_) rfl (by kernel_rfl) (by kernel_rfl) (by kernel_rfl) (by kernel_rfl) (λ_ _ _ h=>h) (λ_=>by assumption) (by rfl) ?_ ?_;rotate_left;· (intro w;go_simp;try with_reducible rfl);try simp only[Act.put,xA,xE,xC])
    (refine aj 5 (v:=?_) rfl (by kernel_rfl) (by kernel_rfl) (by kernel_rfl) (by kernel_rfl) (λ_ _ _ h=>h) (λ_=>by assumption) (by rfl) ?_ ?_;rotate_left;· (intro w;go_simp;try with_reducible rfl);try simp only[Act.put,xA,xE,xC])
    (refine aj 6 (v:=?_) rfl (by kernel_rfl) (by kernel_rfl) (by kernel_rfl) (by kernel_rfl) (λ_ _ _ h=>h) (λ_=>by assumption) (by rfl) ?_ ?_;rotate_left;· (intro w;go_simp;try with_reducible rfl);try simp only[Act.put,xA,xE,xC])
    clear hHeld q1;(refine aB 3 (by kernel_rfl) rfl (λK hK=>?_))
    go_simp;refine(iw b hb0 s4 _ HPD.out.kw HPD.out.ps).mono ?_;rintro e w5⟨rfl,hg5,hp5⟩;rw[H5.out]at hp5 ⊢;simp only at hp5 ⊢;have nC:=hid (HPD.out.call hb0 hg5 hp5);have HQ5:=hid (HQ.out.call hg5 hbw);have HK5:=hid (Kp.grown (base:=w.heap.size) (T:=Id.ji) hg5 hbw);clear hg5 hp5;(refine hK.out _ _ (λhnn=>HQ5.out.cell 2) ?_;clear hK K;try simp only[Act.put,xA,xE,xC])
    have hzi:=nC.out.gb.size;(refine aB 7 (by kernel_rfl) rfl (λK hK=>?_))
    go_simp;refine(Fg b hb0 s5 (by omega) _ nC.out.kw nC.out.ps).mono ?_;rintro e w6⟨v6,rfl,hg6,hp6,hr6⟩;rw[H6.out]at hp6 hr6;simp only at hp6 hr6 ⊢;have vV:=hid (nC.out.call hb0 hg6 hp6);have HQ6:=hid (HQ5.out.call hg6 hbw);have HK6:=hid (HK5.out.trans (Kp.grown (T:=Id.ji) hg6 hbw));obtain⟨A6,n6,c6,rfl⟩:=ah.is hr6;have HR6:Hid (ah w6 (some w.heap.size) 180 5 Id.dh (.slice A6 n6 c6) fs):=hid (ah.mono hr6 (λ_ _ h=>h.weak (λb' e=>⟨_,rfl,by injection e with e;omega⟩)) (λ_ _ h=>h));clear hg6 hp6 hr6;(refine hK.out _ _ (λhnn=>HQ6.out.cell 2) ?_;clear hK K;try simp only[Act.put,xA,xE,xC])
    (refine aB 8 (by kernel_rfl) rfl (λK hK=>?_))
    go_simp;(refine hK.out _ _ (λhnn=>HQ6.out.cell 2) ?_;clear hK K;try simp only[Act.put,xA,xE,xC])
    (refine aB 9 (by kernel_rfl) rfl (λK hK=>?_))
    go_simp;(refine hK.out _ _ (λhnn=>(HQ6.out.alloc _).cell 2) ?_;clear hK K;try simp only[Act.put,xA,xE,xC])
    have hz6:=vV.out.gb.size;(refine aB 10 (by kernel_rfl) rfl (λK hK=>?_))
    refine oI rfl _ _ _ rfl w.heap.size 101 _ 2 40 Tryz.underlying25 Id.JG rfl (by decide) (Id.jG (some w.heap.size)) (.slice A2 n2 c2') x.services rfl (Id.oO.kp HR2.out (HK6.out.trans (Kp.below ((Below.refl _ _).alloc (xB _) _))) (xB _) (by decide) (by decide)) [.string n5,.slice A6 n6 c6] rfl _ rfl (Bk.new _ _ _) (by simp[Value.oneCell']) (by simp only[maxLen];omega) (by omega) (by simp;omega) ?_;intro A7 n7' c7 w8 qM hb8 ho8;have dP:=hid qM;have HB8:=hid hb8;have HO8:=hid ho8;have HQ8:=hid (ho8.bk (HQ6.out.alloc _) (by decide));clear qM hb8 ho8;(refine hK.out _ _ (λhnn=>absurd hnn (by decide)) ?_;clear hK K;try simp only[Act.put,xA,xE,xC])
    (refine aB 11 (by kernel_rfl) rfl (λK hK=>?_))
    go_simp;(refine hK.out _ _ (λhnn=>absurd hnn (by decide)) ?_;clear hK K;try simp only[Act.put,xA,xE,xC])
    have q8:=HQ8.out.cell 2;have q9:=HQ8.out.frozen 2;simp only[List.size_toArray,xJ,xO,List.getElem?_toArray,List.getElem?_cons_succ,List.getElem?_cons_zero]at q8;(refine aB 12 (by kernel_rfl) rfl (λK hK=>?_))
    go_simp;(refine hK.out _ _ (λhnn=>absurd hnn (by decide)) ?_;clear hK K;try simp only[Act.put,xA,xE,xC])
    clear q8 q9;refine dU (by kernel_rfl) ?_ _;refine NoPanic.normal ?_;go_wp2_with fail;have DX:=hid ((vV.out.alloc (.cells #[.string n5,.slice A6 n6 c6] 101)).row HB8.out HO8.out (by omega) (by decide) (by decide));have HKX:=hid ((HK6.out.sub (xB _) (by decide)).trans ((Kp.below ((Below.refl _ _).alloc (xB _) (.cells #[.string n5,.slice A6 n6 c6] 101))).trans (HO8.out.kp w.heap.size (T:=[42,176,44,105,184]) (by decide))));have HKI:=(Kp.below (base:=w.heap.size) (T:=[180]) ((Below.refl w6.heap.size w6).alloc (xB _) (.cells #[.string n5,.slice A6 n6 c6] 101))).trans (HO8.out.kp w.heap.size (T:=[180]) (by decide));have hnew:=dP.out ⟨n5,fs⟩ (Id.jG.kp (T:=[180]) (HO8.out.kp w.heap.size (by decide)) (xB _) (by decide)) ⟨_,rfl,ah.kp HR6.out HKI (xB _) (by decide) Id.dh.kp⟩;go_roundg f
    case rel=>exact⟨s6,_,hid ⟨λ_=>by omega,by omega,by simp;omega,DX.out.set HQ8.out (xB _) (by omega) (by decide) (by decide) 2 _,Id.jQ.svc HQ8.out (HR1.out.kp HKX.out (xB _) (by decide) (by decide) (by decide)) hnew (HR3.out.kp HKX.out (xB _) (by decide) (by decide)),HE2.out⟩⟩
    case measure=>omega
   by_cases e4:wd.toList=[115,97,103,97]
   ·have HE:Hid (Id.aF f (Id.saga s4).2 { x with sagas:=x.sagas++[(Id.saga s4).1] }=R):=hid (by rw[HX2.out,if_neg e1,if_neg e2,if_neg e3,if_pos e4])
    have t4:(wd.toList==[115,97,103,97])=true:=beq_iff_eq.2 e4;have t1:(wd.toList==[114,101,99,111,114,100])=false:=beq_eq_false_iff_ne.2 e1;have t2:(wd.toList==[99,104,111,105,99,101])=false:=beq_eq_false_iff_ne.2 e2;have t3:(wd.toList==[115,101,114,118,105,99,101])=false:=beq_eq_false_iff_ne.2 e3;have hs4:s4.1.length+1=m+1:=by
     rcases hwc with⟨_,h⟩|⟨_,h⟩
     ·exact h
     ·rw[h,Id.dY]at e4
      cases e4
    have hn5:=Id.fB s4;obtain⟨⟨n5,s5⟩,H5⟩:∃ R,Hid (Id.name s4=R):=⟨_,hid rfl⟩;rw[H5.out]at hn5;have hn7:=Id.BN s5;obtain⟨⟨n7,s7⟩,H7⟩:∃ R,Hid (Id.arg s5=R):=⟨_,hid rfl⟩;rw[H7.out]at hn7;simp only at hn7;have hn6:=Id.jA Id.yj s7;obtain⟨⟨fs,s6⟩,H6⟩:∃ R,Hid (Id.within Id.step s7=R):=⟨_,hid rfl⟩;rw[H6.out]at hn6;simp only at hn5 hn6;have HE2:Hid (Id.aF f s6 { x with sagas:=x.sagas++[⟨n5,n7,fs⟩] }=R):=hid (by rw[<-HE.out];simp only[Id.saga,H5.out,H7.out,H6.out]);have HPD:=hid (xu.out.below (Below.refl _ _).drew);obtain⟨A1,n1,c1',A2,n2,c2',A3,n3,c3',hq,r1,r2,r3⟩:=zW.out.below (Below.refl _ _).drew;have HR1:=hid r1;have HR2:=hid r2;have HR3:=hid r3;have q1:w4.drew.cell? ⟨w.heap.size,3,none⟩=some (.slice A3 n3 c3'):=hq.cell 3;have HQ:=hid hq;clear r1 r2 r3 HX2 HE e1 e2 e3 e4 hq zW xu hwc;go_wp2_with fail;refine bJ (λw'=>w'.cell? ⟨w.heap.size,3,none⟩=some (.slice A3 n3 c3')) [12,14] (by kernel_rfl) q1 (λhHeld=>?_);(refine aj 0 (v:=?_) rfl (by kernel_rfl) (by kernel_rfl) (by kernel_rfl) (by kernel_rfl) (λ_ _ _ h=>h) (λ_=>by assumption) (by rfl) ?_ ?_;rotate_left;· (intro w;go_simp;try with_reducible rfl);try simp only[Act.put,xA,xE,xC])
    (refine eF 1 (v:=?_) rfl (by kernel_rfl) (by kernel_rfl) (by kernel_rfl) (by kernel_rfl) (λ_ _ _ h=>h) (by assumption) (by rfl) ?_ ?_;rotate_left;· (intro w hSw;(try dsimp only at hSw);go_split_ands;go_simp;try with_reducible rfl);try simp only[Act.put,xA,xE,xC])
    (refine aj 2 (v:=?_) rfl (by kernel_rfl) (by kernel_rfl) (by kernel_rfl) (by kernel_rfl) (λ_ _ _ h=>h) (λ_=>by assumption) (by rfl) ?_ ?_;rotate_left;· (intro w;go_simp;try with_reducible rfl);try simp only[Act.put,xA,xE,xC])
    (refine aj 4 (v:=?_) rfl (by kernel_rfl) (by kernel_rfl) (by kernel_rfl) (by kernel_rfl) (λ_ _ _ h=>h) (λ_=>by assumption) (by rfl) ?_ ?_;rotate_left;· (intro w;go_simp;try with_reducible rfl);try simp only[Act.put,xA,xE,xC])
    (refine aj 6 (v:=?_) rfl (by kernel_rfl) (by kernel_rfl) (by kernel_rfl) (by kernel_rfl) (λ_ _ _ h=>h) (λ_=>by assumption) (by rfl) ?_ ?_;rotate_left;· (intro w;go_simp;try with_reducible rfl);try simp only[Act.put,xA,xE,xC])
    (refine aj 7 (v:=?_) rfl (by kernel_rfl) (by kernel_rfl) (by kernel_rfl) (by kernel_rfl) (λ_ _ _ h=>h) (λ_=>by assumption) (by rfl) ?_ ?_;rotate_left;· (intro w;go_simp;try with_reducible rfl);try simp only[Act.put,xA,xE,xC])
    (refine aj 8 (v:=?_) rfl (by kernel_rfl) (by kernel_rfl) (by kernel_rfl) (by kernel_rfl) (λ_ _ _ h=>h) (λ_=>by assumption) (by rfl) ?_ ?_;rotate_left;· (intro w;go_simp;try with_reducible rfl);try simp only[Act.put,xA,xE,xC])
    clear hHeld q1;(refine aB 3 (by kernel_rfl) rfl (λK hK=>?_))
    go_simp;refine(iw b hb0 s4 _ HPD.out.kw HPD.out.ps).mono ?_;rintro e w5⟨rfl,hg5,hp5⟩;rw[H5.out]at hp5 ⊢;simp only at hp5 ⊢;have nC:=hid (HPD.out.call hb0 hg5 hp5);have HQ5:=hid (HQ.out.call hg5 hbw);have HK5:=hid (Kp.grown (base:=w.heap.size) (T:=Id.ji) hg5 hbw);clear hg5 hp5;(refine hK.out _ _ (λhnn=>HQ5.out.cell 3) ?_;clear hK K;try simp only[Act.put,xA,xE,xC])
    (refine aB 5 (by kernel_rfl) rfl (λK hK=>?_))
    go_simp;refine(Ji b hb0 s5 _ nC.out.kw nC.out.ps).mono ?_;rintro e w7⟨rfl,hg5,hp5⟩;rw[H7.out]at hp5 ⊢;simp only at hp5 ⊢;have Qr:=hid (nC.out.call hb0 hg5 hp5);have HQ7:=hid (HQ5.out.call hg5 hbw);have HK7:=hid (HK5.out.trans (Kp.grown (T:=Id.ji) hg5 hbw));clear hg5 hp5;(refine hK.out _ _ (λhnn=>HQ7.out.cell 3) ?_;clear hK K;try simp only[Act.put,xA,xE,xC])
    have hzi:=Qr.out.gb.size;(refine aB 9 (by kernel_rfl) rfl (λK hK=>?_))
    go_simp;refine(Ja b hb0 s7 (by omega) _ Qr.out.kw Qr.out.ps).mono ?_;rintro e w6⟨v6,rfl,hg6,hp6,hr6⟩;rw[H6.out]at hp6 hr6;simp only at hp6 hr6 ⊢;have vV:=hid (Qr.out.call hb0 hg6 hp6);have HQ6:=hid (HQ7.out.call hg6 hbw);have HK6:=hid (HK7.out.trans (Kp.grown (T:=Id.ji) hg6 hbw));obtain⟨A6,n6,c6,rfl⟩:=ah.is hr6;have HR6:Hid (ah w6 (some w.heap.size) 184 3 Id.eu (.slice A6 n6 c6) fs):=hid (ah.mono hr6 (λ_ _ h=>h.weak (λb' e=>⟨_,rfl,by injection e with e;omega⟩)) (λ_ _ h=>h));clear hg6 hp6 hr6;(refine hK.out _ _ (λhnn=>HQ6.out.cell 3) ?_;clear hK K;try simp only[Act.put,xA,xE,xC])
    (refine aB 10 (by kernel_rfl) rfl (λK hK=>?_))
    go_simp;(refine hK.out _ _ (λhnn=>HQ6.out.cell 3) ?_;clear hK K;try simp only[Act.put,xA,xE,xC])
    (refine aB 11 (by kernel_rfl) rfl (λK hK=>?_))
    go_simp;(refine hK.out _ _ (λhnn=>(HQ6.out.alloc _).cell 3) ?_;clear hK K;try simp only[Act.put,xA,xE,xC])
    have hz6:=vV.out.gb.size;(refine aB 12 (by kernel_rfl) rfl (λK hK=>?_))
    refine oI rfl _ _ _ rfl w.heap.size 105 _ 3 56 Tryz.underlying26 Id.JH rfl (by decide) (Id.jH (some w.heap.size)) (.slice A3 n3 c3') x.sagas rfl (Id.oP.kp HR3.out (HK6.out.trans (Kp.below ((Below.refl _ _).alloc (xB _) _))) (xB _) (by decide) (by decide)) [.string n5,.string n7,.slice A6 n6 c6] rfl _ rfl (Bk.new _ _ _) (by simp[Value.oneCell']) (by simp only[maxLen];omega) (by omega) (by simp;omega) ?_;intro A7 n7' c7 w8 qM hb8 ho8;have dP:=hid qM;have HB8:=hid hb8;have HO8:=hid ho8;have HQ8:=hid (ho8.bk (HQ6.out.alloc _) (by decide));clear qM hb8 ho8;(refine hK.out _ _ (λhnn=>absurd hnn (by decide)) ?_;clear hK K;try simp only[Act.put,xA,xE,xC])
    (refine aB 13 (by kernel_rfl) rfl (λK hK=>?_))
    go_simp;(refine hK.out _ _ (λhnn=>absurd hnn (by decide)) ?_;clear hK K;try simp only[Act.put,xA,xE,xC])
    have q8:=HQ8.out.cell 3;have q9:=HQ8.out.frozen 3;simp only[List.size_toArray,xJ,xO,List.getElem?_toArray,List.getElem?_cons_succ,List.getElem?_cons_zero]at q8;(refine aB 14 (by kernel_rfl) rfl (λK hK=>?_))
    go_simp;(refine hK.out _ _ (λhnn=>absurd hnn (by decide)) ?_;clear hK K;try simp only[Act.put,xA,xE,xC])
    clear q8 q9;refine dU (by kernel_rfl) ?_ _;refine NoPanic.normal ?_;go_wp2_with fail;have DX:=hid ((vV.out.alloc (.cells #[.string n5,.string n7,.slice A6 n6 c6] 105)).row HB8.out HO8.out (by omega) (by decide) (by decide));have HKX:=hid ((HK6.out.sub (xB _) (by decide)).trans ((Kp.below ((Below.refl _ _).alloc (xB _) (.cells #[.string n5,.string n7,.slice A6 n6 c6] 105))).trans (HO8.out.kp w.heap.size (T:=[42,176,44,101,180]) (by decide))));have HKI:=(Kp.below (base:=w.heap.size) (T:=[184]) ((Below.refl w6.heap.size w6).alloc (xB _) (.cells #[.string n5,.string n7,.slice A6 n6 c6] 105))).trans (HO8.out.kp w.heap.size (T:=[184]) (by decide));have hnew:=dP.out ⟨n5,n7,fs⟩ (Id.jH.kp (T:=[184]) (HO8.out.kp w.heap.size (by decide)) (xB _) (by decide)) ⟨_,rfl,ah.kp HR6.out HKI (xB _) (by decide) Id.eu.kp⟩;go_roundg f
    case rel=>exact⟨s6,_,hid ⟨λ_=>by omega,by omega,by simp;omega,DX.out.set HQ8.out (xB _) (by omega) (by decide) (by decide) 3 _,Id.jQ.sag HQ8.out (HR1.out.kp HKX.out (xB _) (by decide) (by decide) (by decide)) (HR2.out.kp HKX.out (xB _) (by decide) (by decide)) hnew,HE2.out⟩⟩
    case measure=>omega
   have HE:Hid (Id.aF f s4 x=R):=hid (by rw[HX2.out,if_neg e1,if_neg e2,if_neg e3,if_neg e4]);have t1:(wd.toList==[114,101,99,111,114,100])=false:=beq_eq_false_iff_ne.2 e1;have t2:(wd.toList==[99,104,111,105,99,101])=false:=beq_eq_false_iff_ne.2 e2;have t3:(wd.toList==[115,101,114,118,105,99,101])=false:=beq_eq_false_iff_ne.2 e3;have t4:(wd.toList==[115,97,103,97])=false:=beq_eq_false_iff_ne.2 e4;clear HX2 e1 e2 e3 e4;go_wp2_with fail;go_roundg f
   case rel=>exact⟨s4,x,hid ⟨λh=>by rcases hwc with⟨_,h2⟩|⟨h2,_⟩<;>first|omega|(rw[h2]at h;cases h),by omega,by omega,xu.out,zW.out,HE.out⟩⟩
   case measure=>omega
theorem Tk.II(d:Nat)(s:ByteArray):∀(f k:Nat)(acc:List Tk.Tok),k<=s.size->acc.length<=k->(Tk.scan d s f k acc).1.length<=s.size
 |0,k,acc,hk,ha=>by unfold Tk.scan;exact xM ha hk
 |f+1,k,acc,hk,ha=>by
  unfold Tk.scan;split
  ·rename_i hlt
   split
   ·simp
   ·rename_i he
    have hok:=Tk.nV (d:=d) (s:=s) (k:=k) hlt (by simpa using he);refine Tk.II d s f _ _ (Tk.qA false hok.2) ?_;rw[xI,List.length_singleton];have:=Tk.lF false s (k+(Tk.aH d s k).1.text.size);omega
  ·exact xM ha hk
theorem Tk.NH(s:ByteArray):(Tk.all s).1.length<=65536:=by
 unfold Tk.all;split
 ·simp
 ·rename_i h
  have:=Tk.II 3 s (s.size+1) (Tk.aP false s 0) [] (Tk.qA false (by omega)) (by simp);omega
theorem Id.Ps.y9{w:World}{base:Nat}{v:Value}{ls:List Tk.Tok}(h:w.ownsRow base 171 4 v ls.length (Tk.flat ls)):Id.Ps (w.alloc (.cells #[v,.bool false] 169)) w.heap.size (ls,false):=by
 obtain⟨A,c,hv,hr,hl⟩:=Tk.Bc h;have hbl:=(Below.refl w.heap.size w).alloc (xB _) (.cells #[v,.bool false] 169);have hbk:=Bk.new w 169 #[v,.bool false];subst hv;have key:ls.length<=c/\c<=9223372036854775807/\(∀ ad,A=some ad->ad.block<w.heap.size)/\(∀ g off,A=some ⟨g,off,none⟩->Id.Typed w g):=by
  rcases h.2 with⟨e,_⟩|⟨g,cap,cur,e,hb,hg,hn,hc,_⟩
  ·injection e with e1 e2 e3
   subst e1;exact⟨by omega,by omega,(λad e=>by cases e),(λg off e=>by cases e)⟩
  ·injection e with e1 e2 e3
   subst e1 e3;unfold maxLen at hc;exact⟨hn,by omega,(λad e=>by injection e with e;subst e;exact(Array.getElem?_eq_some_iff.1 hg).1),(λg' off e=>by injection e with e;injection e with e1 _;subst e1;exact⟨_,_,hg⟩)⟩
 exact⟨⟨A,c,hbk,hr.below hbl,key.1,key.2.1,λad e=>by have:=key.2.2.1 ad e;omega⟩,Id.Ar hbk (λg off e=>(key.2.2.2 g off e).below hbl)⟩
theorem Tk.iG.only{w w':World}{A:Option Addr}{ls:List Tk.Tok}{e:TypeId}(h:Tk.iG w A ls)(ho:Only e w w')(ht:∀ g off,A=some ⟨g,off,none⟩->Id.Typed w g)(he:171≠e):Tk.iG w' A ls:=λh0=>by
 obtain⟨g,off,e1,hc⟩:=h h0;obtain⟨cs,fr,hh⟩:=ht g off e1;have kc:∀ o,w'.cell? ⟨g,o,none⟩=w.cell? ⟨g,o,none⟩:=λo=>World.cell?_of_block (a:=⟨g,o,none⟩) ((ho.typed hh he).trans hh.symm)
 exact⟨g,off,e1,λj hj=>by rw[kc,kc,kc,kc];exact hc j hj⟩
theorem Id.Typed.ne{w:World}{g b:Nat}{t:TypeId}{cs:Array Value}(h:Id.Typed w g)(hb:Bk w b t cs)(ht:171≠t):¬g=b:=by
 rintro rfl;obtain⟨cs',fr,hh⟩:=h;unfold Bk at hb;rw[hh]at hb;injection hb with hb
 injection hb with _ h2
 exact ht h2
namespace Id
def whole{α:Type}(zero:α)(read:St->α × St)(s:ByteArray):α × Nat × Nat :=
 if(Tk.all s).2.2≠0 then(zero,(Tk.all s).2.1,(Tk.all s).2.2)else
 match (read ((Tk.all s).1,false)).2.1 with
 |[]=>if(read ((Tk.all s).1,false)).2.2 then(zero,s.size,120)else((read ((Tk.all s).1,false)).1,0,0)
 |t::_=>(zero,t.at_,120)
def Sch.zero:Sch:=⟨⟨#[]⟩,[],[],[]⟩
def parse(s:ByteArray):Sch × Nat × Nat:=whole Sch.zero schema s
def type(s:ByteArray):List Srt × Nat × Nat:=whole [] sorts s
def aY(w:World)(B:Option Nat)(v:Value)(x:Sch):Prop:=∃ A1 n1 c1 A2 n2 c2 A3 n3 c3,v=.agg #[.string x.name,.slice A1 n1 c1,.slice A2 n2 c2,.slice A3 n3 c3]/\oQ w B (.slice A1 n1 c1) x.records/\oO w B (.slice A2 n2 c2) x.services/\oP w B (.slice A3 n3 c3) x.sagas
theorem dR.below{B:Option Nat}{w w':World}(h:Below w.heap.size w w')(cs:List Value)(x:Fld)(he:dR B w cs x):dR B w' cs x:=by
 obtain⟨u,e,hs⟩:=he;exact⟨u,e,ah.below hs h (λ_ _ h=>h)⟩
theorem iH.below{B:Option Nat}{w w':World}(h:Below w.heap.size w w')(cs:List Value)(x:Rec)(he:iH B w cs x):iH B w' cs x:=by
 obtain⟨u,e,hs⟩:=he;exact⟨u,e,ah.below hs h (dR.below h)⟩
theorem jG.below{B:Option Nat}{w w':World}(h:Below w.heap.size w w')(cs:List Value)(x:Svc)(he:jG B w cs x):jG B w' cs x:=by
 obtain⟨u,e,hs⟩:=he;exact⟨u,e,ah.below hs h (λ_ _ h=>h)⟩
theorem jH.below{B:Option Nat}{w w':World}(h:Below w.heap.size w w')(cs:List Value)(x:Sag)(he:jH B w cs x):jH B w' cs x:=by
 obtain⟨u,e,hs⟩:=he;exact⟨u,e,ah.below hs h (λ_ _ h=>h)⟩
theorem aY.below{B:Option Nat}{w w':World}{v:Value}{x:Sch}(hb:Below w.heap.size w w')(h:aY w B v x):aY w' B v x:=by
 obtain⟨A1,n1,c1,A2,n2,c2,A3,n3,c3,e,h1,h2,h3⟩:=h;exact⟨A1,n1,c1,A2,n2,c2,A3,n3,c3,e,ah.below h1 hb (iH.below hb),ah.below h2 hb (jG.below hb),ah.below h3 hb (jH.below hb)⟩
theorem aY.only{b:Nat}{w w':World}{v:Value}{x:Sch}(h:aY w (some b) v x){e:TypeId}(ho:Only e w w')(he:e ∉ ji):aY w' (some b) v x:=by
 have hk:=ho.kp b he;obtain⟨A1,n1,c1,A2,n2,c2,A3,n3,c3,e,h1,h2,h3⟩:=h;exact⟨A1,n1,c1,A2,n2,c2,A3,n3,c3,e,h1.kp hk (xB _) (by decide) (by decide) (by decide),h2.kp hk (xB _) (by decide) (by decide),h3.kp hk (xB _) (by decide) (by decide)⟩
def wkB(B B':Option Nat):Prop:=∀ b',B'=some b'->∃ b,B=some b/\b'<=b
theorem dR.weak{B B':Option Nat}{w:World}(h:wkB B B')(cs:List Value)(x:Fld)(he:dR B w cs x):dR B' w cs x:=by
 obtain⟨u,e,hs⟩:=he;exact⟨u,e,ah.mono hs (λ_ _ hr=>hr.weak h) (λ_ _ h=>h)⟩
theorem iH.weak{B B':Option Nat}{w:World}(h:wkB B B')(cs:List Value)(x:Rec)(he:iH B w cs x):iH B' w cs x:=by
 obtain⟨u,e,hs⟩:=he;exact⟨u,e,ah.mono hs (λ_ _ hr=>hr.weak h) (dR.weak h)⟩
theorem jG.weak{B B':Option Nat}{w:World}(h:wkB B B')(cs:List Value)(x:Svc)(he:jG B w cs x):jG B' w cs x:=by
 obtain⟨u,e,hs⟩:=he;exact⟨u,e,ah.mono hs (λ_ _ hr=>hr.weak h) (λ_ _ h=>h)⟩
theorem jH.weak{B B':Option Nat}{w:World}(h:wkB B B')(cs:List Value)(x:Sag)(he:jH B w cs x):jH B' w cs x:=by
 obtain⟨u,e,hs⟩:=he;exact⟨u,e,ah.mono hs (λ_ _ hr=>hr.weak h) (λ_ _ h=>h)⟩
theorem aY.weak{B B':Option Nat}{w:World}{v:Value}{x:Sch}(hb:wkB B B')(h:aY w B v x):aY w B' v x:=by
 obtain⟨A1,n1,c1,A2,n2,c2,A3,n3,c3,e,h1,h2,h3⟩:=h;exact⟨A1,n1,c1,A2,n2,c2,A3,n3,c3,e,ah.mono h1 (λ_ _ hr=>hr.weak hb) (iH.weak hb),ah.mono h2 (λ_ _ hr=>hr.weak hb) (jG.weak hb),ah.mono h3 (λ_ _ hr=>hr.weak hb) (jH.weak hb)⟩
theorem Ec{b b':Nat}(h:b'<=b):wkB (some b) (some b'):=λ_ e=>⟨b,rfl,by injection e with e;omega⟩
theorem BR(B:Option Nat):wkB B none:=λ_ e=>by cases e
theorem aY.zero(w:World)(b:Nat):aY w (some b) (.agg #[.string ⟨#[]⟩,.slice none 0 0,.slice none 0 0,.slice none 0 0]) Sch.zero:=⟨_,_,_,_,_,_,_,_,_,rfl,ah.nil _ _ _ _ _,ah.nil _ _ _ _ _,ah.nil _ _ _ _ _⟩
end Id
theorem Ie(s:ByteArray)(hs:s.size<=9223372036854775807)(w:World)(hk:Tk.KW w) :
  Calls Tryz.prog 36 #[.string s,.func (.func 37) #[] #[]] w λe w'=>∃ v,e=.returned (.tuple #[v,.int .i64 (Id.parse s).2.1,.int .i64 (Id.parse s).2.2])/\Below w.heap.size w w'/\Id.aY w' (some w.heap.size) v (Id.parse s).1:=by
 obtain⟨R,HR⟩:∃ R,Hid (Id.parse s=R):=⟨_,hid rfl⟩;rw[HR.out];obtain⟨⟨pl,pat,pe⟩,HT⟩:∃ T,Hid (Tk.all s=T):=⟨_,hid rfl⟩;have hpl:=Tk.NH s;rw[HT.out]at hpl;simp only at hpl;have hbl:=((Below.refl w.heap.size w).alloc (xB _) (.cells #[.string ⟨#[]⟩,.slice none 0 0,.slice none 0 0,.slice none 0 0] 28)).alloc (by simp) (.cells #[.string ⟨#[]⟩,.slice none 0 0,.slice none 0 0,.slice none 0 0] 28);have hq:=(Bk.new w 28 #[.string ⟨#[]⟩,.slice none 0 0,.slice none 0 0,.slice none 0 0]).alloc (.cells #[.string ⟨#[]⟩,.slice none 0 0,.slice none 0 0,.slice none 0 0] 28);have hz:=Bk.new (w.alloc (.cells #[.string ⟨#[]⟩,.slice none 0 0,.slice none 0 0,.slice none 0 0] 28)) 28 #[.string ⟨#[]⟩,.slice none 0 0,.slice none 0 0,.slice none 0 0];have hkb:=hk.below hbl;have hz1:((w.alloc (.cells #[.string ⟨#[]⟩,.slice none 0 0,.slice none 0 0,.slice none 0 0] 28)).alloc (.cells #[.string ⟨#[]⟩,.slice none 0 0,.slice none 0 0,.slice none 0 0] 28)).heap.size=w.heap.size+2:=by simp
 rw[World.size_alloc]at hz;clear hk;go_enter Tryz.func36,Tryz.ntmps36;go_wp2_with fail;generalize((w.alloc (.cells #[.string ⟨#[]⟩,.slice none 0 0,.slice none 0 0,.slice none 0 0] 28)).alloc (.cells #[.string ⟨#[]⟩,.slice none 0 0,.slice none 0 0,.slice none 0 0] 28))=w1 at *;refine(XH s (by unfold maxLen;omega) _).mono ?_;rintro e w2⟨v2,rfl,hb2,hown⟩;rw[HT.out]at hown ⊢;simp only at hown ⊢;have hq2:=hq.below hb2 hq.lt;have hz2:=hz.below hb2 hz.lt;have hk2:=hkb.below hb2;have hB2:Below w.heap.size w w2:=hbl.trans (hb2.mono (by omega));have hsz2:=hb2.size;by_cases hpe:pe=0
 case neg =>
  have HE:Hid (R=(Id.Sch.zero,pat,pe)):=hid (by rw[<-HR.out];unfold Id.parse Id.whole;rw[HT.out];simp[hpe]);have tpe:((pe:Int) != 0)=true:=by rw[bne_iff_ne];omega
  have ZE:decide (pe=0)=false:=by simpa using hpe
  clear hpe hq hz hkb hb2;obtain⟨⟨q0,q1,q2,q3⟩,q4,q5,q6,q7⟩:=hq2.k4;obtain⟨⟨z0,z1,z2,z3⟩,_⟩:=hz2.k4;go_wp2_with fail;have hqf:=((((hq2.au 0 (.string ⟨#[]⟩)).au 1 (.slice none 0 0)).au 2 (.slice none 0 0)).au 3 (.slice none 0 0));have hBf:Below w.heap.size w _:=((((hB2.setCell (p:=⟨w.heap.size,0,none⟩) (xB _) (.string ⟨#[]⟩)).setCell (p:=⟨w.heap.size,1,none⟩) (xB _) (.slice none 0 0)).setCell (p:=⟨w.heap.size,2,none⟩) (xB _) (.slice none 0 0)).setCell (p:=⟨w.heap.size,3,none⟩) (xB _) (.slice none 0 0));generalize((((w2.setCell ⟨w.heap.size,0,none⟩ (.string ⟨#[]⟩)).setCell ⟨w.heap.size,1,none⟩ (.slice none 0 0)).setCell ⟨w.heap.size,2,none⟩ (.slice none 0 0)).setCell ⟨w.heap.size,3,none⟩ (.slice none 0 0))=wf at *;obtain⟨⟨y0,y1,y2,y3⟩,_⟩:=hqf.k4;refine bodyPost_ret (v:=.tuple #[.agg #[.string ⟨#[]⟩,.slice none 0 0,.slice none 0 0,.slice none 0 0],.int .i64 pat,.int .i64 pe]) ?_ rfl ⟨_,by first|(rw[HE.out];done)|(rw[HE.out];rfl),hBf,by rw[HE.out];exact Id.aY.zero _ _⟩;rw[qx rfl];go_simp;try rfl
 subst hpe;have hPS:=Id.Ps.y9 hown;have F5:=(Below.refl w2.heap.size w2).alloc (xB _) (.cells #[v2,.bool false] 169);have hk3:=hk2.below F5;have hq3:=hq2.below F5 hq2.lt;have hz3:=hz2.below F5 hz2.lt;have hb0:0<w2.heap.size:=hk2.1;have hsz3:w2.heap.size<(w2.alloc (.cells #[v2,.bool false] 169)).heap.size:=by simp
 obtain⟨A2,c2,rfl,_⟩:=Tk.Bc hown;obtain⟨⟨x,s3⟩,H3⟩:∃ T,Hid (Id.schema (pl,false)=T):=⟨_,hid rfl⟩;have HR2:Hid (R=match s3.1 with
  |[]=>if s3.2 then(Id.Sch.zero,s.size,120)else(x,0,0)
  |t::_=>(Id.Sch.zero,t.at_,120)):=hid (by rw[<-HR.out];unfold Id.parse Id.whole;rw[HT.out];simp only[H3.out];rfl)
 have HPS:=hid hPS;have HQ3:=hid hq3;have HZ3:=hid hz3;have HB3:=hid (hB2.trans (F5.mono (by omega)));have hrb:w.heap.size<w2.heap.size:=hq2.lt;have hzb:w.heap.size+1<w2.heap.size:=hz2.lt;clear hPS F5 hk2 hq2 hz2 hq hz hkb hb2 hown hB2 hq3 hz3 hbl hz1;go_wp2_with fail;refine(LK w2.heap.size hb0 (pl,false) (by simp only;omega) _ hk3 HPS.out).mono ?_;rintro e w4⟨v1,v2',v3,rfl,hg4,hp4,r1,r2,r3⟩;rw[H3.out]at hp4 r1 r2 r3 ⊢;simp only at hp4 r1 r2 r3 ⊢;obtain⟨A5,n5,c5,rfl⟩:=ah.is r1;obtain⟨A6,n6,c6,rfl⟩:=ah.is r2;obtain⟨A7,n7,c7,rfl⟩:=ah.is r3;have hne:¬w2.heap.size=w.heap.size:=by omega
 have hne2:¬w.heap.size+1=w.heap.size:=by omega
 have HQ4:=hid (HQ3.out.grown hg4 (by intro e;injection e with e;omega));have HZ4:=hid (HZ3.out.grown hg4 (by intro e;injection e with e;omega));have HB4:=hid (dw HB3.out hg4 (by omega) (by omega));have YH:Id.aY w4 (some w.heap.size) (.agg #[.string x.name,.slice A5 n5 c5,.slice A6 n6 c6,.slice A7 n7 c7]) x:=Id.aY.weak (Id.Ec (by omega)) ⟨_,_,_,_,_,_,_,_,_,rfl,r1,r2,r3⟩;have HSV:=hid YH;obtain⟨A,c,hpk,hpr,hpc,aaA,hpn⟩:=hp4.lies;have HTY:=hid hp4.typ;clear r1 r2 r3 YH hp4 hk3 HPS HQ3 HZ3 HB3 hg4 hsz2 hsz3;obtain⟨⟨q0,q1,q2,q3⟩,q4,q5,q6,q7⟩:=HQ4.out.k4;go_upto_region 7 with(fail)
 clear q0 q1 q2 q3 q4 q5 q6 q7;have ho:=((((Only.set HQ4.out 0 (.string x.name)).trans (Only.set (HQ4.out.au 0 (.string x.name)) 1 (.slice A5 n5 c5))).trans (Only.set ((HQ4.out.au 0 (.string x.name)).au 1 (.slice A5 n5 c5)) 2 (.slice A6 n6 c6))).trans (Only.set (((HQ4.out.au 0 (.string x.name)).au 1 (.slice A5 n5 c5)).au 2 (.slice A6 n6 c6)) 3 (.slice A7 n7 c7)));have hq5:Bk _ w.heap.size 28 #[.string x.name,.slice A5 n5 c5,.slice A6 n6 c6,.slice A7 n7 c7]:=((((HQ4.out.au 0 (.string x.name)).au 1 (.slice A5 n5 c5)).au 2 (.slice A6 n6 c6)).au 3 (.slice A7 n7 c7));have hp5:=((((hpk.far (p:=⟨w.heap.size,0,none⟩) hne (.string x.name)).far (p:=⟨w.heap.size,1,none⟩) hne (.slice A5 n5 c5)).far (p:=⟨w.heap.size,2,none⟩) hne (.slice A6 n6 c6)).far (p:=⟨w.heap.size,3,none⟩) hne (.slice A7 n7 c7));have hz5:=((((HZ4.out.far (p:=⟨w.heap.size,0,none⟩) hne2 (.string x.name)).far (p:=⟨w.heap.size,1,none⟩) hne2 (.slice A5 n5 c5)).far (p:=⟨w.heap.size,2,none⟩) hne2 (.slice A6 n6 c6)).far (p:=⟨w.heap.size,3,none⟩) hne2 (.slice A7 n7 c7));have HB5:=hid ((((HB4.out.setCell (p:=⟨w.heap.size,0,none⟩) (xB _) (.string x.name)).setCell (p:=⟨w.heap.size,1,none⟩) (xB _) (.slice A5 n5 c5)).setCell (p:=⟨w.heap.size,2,none⟩) (xB _) (.slice A6 n6 c6)).setCell (p:=⟨w.heap.size,3,none⟩) (xB _) (.slice A7 n7 c7));have hr5:Tk.iG _ A s3.1:=hpr.only ho (λg off e=>HTY.out g off _ _ _ (by subst e;exact hpk)) (by decide);have HGN:Hid (∀ g off,A=some ⟨g,off,none⟩->¬g=w.heap.size):=hid (λg off e=>Id.Typed.ne (HTY.out g off _ _ _ (by subst e;exact hpk)) HQ4.out (by decide));have aaj:=hid (HSV.out.only ho (by decide));generalize((((w4.setCell ⟨w.heap.size,0,none⟩ (.string x.name)).setCell ⟨w.heap.size,1,none⟩ (.slice A5 n5 c5)).setCell ⟨w.heap.size,2,none⟩ (.slice A6 n6 c6)).setCell ⟨w.heap.size,3,none⟩ (.slice A7 n7 c7))=w5 at *;clear ho hpk hpr HB4 HSV HZ4 HQ4 HTY;obtain⟨l3,bad⟩:=s3;simp only at hp5 hr5 hpc HR2;cases l3 with
 |nil =>
  simp only[xO]at hp5;obtain⟨⟨p0,p1⟩,_⟩:=hp5.k2;obtain⟨⟨q0,q1,q2,q3⟩,q4,q5,q6,q7⟩:=hq5.k4;obtain⟨⟨z0,z1,z2,z3⟩,_⟩:=hz5.k4;clear hr5 hpc hpn;cases bad
  ·have HE:Hid (R=(x,0,0)):=hid (by rw[HR2.out];rfl)
   go_wp2_with fail;clear q0 q1 q2 q3 q4 q5 q6 q7;have hqf:Bk _ w.heap.size 28 #[.string x.name,.slice A5 n5 c5,.slice A6 n6 c6,.slice A7 n7 c7]:=((((hq5.au 0 (.string x.name)).au 1 (.slice A5 n5 c5)).au 2 (.slice A6 n6 c6)).au 3 (.slice A7 n7 c7));have hBf:=((((HB5.out.setCell (p:=⟨w.heap.size,0,none⟩) (xB _) (.string x.name)).setCell (p:=⟨w.heap.size,1,none⟩) (xB _) (.slice A5 n5 c5)).setCell (p:=⟨w.heap.size,2,none⟩) (xB _) (.slice A6 n6 c6)).setCell (p:=⟨w.heap.size,3,none⟩) (xB _) (.slice A7 n7 c7));have hof:=((((Only.set hq5 0 (.string x.name)).trans (Only.set (hq5.au 0 (.string x.name)) 1 (.slice A5 n5 c5))).trans (Only.set ((hq5.au 0 (.string x.name)).au 1 (.slice A5 n5 c5)) 2 (.slice A6 n6 c6))).trans (Only.set (((hq5.au 0 (.string x.name)).au 1 (.slice A5 n5 c5)).au 2 (.slice A6 n6 c6)) 3 (.slice A7 n7 c7)));have hsf:=aaj.out.only hof (by decide);generalize((((w5.setCell ⟨w.heap.size,0,none⟩ (.string x.name)).setCell ⟨w.heap.size,1,none⟩ (.slice A5 n5 c5)).setCell ⟨w.heap.size,2,none⟩ (.slice A6 n6 c6)).setCell ⟨w.heap.size,3,none⟩ (.slice A7 n7 c7))=wf at *;obtain⟨⟨y0,y1,y2,y3⟩,_⟩:=hqf.k4;refine bodyPost_ret (v:=.tuple #[.agg #[.string x.name,.slice A5 n5 c5,.slice A6 n6 c6,.slice A7 n7 c7],.int .i64 0,.int .i64 0]) ?_ rfl ⟨_,by first|(rw[HE.out];done)|(rw[HE.out];rfl),hBf,by rw[HE.out];exact hsf⟩;rw[qx rfl];go_simp;try rfl
  ·have HE:Hid (R=(Id.Sch.zero,s.size,120)):=hid (by rw[HR2.out];rfl)
   go_wp2_with fail;clear q0 q1 q2 q3 q4 q5 q6 q7;have hqf:Bk _ w.heap.size 28 #[.string ⟨#[]⟩,.slice none 0 0,.slice none 0 0,.slice none 0 0]:=((((hq5.au 0 (.string ⟨#[]⟩)).au 1 (.slice none 0 0)).au 2 (.slice none 0 0)).au 3 (.slice none 0 0));have hBf:=((((HB5.out.setCell (p:=⟨w.heap.size,0,none⟩) (xB _) (.string ⟨#[]⟩)).setCell (p:=⟨w.heap.size,1,none⟩) (xB _) (.slice none 0 0)).setCell (p:=⟨w.heap.size,2,none⟩) (xB _) (.slice none 0 0)).setCell (p:=⟨w.heap.size,3,none⟩) (xB _) (.slice none 0 0));have hof:=((((Only.set hq5 0 (.string ⟨#[]⟩)).trans (Only.set (hq5.au 0 (.string ⟨#[]⟩)) 1 (.slice none 0 0))).trans (Only.set ((hq5.au 0 (.string ⟨#[]⟩)).au 1 (.slice none 0 0)) 2 (.slice none 0 0))).trans (Only.set (((hq5.au 0 (.string ⟨#[]⟩)).au 1 (.slice none 0 0)).au 2 (.slice none 0 0)) 3 (.slice none 0 0)));generalize((((w5.setCell ⟨w.heap.size,0,none⟩ (.string ⟨#[]⟩)).setCell ⟨w.heap.size,1,none⟩ (.slice none 0 0)).setCell ⟨w.heap.size,2,none⟩ (.slice none 0 0)).setCell ⟨w.heap.size,3,none⟩ (.slice none 0 0))=wf at *;obtain⟨⟨y0,y1,y2,y3⟩,_⟩:=hqf.k4;refine bodyPost_ret (v:=.tuple #[.agg #[.string ⟨#[]⟩,.slice none 0 0,.slice none 0 0,.slice none 0 0],.int .i64 s.size,.int .i64 120]) ?_ rfl ⟨_,by first|(rw[HE.out];done)|(rw[HE.out];rfl),hBf,by rw[HE.out];exact Id.aY.zero _ _⟩;rw[qx rfl];go_simp;try rfl
 |cons t r =>
  have HE:Hid (R=(Id.Sch.zero,t.at_,120)):=hid HR2.out;obtain⟨g,off,rfl,hcs⟩:=hr5 (by simp);obtain⟨t0,t1,t2,t3⟩:=hcs 0 (by simp);simp only[Nat.zero_mul,xK,List.getElem_cons_zero]at t0 t1 t2 t3;simp only[xJ]at hp5 hpc;obtain⟨m,hm⟩:∃ m,m=r.length:=⟨_,rfl⟩;rw[<-hm]at hp5 hpc;have hm1:¬(m:Int)+1=0:=by omega
  have hm2:(0:Int)<(m:Int)+1:=by omega
  have hm3:((m:Int)+1==0)=false:=by rw[xG];omega
  have hm4:0<m+1:=by omega
  obtain⟨⟨p0,p1⟩,_⟩:=hp5.k2;obtain⟨⟨q0,q1,q2,q3⟩,q4,q5,q6,q7⟩:=hq5.k4;obtain⟨⟨z0,z1,z2,z3⟩,_⟩:=hz5.k4;clear hcs hm hpn;have hgn:¬g=w.heap.size:=HGN.out _ _ rfl;cases bad
  all_goals
   go_wp2_with fail;go_region;clear q0 q1 q2 q3 q4 q5 q6 q7 z0 z1 z2 z3 p0 p1 t0 t1 t2 t3;have hqf:Bk _ w.heap.size 28 #[.string ⟨#[]⟩,.slice none 0 0,.slice none 0 0,.slice none 0 0]:=((((hq5.au 0 (.string ⟨#[]⟩)).au 1 (.slice none 0 0)).au 2 (.slice none 0 0)).au 3 (.slice none 0 0)).drew;have hBf:=((((HB5.out.setCell (p:=⟨w.heap.size,0,none⟩) (xB _) (.string ⟨#[]⟩)).setCell (p:=⟨w.heap.size,1,none⟩) (xB _) (.slice none 0 0)).setCell (p:=⟨w.heap.size,2,none⟩) (xB _) (.slice none 0 0)).setCell (p:=⟨w.heap.size,3,none⟩) (xB _) (.slice none 0 0)).drew;generalize((((w5.setCell ⟨w.heap.size,0,none⟩ (.string ⟨#[]⟩)).setCell ⟨w.heap.size,1,none⟩ (.slice none 0 0)).setCell ⟨w.heap.size,2,none⟩ (.slice none 0 0)).setCell ⟨w.heap.size,3,none⟩ (.slice none 0 0)).drew=wf at *;go_wp2_with fail;obtain⟨⟨y0,y1,y2,y3⟩,_⟩:=hqf.k4;refine bodyPost_ret (v:=.tuple #[.agg #[.string ⟨#[]⟩,.slice none 0 0,.slice none 0 0,.slice none 0 0],.int .i64 t.at_,.int .i64 120]) ?_ rfl ⟨_,by first|(rw[HE.out];done)|(rw[HE.out];rfl),hBf,by rw[HE.out];exact Id.aY.zero _ _⟩;rw[qx rfl];go_simp;try rfl
theorem yZ(s:ByteArray)(hs:s.size<=9223372036854775807)(w:World)(hk:Tk.KW w) :
  Calls Tryz.prog 9 #[.string s] w λe w'=>∃ v,e=.returned (.tuple #[v,.int .i64 (Id.parse s).2.1,.int .i64 (Id.parse s).2.2])/\Below w.heap.size w w'/\Id.aY w' (some w.heap.size) v (Id.parse s).1:=by
 obtain⟨R,HR⟩:∃ R,Hid (Id.parse s=R):=⟨_,hid rfl⟩;rw[HR.out];have hbl:=(Below.refl w.heap.size w).alloc (xB _) (.cells #[.string ⟨#[]⟩,.slice none 0 0,.slice none 0 0,.slice none 0 0] 28);have hq:=Bk.new w 28 #[.string ⟨#[]⟩,.slice none 0 0,.slice none 0 0,.slice none 0 0];have hk1:=hk.below hbl;clear hk;go_enter Tryz.func9,Tryz.ntmps9;go_wp2_with fail;refine(Ie s hs _ hk1).mono ?_;rintro e w2⟨v,rfl,hb2,hsv⟩;rw[HR.out]at hsv ⊢;have hB2:=hid (hbl.trans (hb2.mono (by simp)));have hq5:=hq.below hb2 hq.lt;have HSV:=hid (Id.aY.weak (Id.Ec (by simp)) hsv:Id.aY w2 (some w.heap.size) v R.1);obtain⟨A5,n5,c5,A6,n6,c6,A7,n7,c7,rfl,_⟩:=hsv;clear hq hbl hk1 hb2;obtain⟨⟨q0,q1,q2,q3⟩,q4,q5,q6,q7⟩:=hq5.k4;generalize R.1.name=xn at *;go_wp2_with fail;clear q0 q1 q2 q3 q4 q5 q6 q7;have hqf:Bk _ w.heap.size 28 #[.string xn,.slice A5 n5 c5,.slice A6 n6 c6,.slice A7 n7 c7]:=((((hq5.au 0 (.string xn)).au 1 (.slice A5 n5 c5)).au 2 (.slice A6 n6 c6)).au 3 (.slice A7 n7 c7));have hBf:=((((hB2.out.setCell (p:=⟨w.heap.size,0,none⟩) (xB _) (.string xn)).setCell (p:=⟨w.heap.size,1,none⟩) (xB _) (.slice A5 n5 c5)).setCell (p:=⟨w.heap.size,2,none⟩) (xB _) (.slice A6 n6 c6)).setCell (p:=⟨w.heap.size,3,none⟩) (xB _) (.slice A7 n7 c7));have hsf:=HSV.out.only ((((Only.set hq5 0 (.string xn)).trans (Only.set (hq5.au 0 (.string xn)) 1 (.slice A5 n5 c5))).trans (Only.set ((hq5.au 0 (.string xn)).au 1 (.slice A5 n5 c5)) 2 (.slice A6 n6 c6))).trans (Only.set (((hq5.au 0 (.string xn)).au 1 (.slice A5 n5 c5)).au 2 (.slice A6 n6 c6)) 3 (.slice A7 n7 c7))) (by decide);generalize((((w2.setCell ⟨w.heap.size,0,none⟩ (.string xn)).setCell ⟨w.heap.size,1,none⟩ (.slice A5 n5 c5)).setCell ⟨w.heap.size,2,none⟩ (.slice A6 n6 c6)).setCell ⟨w.heap.size,3,none⟩ (.slice A7 n7 c7))=wf at *;obtain⟨⟨y0,y1,y2,y3⟩,_⟩:=hqf.k4;refine bodyPost_ret (v:=.tuple #[.agg #[.string xn,.slice A5 n5 c5,.slice A6 n6 c6,.slice A7 n7 c7],.int .i64 R.2.1,.int .i64 R.2.2]) ?_ rfl ⟨_,rfl,hBf,hsf⟩;rw[qx rfl];go_simp;try rfl
theorem Ti{P:Program}{f:FuncId}{args:Array Value}{w:World}{v:Value}(n:Nat)(h:Calls P f args (w.drewN n) λe w'=>e=.returned v/\∃ q,w'=(w.drewN n).drewN q):Calls P f args (w.drewN n) λe w'=>e=.returned v/\∃ q,w'=w.drewN q :=
 h.mono λ_ _ ⟨he,q,hq⟩=>⟨he,n+q,by rw[hq,World.drewN_drewN]⟩
namespace Id
def bD{α:Type}(eq:α->α->Bool):List α->List α->Bool
 |[],[]=>true
 |x::a,y::b=>eq x y&&bD eq a b
 |_,_=>false
theorem jZ{α:Type}{eq:α->α->Bool}:∀(a b:List α),a.length≠b.length->bD eq a b=false
 |[],[],h=>absurd rfl h
 |[],_::_,_=>rfl
 |_::_,[],_=>rfl
 |x::a,y::b,h=>by
  unfold bD;rw[jZ a b (by simpa using h),Bool.and_false]
theorem jy{α:Type}{eq:α->α->Bool}(h:∀ x,eq x x=true):∀ a:List α,bD eq a a=true
 |[]=>rfl
 |x::a=>by unfold bD;rw[h,jy h a];rfl
theorem lK{α:Type}{eq:α->α->Bool}{a b:List α}{k:Nat}(ha:k<a.length)(hb:k<b.length):bD eq (a.drop k) (b.drop k)=(eq a[k] b[k]&&bD eq (a.drop (k+1)) (b.drop (k+1))):=by
 rw[xQ ha,xQ hb];rfl
theorem lM{α:Type}{eq:α->α->Bool}{a b:List α}{k:Nat}(ha:a.length<=k)(hb:b.length<=k):bD eq (a.drop k) (b.drop k)=true:=by
 rw[xP ha,xP hb];rfl
def oJ(x y:Srt):Bool:=x.kind==y.kind&&x.name.toList==y.name.toList
def qc(x y:Mth):Bool:=x.name.toList==y.name.toList&&x.arg.toList==y.arg.toList&&x.result==y.result&&x.effect.toList==y.effect.toList&&x.undo.toList==y.undo.toList
def rQ(x y:Stp):Bool:=x.service.toList==y.service.toList&&x.method.toList==y.method.toList&&x.at_==y.at_
def uO(x y:Fld):Bool:=x.name.toList==y.name.toList&&bD oJ x.type y.type
def oL(x y:Rec):Bool:=x.name.toList==y.name.toList&&x.choice==y.choice&&bD uO x.fields y.fields
def lI(x y:Svc):Bool:=x.name.toList==y.name.toList&&bD qc x.methods y.methods
def jT(x y:Sag):Bool:=x.name.toList==y.name.toList&&x.arg.toList==y.arg.toList&&bD rQ x.steps y.steps
def uK(x y:Sch):Bool:=x.name.toList==y.name.toList&&bD oL x.records y.records&&bD lI x.services y.services&&bD jT x.sagas y.sagas
theorem NZ(x:Srt):oJ x x=true:=by simp[oJ]
theorem OW(x:Mth):qc x x=true:=by simp[qc]
theorem NV(x:Stp):rQ x x=true:=by simp[rQ]
theorem PE(x:Fld):uO x x=true:=by simp[uO,jy NZ]
theorem O1(x:Rec):oL x x=true:=by simp[oL,jy PE]
theorem NU(x:Svc):lI x x=true:=by simp[lI,jy OW]
theorem Oj(x:Sag):jT x x=true:=by simp[jT,jy NV]
theorem Oh(x:Sch):uK x x=true:=by simp[uK,jy O1,jy NU,jy Oj]
end Id
theorem Ad(va vb:Value)(a b:List Id.Srt)(w:World)(ha:Id.bf w none va a)(hb:Id.bf w none vb b) :
  Calls Tryz.prog 119 #[va,vb] w λe w'=>e=.returned (.bool (Id.bD Id.oJ a b))/\∃ q,w'=w.drewN q:=by
 obtain⟨R,HR⟩:∃ R,Hid (Id.bD Id.oJ a b=R):=⟨_,hid rfl⟩;rw[HR.out];obtain⟨A,ca,rfl,ha1,ha2,_⟩:=ah.slice ha;obtain⟨B,cb,rfl,hb1,hb2,_⟩:=ah.slice hb;have Ha:=hid ha;have Hb:=hid hb;by_cases hl:a.length=b.length
 case neg =>
  have HE:Hid (R=false):=hid (by rw[<-HR.out];exact Id.jZ a b hl);have h1:((a.length:Int) != b.length)=true:=by rw[bne_iff_ne];omega
  clear ha hb;generalize a.length=n at *;generalize b.length=m at *;go_enter Tryz.func119,Tryz.ntmps119;go_wp2_with fail;go_ret;exact⟨(by first|(rw[HE.out];done)|(rw[HE.out];rfl)),0,rfl⟩
 obtain⟨n,hn⟩:∃ n,n=a.length:=⟨_,rfl⟩;rw[<-hl,<-hn]at Hb ⊢;rw[<-hn]at Ha;have HNA:=hid hn;have HNB:Hid (n=b.length):=hid (hn.trans hl);have hnm:n<=9223372036854775807:=by omega
 clear ha hb hl hn ha1 ha2 hb1 hb2;go_enter Tryz.func119,Tryz.ntmps119;go_wp2_with fail;go_loopw [5] (λi wr=>∃ k q:Nat,k<=n/\i=.int .i64 k/\Hid (R=Id.bD Id.oJ (a.drop k) (b.drop k))/\Hid (wr=w.drewN q)) (λi _=>n - (intOf i).toNat)
 case atStart=>exact⟨0,0,by omega,rfl,hid HR.out.symm,hid rfl⟩
 case round =>
  obtain⟨k,q,hk,rfl,HK,HW⟩:=hrel;obtain rfl:=HW.out;by_cases hlt:k<n
  ·have hka:k<a.length:=by rw[<-HNA.out];exact hlt
   have hkb:k<b.length:=by rw[<-HNB.out];exact hlt
   obtain⟨ag,ao,acs,rfl,_,ea,hca⟩:=Ha.out.get hka (by omega);obtain⟨bg,bo,bcs,rfl,_,eb,hcb⟩:=Hb.out.get hkb (by omega);have HD:=HK.out;rw[Id.lK hka hkb]at HD;generalize a[k]=x at *;generalize b[k]=y at *;obtain⟨xk,xn⟩:=x;obtain⟨yk,yn⟩:=y;unfold Id.dF Id.Srt.cells at ea eb;subst ea eb;have a0:=hca 0 _ rfl;have a1:=hca 1 _ rfl;have b0:=hcb 0 _ rfl;have b1:=hcb 1 _ rfl;simp only[xK]at a0 b0;have i0:(0:Int)<=(k:Int):=by omega
   have i1:(k:Int)<(n:Int):=by omega
   have HD2:=hid HD;clear hca hcb HD HW HK hka hkb;by_cases hkk:xk=yk
   ·subst hkk
    cases hnn:(xn.toList==yn.toList)
    ·have HE:Hid (R=false):=hid (by rw[HD2.out];simp[Id.oJ,hnn])
     go_wp2_with fail;go_quiet (fail);go_wp2_with fail;go_ret;exact⟨(by first|(rw[HE.out];done)|(rw[HE.out];rfl)),_,World.drewN_drewN _ _ _⟩
    ·have HE:Hid (R=Id.bD Id.oJ (a.drop (k+1)) (b.drop (k+1))):=hid (by rw[HD2.out];simp[Id.oJ,hnn])
     go_wp2_with fail;go_quiet (fail);go_wp2_with fail;go_roundw
     case rel=>exact⟨k+1,_,by omega,by go_num,HE,hid rfl⟩
     case measure=>simp[intOf];omega
   ·have HE:Hid (R=false):=hid (by rw[HD2.out];simp[Id.oJ,hkk])
    have hki:((xk:Int)==(yk:Int))=false:=by rw[xG];omega
    clear hkk;go_wp2_with fail;go_quiet (fail);go_wp2_with fail;go_ret;exact⟨(by first|(rw[HE.out];done)|(rw[HE.out];rfl)),_,World.drewN_drewN _ _ _⟩
  ·obtain rfl:k=n:=by omega
   have HE:Hid (R=true):=hid (by rw[HK.out,Id.lM (by rw[HNA.out];exact xB _) (by rw[HNB.out];exact xB _)]);go_wp2_with fail;go_ret;exact⟨(by first|(rw[HE.out];done)|(rw[HE.out];rfl)),q,rfl⟩
