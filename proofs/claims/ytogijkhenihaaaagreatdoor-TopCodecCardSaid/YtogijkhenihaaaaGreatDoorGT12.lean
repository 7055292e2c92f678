import Derived.Test.YtogijkhenihaaaaGreatDoorGT10
import Derived.Test.YtogijkhenihaaaaGreatDoorGT11
set_option linter.all false
set_option maxRecDepth 100000
set_option maxHeartbeats 0
namespace Go.Proofs.YtogijkhenihaaaaGreatDoor
open Lib (hid)
section
open Go.BigFrame Go.RowKit
namespace Chk
open Id
def l7(rn:ByteArray):List ByteArray->List ByteArray->List Test
 |[],_=>[]
 |y::l,own=>(!bZ own y,part rn y)::l7 rn l (own++[y])
def wX:List Sag->List ByteArray->List Test
 |[],_=>[]
 |g::l,seen=>(!bZ seen g.name,g.name)::wX l (seen++[g.name])
def pF:List Svc->List Sag->List ByteArray->List Test
 |[],gs,seen=>wX gs seen
 |v::l,gs,seen=>(!bZ seen v.name,v.name)::(l7 v.name (v.methods.map (·.name)) []++pF l gs (seen++[v.name]))
def pG:List Rec->List Svc->List Sag->List ByteArray->List Test
 |[],vs,gs,seen=>pF vs gs seen
 |r::l,vs,gs,seen=>(!bZ seen r.name,r.name)::(l7 r.name (r.fields.map (·.name)) []++pG l vs gs (seen++[r.name]))
def ou(x:Sch):List Test:=pG x.records x.services x.sagas []
theorem GX{α:Type}(rn:ByteArray)(nm:α->ByteArray){l:List α}{k:Nat}(h:k<l.length)(own:List ByteArray):l7 rn ((l.drop k).map nm) own=(!bZ own (nm l[k]),part rn (nm l[k]))::l7 rn ((l.drop (k+1)).map nm) (own++[nm l[k]]):=by
 rw[xQ h];rfl
theorem SX{l:List Sag}{k:Nat}(h:k<l.length)(seen:List ByteArray):wX (l.drop k) seen=(!bZ seen l[k].name,l[k].name)::wX (l.drop (k+1)) (seen++[l[k].name]):=by
 rw[xQ h];rfl
theorem SS{l:List Svc}{k:Nat}(h:k<l.length)(gs:List Sag)(seen:List ByteArray):pF (l.drop k) gs seen=(!bZ seen l[k].name,l[k].name)::(l7 l[k].name (l[k].methods.map (·.name)) []++pF (l.drop (k+1)) gs (seen++[l[k].name])):=by
 rw[xQ h];rfl
theorem SV{l:List Rec}{k:Nat}(h:k<l.length)(vs:List Svc)(gs:List Sag)(seen:List ByteArray):pG (l.drop k) vs gs seen=(!bZ seen l[k].name,l[k].name)::(l7 l[k].name (l[k].fields.map (·.name)) []++pG (l.drop (k+1)) vs gs (seen++[l[k].name])):=by
 rw[xQ h];rfl
theorem In.fresh{w0 w wr w':World}{f m:Nat}{S:Array Value}(h:In w0 w wr f S)(hg:wr.grownBy w' (some m))(hm:w.heap.size<m):In w0 w w' f S :=
 ⟨dw h.b0 hg (by have:=h.lo;have:=h.hi;omega) h.b0.size,⟨hg.os.trans h.gb.os,hg.tape.trans h.gb.tape,hg.output.trans h.gb.output,xM h.gb.size hg.size,λi hi hne=>(hg.block i (Nat.lt_of_lt_of_le hi h.gb.size) (by intro e;injection e with e;omega)).trans (h.gb.block i hi hne)⟩,h.box.grown hg (by intro e;injection e with e;omega),h.lo,h.hi⟩
theorem Fb.fresh{w0 w wr w':World}{f m:Nat}{S:Array Value}{cur:Flt}(hf:Fb wr f cur)(h:In w0 w wr f S)(hg:wr.grownBy w' (some m))(hm:w.heap.size<m):Fb w' f cur:=Bk.grown hf hg (by have:=h.hi;intro e;injection e with e;omega)
theorem Cnt.ne{wr:World}{m g:Nat}{seen:List ByteArray}{t:TypeId}{cs:Array Value}(h:Cnt wr m seen)(hg:Bk wr g t cs):some g≠some m:=by
 intro e;injection e with e
 subst e;obtain⟨D,⟨es,clock,hb,_⟩,_⟩:=h;unfold Bk at hg;rw[hg]at hb;injection hb with hb
 cases hb
end Chk
theorem Ky(v:Value)(x:Id.Sch)(hF:Chk.Mid x)(f:Nat)(cur:Chk.Flt)(w0 w:World)(hkw:Tk.KW w0)(hv:Id.aY w0 none v x)(hb:Below w0.heap.size w0 w)(hlo:w0.heap.size<=f)(hf:Chk.Fb w f cur) :
  Calls Tryz.prog 40 #[v,.pointer (some ⟨f,0,none⟩)] w λe w'=>e=.returned (.tuple #[])/\w.grownBy w' (some f)/\Chk.Fb w' f (Chk.run 130 (Chk.ou x) cur):=by
 obtain⟨R,HR⟩:∃ R,Hid (Chk.run 130 (Chk.ou x) cur=R):=⟨_,hid rfl⟩;rw[HR.out];have HS:Hid (Chk.run 130 (Chk.pG (x.records.drop 0) x.services x.sagas []) cur=R):=hid (by rw[<-HR.out];rfl);have HV:=hid hv;have HKW:=hid hkw;have dM:=hid hF;obtain⟨A1,n1,c1,A2,n2,c2,A3,n3,c3,rfl,r1,r2,r3⟩:=hv;have hn1:n1=x.records.length:=by obtain⟨_,_,e,_⟩:=ah.slice r1;injection e
 have hn2:n2=x.services.length:=by obtain⟨_,_,e,_⟩:=ah.slice r2;injection e
 have hn3:n3=x.sagas.length:=by obtain⟨_,_,e,_⟩:=ah.slice r3;injection e
 have hm1:n1<=10000:=by rw[hn1];exact hF.recs
 have hm2:n2<=10000:=by rw[hn2];exact hF.oW
 have hm3:n3<=10000:=by rw[hn3];exact hF.oZ
 have HN1:=hid hn1;have H1:=hid r1;have HN2:=hid hn2;have H2:=hid r2;have HN3:=hid hn3;have H3:=hid r3;have HF0:=hid hf;have HB0:=hid hb;clear r1 r2 r3 hn1 hn2 hn3 hf hb hkw hF HR;go_enter Tryz.func40,Tryz.ntmps40;go_upto_region 1 with(fail)
 refine ak (λW0 hW0=>?_);have HI:=hid (Chk.In.start HB0.out hlo (Bk.lt HF0.out) hW0);have HFb:=hid (Chk.Fb.start HF0.out hW0);clear hW0;obtain⟨S,dn⟩:∃ S:Array Value,Hid (S=#[.string x.name,.slice A1 n1 c1,.slice A2 n2 c2,.slice A3 n3 c3]):=⟨_,hid rfl⟩;rw[<-dn.out]at HI;have hmm:=@run_makeMap Tryz.prog;obtain⟨⟨q0,q1,q2,q3⟩,-⟩:=(Chk.fK dn.out HI.out _ (Bl.refl _)).k4;go_upto_region 2 with(fail)
 refine ak (λV0 hV0=>?_);obtain⟨mb,Pn⟩:∃ mb,mb=W0.heap.size:=⟨_,rfl⟩;have Cm:w.heap.size<mb:=by rw[Pn];have:=HI.out.size;omega
 have hc0:Chk.Cnt V0 mb []:=by subst hV0 Pn;exact Chk.Cnt.made W0
 have hb0:Below W0.heap.size W0 V0:=by subst hV0;exact(Below.refl _ _).alloc (xB _) _
 clear hV0 q0 q1 q2 q3;rw[<-Pn];replace HI:=hid (HI.out.below hb0);replace HFb:=hid (HFb.out.below hb0);have HMA:=hid hc0;clear hc0 hb0 Pn;obtain⟨⟨q0,q1,q2,q3⟩,-⟩:=(Chk.fK dn.out HI.out _ (Bl.refl _)).k4;go_wp2_with fail;clear q0 q1 q2 q3;go_loopw [21] (λi wr=>∃(k:Nat)(cu:Chk.Flt)(seen:List ByteArray),k<=n1/\i=.int .i64 k/\Hid (Chk.run 130 (Chk.pG ((x.records).drop k) x.services x.sagas seen) cu=R)/\seen.length<=0+k/\Hid (Chk.In w0 w wr f S)/\Hid (Chk.Fb wr f cu)/\Hid (Chk.Cnt wr mb seen)) (λi _=>n1 - (intOf i).toNat)
 case atStart=>exact⟨0,_,[],by omega,rfl,HS,by first|omega|(simp;done)|(simp;omega),HI,HFb,HMA⟩
 case round =>
  clear HI HFb HS HMA  ;obtain⟨k1,cu1,gq,hk1,rfl,HK,hsl1,HI,HFb,HMA⟩:=hrel;obtain⟨W1,rfl⟩:∃ w',w'=wr:=⟨_,rfl⟩;by_cases hlt1:k1<n1
  case pos =>
   have hka:k1<(x.records).length:=by rw[<-HN1.out];exact hlt1
   obtain⟨g1,off1,cs,rfl,-,he,hc⟩:=ah.get H1.out hka (by omega);have HD:=HK.out;rw[Chk.SV hka]at HD;have hfi:=dM.out.re _ (xR hka);generalize(x.records)[k1]=r at *;obtain⟨rn,rc,rf⟩:=r;obtain⟨u,rfl,HU⟩:=he;simp only at HU hc HD hfi;obtain⟨A5,n5,c5,rfl⟩:=ah.is HU;have hn5:n5=rf.length:=by obtain⟨_,_,e,_⟩:=ah.slice HU;injection e
   have hm5:n5<=10000:=by rw[hn5];exact xM hfi.2.1 (by decide)
   have HN5:=hid hn5;have H5:=hid HU;clear HU hn5;have bP:=hid hfi;have HD1:=hid HD;have hB:=HI.out.b0;have a0:=hc 0 _ rfl;have a1:=hc 1 _ rfl;have a2:=hc 2 _ rfl;have bF:g1<w0.heap.size:=xH w0 _ a0;have a0:=(hB.cell bF).trans a0;have a1:=(hB.cell bF).trans a1;have a2:=(hB.cell bF).trans a2;simp only[xK]at a0;have i10:(0:Int)<=(k1:Int):=by omega
   have i11:(k1:Int)<(n1:Int):=by omega
   have hbw:=hB.size;have hgw1:¬g1=W1.heap.size:=by omega
   clear hc hB hka HD HK hfi hbw;go_upto_region 5 with(fail)
   refine ak (λV1 hV=>?_);obtain⟨hbV,hqV,-⟩:=ay hV;clear hV;replace HI:=hid (HI.out.below hbV);replace HFb:=hid (HFb.out.below hbV);replace HMA:=hid (HMA.out.below hbV);have HQ1:=hid hqV;clear hqV hbV a0 a1 a2;have hd:Below V1.heap.size V1 V1.drew:=(Below.refl _ _).drew;replace HI:=hid (HI.out.below hd);replace HFb:=hid (HFb.out.below hd);replace HMA:=hid (HMA.out.below hd);replace HQ1:=hid (HQ1.out.below hd HQ1.out.lt);have hSS:=HQ1.out;refine bJ (λw'=>Bk w' W1.heap.size 42 _) [7] (by kernel_rfl) hSS (λhHeld=>?_);(refine aj 0 (v:=?_) rfl (by kernel_rfl) (by kernel_rfl) (by kernel_rfl) (by kernel_rfl) (λ_ _ _ h=>h) (λ_=>by assumption) (by rfl) ?_ ?_;rotate_left;· (intro w;go_simp;try with_reducible rfl);try simp only[Act.put,xA,xE,xC])
   (refine aj 1 (v:=?_) rfl (by kernel_rfl) (by kernel_rfl) (by kernel_rfl) (by kernel_rfl) (λ_ _ _ h=>h) (λ_=>by assumption) (by rfl) ?_ ?_;rotate_left;· (intro w;go_simp;try with_reducible rfl);try simp only[Act.put,xA,xE,xC])
   (refine aj 2 (v:=?_) rfl (by kernel_rfl) (by kernel_rfl) (by kernel_rfl) (by kernel_rfl) (λ_ _ _ h=>h) (λ_=>by assumption) (by rfl) ?_ ?_;rotate_left;· (intro w;go_simp;try with_reducible rfl);try simp only[Act.put,xA,xE,xC])
   (refine Lst.lH 7 3 (v:=?_) rfl (by kernel_rfl) (by kernel_rfl) (by kernel_rfl) (by kernel_rfl) (by kernel_rfl) (by kernel_rfl) (λ_ _ _ h=>h) (by assumption) (by rfl) ?_ ?_;rotate_left;· (intro w hSw;have e:=(Bk.k3 hSw).1.1;go_simp;try with_reducible rfl);try simp only[Act.put,xA,xE,xC])
   (refine aj 5 (v:=?_) rfl (by kernel_rfl) (by kernel_rfl) (by kernel_rfl) (by kernel_rfl) (λ_ _ _ h=>h) (λ_=>by assumption) (by rfl) ?_ ?_;rotate_left;· (intro w;go_simp;try with_reducible rfl);try simp only[Act.put,xA,xE,xC])
   (refine Lst.lH 7 6 (v:=?_) rfl (by kernel_rfl) (by kernel_rfl) (by kernel_rfl) (by kernel_rfl) (by kernel_rfl) (by kernel_rfl) (λ_ _ _ h=>h) (by assumption) (by rfl) ?_ ?_;rotate_left;· (intro w hSw;have e:=(Bk.k3 hSw).1.1;go_simp;try with_reducible rfl);try simp only[Act.put,xA,xE,xC])
   clear hSS hd;have qU:=hid (vO mb gq rn bP.out.1 (by omega) _ HMA.out);(refine aB 4 (by kernel_rfl) rfl (λK hK=>?_))
   go_simp;refine qU.out.mono ?_;rintro e X⟨rfl,hg,hc⟩;replace HQ1:=hid (Bk.grown HQ1.out hg (HMA.out.ne HQ1.out));have HIx:=hid (HI.out.fresh hg Cm);have HFx:=hid (HFb.out.fresh HI.out hg Cm);clear HI HFb HMA;have HI:=HIx;have HFb:=HFx;have HMA:=hid hc;clear HIx HFx hc;(refine hK.out _ _ (λhnn=>HQ1.out) ?_;clear hK K;try simp only[Act.put,xA,xE,xC])
   clear qU hHeld;(refine aB 7 (by kernel_rfl) rfl (λK hK=>?_))
   go_simp;refine(Chk.bW HI.out HFb.out (Below.refl _ _) (!Chk.bZ gq rn) (rn) 130).mono ?_;rintro e Y⟨rfl,hg,hi,hf⟩;(refine hK.out _ _ (λhnn=>(absurd hnn (by decide))) ?_;clear hK K;try simp only[Act.put,xA,xE,xC])
   replace HMA:=hid (HMA.out.kept hg (by intro e;injection e with e;have:=HI.out.hi;omega));replace HQ1:=hid (Bk.grown HQ1.out hg (Chk.aZ HFb.out HQ1.out (by decide)));clear HI HFb;have HI:=hid hi;have HFb:=hid hf;clear hi hf hg;refine dU (by kernel_rfl) ?_ _;refine NoPanic.normal ?_;go_upto_region 7 with(fail)
   refine ak (λV3 hV3=>?_);obtain⟨mo,vH⟩:∃ mo,mo=Y.heap.size:=⟨_,rfl⟩;have EJ:w.heap.size<mo:=by rw[vH];have:=HI.out.size;omega
   have ZP:mb<mo:=by rw[vH];exact HMA.out.lt
   have hc0:Chk.Cnt V3 mo []:=by subst hV3 vH;exact Chk.Cnt.made Y
   have hb0:Below Y.heap.size Y V3:=by subst hV3;exact(Below.refl _ _).alloc (xB _) _
   clear hV3;rw[<-vH];replace HI:=hid (HI.out.below hb0);replace HFb:=hid (HFb.out.below hb0);replace HMA:=hid (HMA.out.below hb0);replace HQ1:=hid (HQ1.out.below hb0 HQ1.out.lt);have HMO:=hid hc0;clear hc0 hb0 vH;obtain⟨⟨b0,b1,b2⟩,-⟩:=HQ1.out.k3;go_wp2_with fail;clear b0 b1 b2;have HSi:Hid (Chk.run 130 (Chk.pG ((x.records).drop (k1+1)) x.services x.sagas (gq++[rn])) (Chk.run 130 (Chk.l7 rn ((rf.drop 0).map (·.name)) []) (Chk.at_ (!Chk.bZ gq rn) rn 130 cu1))=R):=hid (by have h:=HD1.out;simp only[Chk.run,Chk.jv]at h;exact h);go_loopw [37] (λi wr=>∃(k:Nat)(cu:Chk.Flt)(seen:List ByteArray),k<=n5/\i=.int .i64 k/\Hid (Chk.run 130 (Chk.pG ((x.records).drop (k1+1)) x.services x.sagas (gq++[rn])) (Chk.run 130 (Chk.l7 rn (((rf).drop k).map (·.name)) seen) cu)=R)/\seen.length<=0+k/\Hid (Chk.In w0 w wr f S)/\Hid (Chk.Fb wr f cu)/\Hid (Chk.Cnt wr mo seen)/\Hid (Chk.Cnt wr mb (gq++[rn]))/\Hid (Bk wr W1.heap.size 42 #[.string rn,.bool rc,.slice A5 n5 c5])) (λi _=>n5 - (intOf i).toNat)
   case atStart=>exact⟨0,_,[],by omega,rfl,HSi,by first|omega|(simp;done)|(simp;omega),HI,HFb,HMO,HMA,HQ1⟩
   case round =>
    clear HI HFb HSi HMO HMA HQ1;obtain⟨k2,cu2,own,hk2,rfl,HK,hsl2,HI,HFb,HMO,HMA,HQ1⟩:=hrel;obtain⟨W2,rfl⟩:∃ w',w'=wr:=⟨_,rfl⟩;by_cases hlt2:k2<n5
    case pos =>
     have hka:k2<(rf).length:=by rw[<-HN5.out];exact hlt2
     obtain⟨g2,off2,cs,rfl,-,he,hc⟩:=ah.get H5.out hka (by omega);have HD:=HK.out;rw[Chk.GX rn (·.name) hka]at HD;have hfi:=bP.out.2.2 _ (xR hka);generalize(rf)[k2]=r at *;obtain⟨yn,yt⟩:=r;obtain⟨u,rfl,HU⟩:=he;simp only at HU hc HD hfi;obtain⟨A7,n7,c7,rfl⟩:=ah.is HU;clear HU;have iI:=hid hfi;have HD2:=hid HD;have hB:=HI.out.b0;have a0:=hc 0 _ rfl;have a1:=hc 1 _ rfl;have bV:g2<w0.heap.size:=xH w0 _ a0;have a0:=(hB.cell bV).trans a0;have a1:=(hB.cell bV).trans a1;simp only[xK]at a0;have i20:(0:Int)<=(k2:Int):=by omega
     have i21:(k2:Int)<(n5:Int):=by omega
     have hbw:=hB.size;have wU:¬g2=W2.heap.size:=by omega
     clear hc hB hka HD HK hfi hbw;go_upto_region 10 with(fail)
     refine ak (λV2 hV=>?_);obtain⟨hbV,hqV,-⟩:=ay hV;clear hV;replace HI:=hid (HI.out.below hbV);replace HFb:=hid (HFb.out.below hbV);replace HMA:=hid (HMA.out.below hbV);replace HMO:=hid (HMO.out.below hbV);replace HQ1:=hid (HQ1.out.below hbV HQ1.out.lt);have HQ2:=hid hqV;clear hqV hbV a0 a1;have hd:Below V2.heap.size V2 V2.drew:=(Below.refl _ _).drew;replace HI:=hid (HI.out.below hd);replace HFb:=hid (HFb.out.below hd);replace HMA:=hid (HMA.out.below hd);replace HMO:=hid (HMO.out.below hd);replace HQ1:=hid (HQ1.out.below hd HQ1.out.lt);replace HQ2:=hid (HQ2.out.below hd HQ2.out.lt);have hSS:=And.intro HQ1.out HQ2.out;refine bJ (λw'=>Bk w' W1.heap.size 42 _/\Bk w' W2.heap.size 176 _) [10] (by kernel_rfl) hSS (λhHeld=>?_);(refine aj 0 (v:=?_) rfl (by kernel_rfl) (by kernel_rfl) (by kernel_rfl) (by kernel_rfl) (λ_ _ _ h=>h) (λ_=>by assumption) (by rfl) ?_ ?_;rotate_left;· (intro w;go_simp;try with_reducible rfl);try simp only[Act.put,xA,xE,xC])
     (refine aj 1 (v:=?_) rfl (by kernel_rfl) (by kernel_rfl) (by kernel_rfl) (by kernel_rfl) (λ_ _ _ h=>h) (λ_=>by assumption) (by rfl) ?_ ?_;rotate_left;· (intro w;go_simp;try with_reducible rfl);try simp only[Act.put,xA,xE,xC])
     (refine aj 2 (v:=?_) rfl (by kernel_rfl) (by kernel_rfl) (by kernel_rfl) (by kernel_rfl) (λ_ _ _ h=>h) (λ_=>by assumption) (by rfl) ?_ ?_;rotate_left;· (intro w;go_simp;try with_reducible rfl);try simp only[Act.put,xA,xE,xC])
     (refine Lst.lH 10 3 (v:=?_) rfl (by kernel_rfl) (by kernel_rfl) (by kernel_rfl) (by kernel_rfl) (by kernel_rfl) (by kernel_rfl) (λ_ _ _ h=>h) (by assumption) (by rfl) ?_ ?_;rotate_left;· (intro w hSw;have e:=(Bk.k2 hSw.2).1.1;go_simp;try with_reducible rfl);try simp only[Act.put,xA,xE,xC])
     (refine aj 5 (v:=?_) rfl (by kernel_rfl) (by kernel_rfl) (by kernel_rfl) (by kernel_rfl) (λ_ _ _ h=>h) (λ_=>by assumption) (by rfl) ?_ ?_;rotate_left;· (intro w;go_simp;try with_reducible rfl);try simp only[Act.put,xA,xE,xC])
     (refine Lst.lH 10 6 (v:=?_) rfl (by kernel_rfl) (by kernel_rfl) (by kernel_rfl) (by kernel_rfl) (by kernel_rfl) (by kernel_rfl) (λ_ _ _ h=>h) (by assumption) (by rfl) ?_ ?_;rotate_left;· (intro w hSw;have e:=(Bk.k3 hSw.1).1.1;go_simp;try with_reducible rfl);try simp only[Act.put,xA,xE,xC])
     (refine aj 7 (v:=?_) rfl (by kernel_rfl) (by kernel_rfl) (by kernel_rfl) (by kernel_rfl) (λ_ _ _ h=>h) (λ_=>by assumption) (by rfl) ?_ ?_;rotate_left;· (intro w;go_simp;try with_reducible rfl);try simp only[Act.put,xA,xE,xC])
     (refine Lst.lH 10 8 (v:=?_) rfl (by kernel_rfl) (by kernel_rfl) (by kernel_rfl) (by kernel_rfl) (by kernel_rfl) (by kernel_rfl) (λ_ _ _ h=>h) (by assumption) (by rfl) ?_ ?_;rotate_left;· (intro w hSw;have e:=(Bk.k2 hSw.2).1.1;go_simp;try with_reducible rfl);try simp only[Act.put,xA,xE,xC])
     clear hSS hd;have qU:=hid (vO mo own yn iI.out.1 (by omega) _ HMO.out);have HPT:Hid (∀ w',Calls Tryz.prog 108 #[.string rn,.string yn] w' λe w''=>e=.returned (.string (Chk.part rn yn))/\w''=w'):=hid (λw'=>dV rn yn bP.out.1 iI.out.1 w');(refine aB 4 (by kernel_rfl) rfl (λK hK=>?_))
     go_simp;refine qU.out.mono ?_;rintro e X⟨rfl,hg,hc⟩;replace HMA:=hid (HMA.out.kept hg (by intro e;injection e with e;omega));replace HQ1:=hid (Bk.grown HQ1.out hg (HMO.out.ne HQ1.out));replace HQ2:=hid (Bk.grown HQ2.out hg (HMO.out.ne HQ2.out));have HIx:=hid (HI.out.fresh hg EJ);have HFx:=hid (HFb.out.fresh HI.out hg EJ);clear HI HFb HMO;have HI:=HIx;have HFb:=HFx;have HMO:=hid hc;clear HIx HFx hc;(refine hK.out _ _ (λhnn=>⟨HQ1.out,HQ2.out⟩) ?_;clear hK K;try simp only[Act.put,xA,xE,xC])
     clear qU hHeld;(refine aB 9 (by kernel_rfl) rfl (λK hK=>?_))
     go_simp;refine(HPT.out _).mono ?_;rintro e Z⟨rfl,rfl⟩;(refine hK.out _ _ (λhnn=>⟨HQ1.out,HQ2.out⟩) ?_;clear hK K;try simp only[Act.put,xA,xE,xC])
     (refine aB 10 (by kernel_rfl) rfl (λK hK=>?_))
     go_simp;refine(Chk.bW HI.out HFb.out (Below.refl _ _) (!Chk.bZ own yn) (Chk.part rn yn) 130).mono ?_;rintro e Y2⟨rfl,hg,hi,hf⟩;(refine hK.out _ _ (λhnn=>(absurd hnn (by decide))) ?_;clear hK K;try simp only[Act.put,xA,xE,xC])
     replace HMA:=hid (HMA.out.kept hg (by intro e;injection e with e;have:=HI.out.hi;omega));replace HMO:=hid (HMO.out.kept hg (by intro e;injection e with e;have:=HI.out.hi;omega));replace HQ1:=hid (Bk.grown HQ1.out hg (Chk.aZ HFb.out HQ1.out (by decide)));replace HQ2:=hid (Bk.grown HQ2.out hg (Chk.aZ HFb.out HQ2.out (by decide)));clear HI HFb;have HI:=hid hi;have HFb:=hid hf;clear hi hf hg;refine dU (by kernel_rfl) ?_ _;refine NoPanic.normal ?_;clear HPT;have cO:Hid (Chk.run 130 (Chk.pG ((x.records).drop (k1+1)) x.services x.sagas (gq++[rn])) (Chk.run 130 (Chk.l7 rn (((rf).drop (k2+1)).map (·.name)) (own++[yn])) (Chk.at_ (!Chk.bZ own yn) (Chk.part rn yn) 130 cu2))=R):=hid (by exact HD2.out);go_wp2_with fail;go_roundw
     case rel=>exact⟨k2+1,_,(own++[yn]),by omega,by go_num,cO,by simp;omega,HI,HFb,HMO,HMA,HQ1⟩
     case measure=>simp[intOf];omega
    have HX2:Hid (Chk.run 130 (Chk.pG ((x.records).drop (k1+1)) x.services x.sagas (gq++[rn])) (cu2)=R):=hid (by have h:=HK.out;rw[xP (show rf.length<=k2 by rw[<-HN5.out];omega)]at h;exact h);clear HK HMO;have gB:Hid (Chk.run 130 (Chk.pG ((x.records).drop (k1+1)) x.services x.sagas (gq++[rn])) cu2=R):=hid (by exact HX2.out);go_wp2_with fail;go_roundw
    case rel=>exact⟨k1+1,_,(gq++[rn]),by omega,by go_num,gB,by simp;omega,HI,HFb,HMA⟩
    case measure=>simp[intOf];omega
  have HS1:Hid (Chk.run 130 (Chk.pF (x.services.drop 0) x.sagas gq) cu1=R):=hid (by have h:=HK.out;rw[xP (show x.records.length<=k1 by rw[<-HN1.out];omega)]at h;exact h);clear HK;obtain⟨⟨q0,q1,q2,q3⟩,-⟩:=(Chk.fK dn.out HI.out _ (Bl.refl _)).k4;go_wp2_with fail;clear q0 q1 q2 q3;go_loopw [57] (λi wr=>∃(k:Nat)(cu:Chk.Flt)(seen:List ByteArray),k<=n2/\i=.int .i64 k/\Hid (Chk.run 130 (Chk.pF ((x.services).drop k) x.sagas seen) cu=R)/\seen.length<=20000+k/\Hid (Chk.In w0 w wr f S)/\Hid (Chk.Fb wr f cu)/\Hid (Chk.Cnt wr mb seen)) (λi _=>n2 - (intOf i).toNat)
  case atStart=>exact⟨0,_,_,by omega,rfl,HS1,by first|omega|(simp;done)|(simp;omega),HI,HFb,HMA⟩
  case round =>
   clear HI HFb HS1 HMA  ;obtain⟨k1,cu1,gq,hk1,rfl,HK,hsl1,HI,HFb,HMA⟩:=hrel;obtain⟨W1,rfl⟩:∃ w',w'=wr:=⟨_,rfl⟩;by_cases hlt1:k1<n2
   case pos =>
    have hka:k1<(x.services).length:=by rw[<-HN2.out];exact hlt1
    obtain⟨g1,off1,cs,rfl,-,he,hc⟩:=ah.get H2.out hka (by omega);have HD:=HK.out;rw[Chk.SS hka]at HD;have hfi:=dM.out.sv _ (xR hka);generalize(x.services)[k1]=r at *;obtain⟨rn,rf⟩:=r;obtain⟨u,rfl,HU⟩:=he;simp only at HU hc HD hfi;obtain⟨A5,n5,c5,rfl⟩:=ah.is HU;have hn5:n5=rf.length:=by obtain⟨_,_,e,_⟩:=ah.slice HU;injection e
    have hm5:n5<=10000:=by rw[hn5];exact xM hfi.2.1 (by decide)
    have HN5:=hid hn5;have H5:=hid HU;clear HU hn5;have bP:=hid hfi;have HD1:=hid HD;have hB:=HI.out.b0;have a0:=hc 0 _ rfl;have a1:=hc 1 _ rfl;have bF:g1<w0.heap.size:=xH w0 _ a0;have a0:=(hB.cell bF).trans a0;have a1:=(hB.cell bF).trans a1;simp only[xK]at a0;have i10:(0:Int)<=(k1:Int):=by omega
    have i11:(k1:Int)<(n2:Int):=by omega
    have hbw:=hB.size;have hgw1:¬g1=W1.heap.size:=by omega
    clear hc hB hka HD HK hfi hbw;go_upto_region 16 with(fail)
    refine ak (λV1 hV=>?_);obtain⟨hbV,hqV,-⟩:=ay hV;clear hV;replace HI:=hid (HI.out.below hbV);replace HFb:=hid (HFb.out.below hbV);replace HMA:=hid (HMA.out.below hbV);have HQ1:=hid hqV;clear hqV hbV a0 a1;have hd:Below V1.heap.size V1 V1.drew:=(Below.refl _ _).drew;replace HI:=hid (HI.out.below hd);replace HFb:=hid (HFb.out.below hd);replace HMA:=hid (HMA.out.below hd);replace HQ1:=hid (HQ1.out.below hd HQ1.out.lt);have hSS:=HQ1.out;refine bJ (λw'=>Bk w' W1.heap.size 101 _) [7] (by kernel_rfl) hSS (λhHeld=>?_);(refine aj 0 (v:=?_) rfl (by kernel_rfl) (by kernel_rfl) (by kernel_rfl) (by kernel_rfl) (λ_ _ _ h=>h) (λ_=>by assumption) (by rfl) ?_ ?_;rotate_left;· (intro w;go_simp;try with_reducible rfl);try simp only[Act.put,xA,xE,xC])
    (refine aj 1 (v:=?_) rfl (by kernel_rfl) (by kernel_rfl) (by kernel_rfl) (by kernel_rfl) (λ_ _ _ h=>h) (λ_=>by assumption) (by rfl) ?_ ?_;rotate_left;· (intro w;go_simp;try with_reducible rfl);try simp only[Act.put,xA,xE,xC])
    (refine aj 2 (v:=?_) rfl (by kernel_rfl) (by kernel_rfl) (by kernel_rfl) (by kernel_rfl) (λ_ _ _ h=>h) (λ_=>by assumption) (by rfl) ?_ ?_;rotate_left;· (intro w;go_simp;try with_reducible rfl);try simp only[Act.put,xA,xE,xC])
    (refine Lst.lH 7 3 (v:=?_) rfl (by kernel_rfl) (by kernel_rfl) (by kernel_rfl) (by kernel_rfl) (by kernel_rfl) (by kernel_rfl) (λ_ _ _ h=>h) (by assumption) (by rfl) ?_ ?_;rotate_left;· (intro w hSw;have e:=(Bk.k2 hSw).1.1;go_simp;try with_reducible rfl);try simp only[Act.put,xA,xE,xC])
    (refine aj 5 (v:=?_) rfl (by kernel_rfl) (by kernel_rfl) (by kernel_rfl) (by kernel_rfl) (λ_ _ _ h=>h) (λ_=>by assumption) (by rfl) ?_ ?_;rotate_left;· (intro w;go_simp;try with_reducible rfl);try simp only[Act.put,xA,xE,xC])
    (refine Lst.lH 7 6 (v:=?_) rfl (by kernel_rfl) (by kernel_rfl) (by kernel_rfl) (by kernel_rfl) (by kernel_rfl) (by kernel_rfl) (λ_ _ _ h=>h) (by assumption) (by rfl) ?_ ?_;rotate_left;· (intro w hSw;have e:=(Bk.k2 hSw).1.1;go_simp;try with_reducible rfl);try simp only[Act.put,xA,xE,xC])
    clear hSS hd;have qU:=hid (vO mb gq rn bP.out.1 (by omega) _ HMA.out);(refine aB 4 (by kernel_rfl) rfl (λK hK=>?_))
    go_simp;refine qU.out.mono ?_;rintro e X⟨rfl,hg,hc⟩;replace HQ1:=hid (Bk.grown HQ1.out hg (HMA.out.ne HQ1.out));have HIx:=hid (HI.out.fresh hg Cm);have HFx:=hid (HFb.out.fresh HI.out hg Cm);clear HI HFb HMA;have HI:=HIx;have HFb:=HFx;have HMA:=hid hc;clear HIx HFx hc;(refine hK.out _ _ (λhnn=>HQ1.out) ?_;clear hK K;try simp only[Act.put,xA,xE,xC])
    clear qU hHeld;(refine aB 7 (by kernel_rfl) rfl (λK hK=>?_))
    go_simp;refine(Chk.bW HI.out HFb.out (Below.refl _ _) (!Chk.bZ gq rn) (rn) 130).mono ?_;rintro e Y⟨rfl,hg,hi,hf⟩;(refine hK.out _ _ (λhnn=>(absurd hnn (by decide))) ?_;clear hK K;try simp only[Act.put,xA,xE,xC])
    replace HMA:=hid (HMA.out.kept hg (by intro e;injection e with e;have:=HI.out.hi;omega));replace HQ1:=hid (Bk.grown HQ1.out hg (Chk.aZ HFb.out HQ1.out (by decide)));clear HI HFb;have HI:=hid hi;have HFb:=hid hf;clear hi hf hg;refine dU (by kernel_rfl) ?_ _;refine NoPanic.normal ?_;go_upto_region 18 with(fail)
    refine ak (λV3 hV3=>?_);obtain⟨mo,vH⟩:∃ mo,mo=Y.heap.size:=⟨_,rfl⟩;have EJ:w.heap.size<mo:=by rw[vH];have:=HI.out.size;omega
    have ZP:mb<mo:=by rw[vH];exact HMA.out.lt
    have hc0:Chk.Cnt V3 mo []:=by subst hV3 vH;exact Chk.Cnt.made Y
    have hb0:Below Y.heap.size Y V3:=by subst hV3;exact(Below.refl _ _).alloc (xB _) _
    clear hV3;rw[<-vH];replace HI:=hid (HI.out.below hb0);replace HFb:=hid (HFb.out.below hb0);replace HMA:=hid (HMA.out.below hb0);replace HQ1:=hid (HQ1.out.below hb0 HQ1.out.lt);have HMO:=hid hc0;clear hc0 hb0 vH;obtain⟨⟨b0,b1⟩,-⟩:=HQ1.out.k2;go_wp2_with fail;clear b0 b1;have HSi:Hid (Chk.run 130 (Chk.pF ((x.services).drop (k1+1)) x.sagas (gq++[rn])) (Chk.run 130 (Chk.l7 rn ((rf.drop 0).map (·.name)) []) (Chk.at_ (!Chk.bZ gq rn) rn 130 cu1))=R):=hid (by have h:=HD1.out;simp only[Chk.run,Chk.jv]at h;exact h);go_loopw [73] (λi wr=>∃(k:Nat)(cu:Chk.Flt)(seen:List ByteArray),k<=n5/\i=.int .i64 k/\Hid (Chk.run 130 (Chk.pF ((x.services).drop (k1+1)) x.sagas (gq++[rn])) (Chk.run 130 (Chk.l7 rn (((rf).drop k).map (·.name)) seen) cu)=R)/\seen.length<=0+k/\Hid (Chk.In w0 w wr f S)/\Hid (Chk.Fb wr f cu)/\Hid (Chk.Cnt wr mo seen)/\Hid (Chk.Cnt wr mb (gq++[rn]))/\Hid (Bk wr W1.heap.size 101 #[.string rn,.slice A5 n5 c5])) (λi _=>n5 - (intOf i).toNat)
    case atStart=>exact⟨0,_,[],by omega,rfl,HSi,by first|omega|(simp;done)|(simp;omega),HI,HFb,HMO,HMA,HQ1⟩
    case round =>
     clear HI HFb HSi HMO HMA HQ1;obtain⟨k2,cu2,own,hk2,rfl,HK,hsl2,HI,HFb,HMO,HMA,HQ1⟩:=hrel;obtain⟨W2,rfl⟩:∃ w',w'=wr:=⟨_,rfl⟩;by_cases hlt2:k2<n5
     case pos =>
      have hka:k2<(rf).length:=by rw[<-HN5.out];exact hlt2
      obtain⟨g2,off2,cs,rfl,-,he,hc⟩:=ah.get H5.out hka (by omega);have HD:=HK.out;rw[Chk.GX rn (·.name) hka]at HD;have hfi:=bP.out.2.2 _ (xR hka);generalize(rf)[k2]=r at *;obtain⟨m0,m1,m2,m3,m4⟩:=r;unfold Id.dh Id.Mth.cells at he;subst he;simp only at hc HD hfi;have iI:=hid hfi;have HD2:=hid HD;have hB:=HI.out.b0;have a0:=hc 0 _ rfl;have a1:=hc 1 _ rfl;have a2:=hc 2 _ rfl;have a3:=hc 3 _ rfl;have a4:=hc 4 _ rfl;have bV:g2<w0.heap.size:=xH w0 _ a0;have a0:=(hB.cell bV).trans a0;have a1:=(hB.cell bV).trans a1;have a2:=(hB.cell bV).trans a2;have a3:=(hB.cell bV).trans a3;have a4:=(hB.cell bV).trans a4;simp only[xK]at a0;have i20:(0:Int)<=(k2:Int):=by omega
      have i21:(k2:Int)<(n5:Int):=by omega
      have hbw:=hB.size;have wU:¬g2=W2.heap.size:=by omega
      clear hc hB hka HD HK hfi hbw;go_upto_region 21 with(fail)
      refine ak (λV2 hV=>?_);obtain⟨hbV,hqV,-⟩:=ay hV;clear hV;replace HI:=hid (HI.out.below hbV);replace HFb:=hid (HFb.out.below hbV);replace HMA:=hid (HMA.out.below hbV);replace HMO:=hid (HMO.out.below hbV);replace HQ1:=hid (HQ1.out.below hbV HQ1.out.lt);have HQ2:=hid hqV;clear hqV hbV a0 a1 a2 a3 a4;have hd:Below V2.heap.size V2 V2.drew:=(Below.refl _ _).drew;replace HI:=hid (HI.out.below hd);replace HFb:=hid (HFb.out.below hd);replace HMA:=hid (HMA.out.below hd);replace HMO:=hid (HMO.out.below hd);replace HQ1:=hid (HQ1.out.below hd HQ1.out.lt);replace HQ2:=hid (HQ2.out.below hd HQ2.out.lt);have hSS:=And.intro HQ1.out HQ2.out;refine bJ (λw'=>Bk w' W1.heap.size 101 _/\Bk w' W2.heap.size 180 _) [10] (by kernel_rfl) hSS (λhHeld=>?_);(refine aj 0 (v:=?_) rfl (by kernel_rfl) (by kernel_rfl) (by kernel_rfl) (by kernel_rfl) (λ_ _ _ h=>h) (λ_=>by assumption) (by rfl) ?_ ?_;rotate_left;· (intro w;go_simp;try with_reducible rfl);try simp only[Act.put,xA,xE,xC])
      (refine aj 1 (v:=?_) rfl (by kernel_rfl) (by kernel_rfl) (by kernel_rfl) (by kernel_rfl) (λ_ _ _ h=>h) (λ_=>by assumption) (by rfl) ?_ ?_;rotate_left;· (intro w;go_simp;try with_reducible rfl);try simp only[Act.put,xA,xE,xC])
      (refine aj 2 (v:=?_) rfl (by kernel_rfl) (by kernel_rfl) (by kernel_rfl) (by kernel_rfl) (λ_ _ _ h=>h) (λ_=>by assumption) (by rfl) ?_ ?_;rotate_left;· (intro w;go_simp;try with_reducible rfl);try simp only[Act.put,xA,xE,xC])
      (refine Lst.lH 10 3 (v:=?_) rfl (by kernel_rfl) (by kernel_rfl) (by kernel_rfl) (by kernel_rfl) (by kernel_rfl) (by kernel_rfl) (λ_ _ _ h=>h) (by assumption) (by rfl) ?_ ?_;rotate_left;· (intro w hSw;have e:=(Bk.k5 hSw.2).1.1;go_simp;try with_reducible rfl);try simp only[Act.put,xA,xE,xC])
      (refine aj 5 (v:=?_) rfl (by kernel_rfl) (by kernel_rfl) (by kernel_rfl) (by kernel_rfl) (λ_ _ _ h=>h) (λ_=>by assumption) (by rfl) ?_ ?_;rotate_left;· (intro w;go_simp;try with_reducible rfl);try simp only[Act.put,xA,xE,xC])
      (refine Lst.lH 10 6 (v:=?_) rfl (by kernel_rfl) (by kernel_rfl) (by kernel_rfl) (by kernel_rfl) (by kernel_rfl) (by kernel_rfl) (λ_ _ _ h=>h) (by assumption) (by rfl) ?_ ?_;rotate_left;· (intro w hSw;have e:=(Bk.k2 hSw.1).1.1;go_simp;try with_reducible rfl);try simp only[Act.put,xA,xE,xC])
      (refine aj 7 (v:=?_) rfl (by kernel_rfl) (by kernel_rfl) (by kernel_rfl) (by kernel_rfl) (λ_ _ _ h=>h) (λ_=>by assumption) (by rfl) ?_ ?_;rotate_left;· (intro w;go_simp;try with_reducible rfl);try simp only[Act.put,xA,xE,xC])
      (refine Lst.lH 10 8 (v:=?_) rfl (by kernel_rfl) (by kernel_rfl) (by kernel_rfl) (by kernel_rfl) (by kernel_rfl) (by kernel_rfl) (λ_ _ _ h=>h) (by assumption) (by rfl) ?_ ?_;rotate_left;· (intro w hSw;have e:=(Bk.k5 hSw.2).1.1;go_simp;try with_reducible rfl);try simp only[Act.put,xA,xE,xC])
      clear hSS hd;have qU:=hid (vO mo own m0 iI.out.1 (by omega) _ HMO.out);have HPT:Hid (∀ w',Calls Tryz.prog 108 #[.string rn,.string m0] w' λe w''=>e=.returned (.string (Chk.part rn m0))/\w''=w'):=hid (λw'=>dV rn m0 bP.out.1 iI.out.1 w');(refine aB 4 (by kernel_rfl) rfl (λK hK=>?_))
      go_simp;refine qU.out.mono ?_;rintro e X⟨rfl,hg,hc⟩;replace HMA:=hid (HMA.out.kept hg (by intro e;injection e with e;omega));replace HQ1:=hid (Bk.grown HQ1.out hg (HMO.out.ne HQ1.out));replace HQ2:=hid (Bk.grown HQ2.out hg (HMO.out.ne HQ2.out));have HIx:=hid (HI.out.fresh hg EJ);have HFx:=hid (HFb.out.fresh HI.out hg EJ);clear HI HFb HMO;have HI:=HIx;have HFb:=HFx;have HMO:=hid hc;clear HIx HFx hc;(refine hK.out _ _ (λhnn=>⟨HQ1.out,HQ2.out⟩) ?_;clear hK K;try simp only[Act.put,xA,xE,xC])
      clear qU hHeld;(refine aB 9 (by kernel_rfl) rfl (λK hK=>?_))
      go_simp;refine(HPT.out _).mono ?_;rintro e Z⟨rfl,rfl⟩;(refine hK.out _ _ (λhnn=>⟨HQ1.out,HQ2.out⟩) ?_;clear hK K;try simp only[Act.put,xA,xE,xC])
      (refine aB 10 (by kernel_rfl) rfl (λK hK=>?_))
      go_simp;refine(Chk.bW HI.out HFb.out (Below.refl _ _) (!Chk.bZ own m0) (Chk.part rn m0) 130).mono ?_;rintro e Y2⟨rfl,hg,hi,hf⟩;(refine hK.out _ _ (λhnn=>(absurd hnn (by decide))) ?_;clear hK K;try simp only[Act.put,xA,xE,xC])
      replace HMA:=hid (HMA.out.kept hg (by intro e;injection e with e;have:=HI.out.hi;omega));replace HMO:=hid (HMO.out.kept hg (by intro e;injection e with e;have:=HI.out.hi;omega));replace HQ1:=hid (Bk.grown HQ1.out hg (Chk.aZ HFb.out HQ1.out (by decide)));replace HQ2:=hid (Bk.grown HQ2.out hg (Chk.aZ HFb.out HQ2.out (by decide)));clear HI HFb;have HI:=hid hi;have HFb:=hid hf;clear hi hf hg;refine dU (by kernel_rfl) ?_ _;refine NoPanic.normal ?_;clear HPT;have cO:Hid (Chk.run 130 (Chk.pF ((x.services).drop (k1+1)) x.sagas (gq++[rn])) (Chk.run 130 (Chk.l7 rn (((rf).drop (k2+1)).map (·.name)) (own++[m0])) (Chk.at_ (!Chk.bZ own m0) (Chk.part rn m0) 130 cu2))=R):=hid (by exact HD2.out);go_wp2_with fail;go_roundw
      case rel=>exact⟨k2+1,_,(own++[m0]),by omega,by go_num,cO,by simp;omega,HI,HFb,HMO,HMA,HQ1⟩
      case measure=>simp[intOf];omega
     have HX2:Hid (Chk.run 130 (Chk.pF ((x.services).drop (k1+1)) x.sagas (gq++[rn])) (cu2)=R):=hid (by have h:=HK.out;rw[xP (show rf.length<=k2 by rw[<-HN5.out];omega)]at h;exact h);clear HK HMO;have gB:Hid (Chk.run 130 (Chk.pF ((x.services).drop (k1+1)) x.sagas (gq++[rn])) cu2=R):=hid (by exact HX2.out);go_wp2_with fail;go_roundw
     case rel=>exact⟨k1+1,_,(gq++[rn]),by omega,by go_num,gB,by simp;omega,HI,HFb,HMA⟩
     case measure=>simp[intOf];omega
   have HS1:Hid (Chk.run 130 (Chk.wX (x.sagas.drop 0) gq) cu1=R):=hid (by have h:=HK.out;rw[xP (show x.services.length<=k1 by rw[<-HN2.out];omega)]at h;exact h);clear HK;obtain⟨⟨q0,q1,q2,q3⟩,-⟩:=(Chk.fK dn.out HI.out _ (Bl.refl _)).k4;go_wp2_with fail;clear q0 q1 q2 q3;go_loopw [93] (λi wr=>∃(k:Nat)(cu:Chk.Flt)(seen:List ByteArray),k<=n3/\i=.int .i64 k/\Hid (Chk.run 130 (Chk.wX ((x.sagas).drop k) seen) cu=R)/\seen.length<=50000+k/\Hid (Chk.In w0 w wr f S)/\Hid (Chk.Fb wr f cu)/\Hid (Chk.Cnt wr mb seen)) (λi _=>n3 - (intOf i).toNat)
   case atStart=>exact⟨0,_,_,by omega,rfl,HS1,by first|omega|(simp;done)|(simp;omega),HI,HFb,HMA⟩
   case round =>
    clear HI HFb HS1 HMA  ;obtain⟨k1,cu1,gq,hk1,rfl,HK,hsl1,HI,HFb,HMA⟩:=hrel;obtain⟨W1,rfl⟩:∃ w',w'=wr:=⟨_,rfl⟩;by_cases hlt1:k1<n3
    case pos =>
     have hka:k1<(x.sagas).length:=by rw[<-HN3.out];exact hlt1
     obtain⟨g1,off1,cs,rfl,-,he,hc⟩:=ah.get H3.out hka (by omega);have HD:=HK.out;rw[Chk.SX hka]at HD;have hfi:=dM.out.sa _ (xR hka);generalize(x.sagas)[k1]=r at *;obtain⟨rn,ra,rf⟩:=r;obtain⟨u,rfl,HU⟩:=he;simp only at HU hc HD hfi;obtain⟨A5,n5,c5,rfl⟩:=ah.is HU;have hn5:n5=rf.length:=by obtain⟨_,_,e,_⟩:=ah.slice HU;injection e
     have hm5:n5<=10000:=by rw[hn5];exact xM hfi.2.1 (by decide)
     have HN5:=hid hn5;have H5:=hid HU;clear HU hn5;have bP:=hid hfi;have HD1:=hid HD;have hB:=HI.out.b0;have a0:=hc 0 _ rfl;have a1:=hc 1 _ rfl;have a2:=hc 2 _ rfl;have bF:g1<w0.heap.size:=xH w0 _ a0;have a0:=(hB.cell bF).trans a0;have a1:=(hB.cell bF).trans a1;have a2:=(hB.cell bF).trans a2;simp only[xK]at a0;have i10:(0:Int)<=(k1:Int):=by omega
     have i11:(k1:Int)<(n3:Int):=by omega
     have hbw:=hB.size;have hgw1:¬g1=W1.heap.size:=by omega
     clear hc hB hka HD HK hfi hbw;go_upto_region 27 with(fail)
     refine ak (λV1 hV=>?_);obtain⟨hbV,hqV,-⟩:=ay hV;clear hV;replace HI:=hid (HI.out.below hbV);replace HFb:=hid (HFb.out.below hbV);replace HMA:=hid (HMA.out.below hbV);have HQ1:=hid hqV;clear hqV hbV a0 a1 a2;have hd:Below V1.heap.size V1 V1.drew:=(Below.refl _ _).drew;replace HI:=hid (HI.out.below hd);replace HFb:=hid (HFb.out.below hd);replace HMA:=hid (HMA.out.below hd);replace HQ1:=hid (HQ1.out.below hd HQ1.out.lt);have hSS:=HQ1.out;refine bJ (λw'=>Bk w' W1.heap.size 105 _) [7] (by kernel_rfl) hSS (λhHeld=>?_);(refine aj 0 (v:=?_) rfl (by kernel_rfl) (by kernel_rfl) (by kernel_rfl) (by kernel_rfl) (λ_ _ _ h=>h) (λ_=>by assumption) (by rfl) ?_ ?_;rotate_left;· (intro w;go_simp;try with_reducible rfl);try simp only[Act.put,xA,xE,xC])
     (refine aj 1 (v:=?_) rfl (by kernel_rfl) (by kernel_rfl) (by kernel_rfl) (by kernel_rfl) (λ_ _ _ h=>h) (λ_=>by assumption) (by rfl) ?_ ?_;rotate_left;· (intro w;go_simp;try with_reducible rfl);try simp only[Act.put,xA,xE,xC])
     (refine aj 2 (v:=?_) rfl (by kernel_rfl) (by kernel_rfl) (by kernel_rfl) (by kernel_rfl) (λ_ _ _ h=>h) (λ_=>by assumption) (by rfl) ?_ ?_;rotate_left;· (intro w;go_simp;try with_reducible rfl);try simp only[Act.put,xA,xE,xC])
     (refine Lst.lH 7 3 (v:=?_) rfl (by kernel_rfl) (by kernel_rfl) (by kernel_rfl) (by kernel_rfl) (by kernel_rfl) (by kernel_rfl) (λ_ _ _ h=>h) (by assumption) (by rfl) ?_ ?_;rotate_left;· (intro w hSw;have e:=(Bk.k3 hSw).1.1;go_simp;try with_reducible rfl);try simp only[Act.put,xA,xE,xC])
     (refine aj 5 (v:=?_) rfl (by kernel_rfl) (by kernel_rfl) (by kernel_rfl) (by kernel_rfl) (λ_ _ _ h=>h) (λ_=>by assumption) (by rfl) ?_ ?_;rotate_left;· (intro w;go_simp;try with_reducible rfl);try simp only[Act.put,xA,xE,xC])
     (refine Lst.lH 7 6 (v:=?_) rfl (by kernel_rfl) (by kernel_rfl) (by kernel_rfl) (by kernel_rfl) (by kernel_rfl) (by kernel_rfl) (λ_ _ _ h=>h) (by assumption) (by rfl) ?_ ?_;rotate_left;· (intro w hSw;have e:=(Bk.k3 hSw).1.1;go_simp;try with_reducible rfl);try simp only[Act.put,xA,xE,xC])
     clear hSS hd;have qU:=hid (vO mb gq rn bP.out.1 (by omega) _ HMA.out);(refine aB 4 (by kernel_rfl) rfl (λK hK=>?_))
     go_simp;refine qU.out.mono ?_;rintro e X⟨rfl,hg,hc⟩;replace HQ1:=hid (Bk.grown HQ1.out hg (HMA.out.ne HQ1.out));have HIx:=hid (HI.out.fresh hg Cm);have HFx:=hid (HFb.out.fresh HI.out hg Cm);clear HI HFb HMA;have HI:=HIx;have HFb:=HFx;have HMA:=hid hc;clear HIx HFx hc;(refine hK.out _ _ (λhnn=>HQ1.out) ?_;clear hK K;try simp only[Act.put,xA,xE,xC])
     clear qU hHeld;(refine aB 7 (by kernel_rfl) rfl (λK hK=>?_))
     go_simp;refine(Chk.bW HI.out HFb.out (Below.refl _ _) (!Chk.bZ gq rn) (rn) 130).mono ?_;rintro e Y⟨rfl,hg,hi,hf⟩;(refine hK.out _ _ (λhnn=>(absurd hnn (by decide))) ?_;clear hK K;try simp only[Act.put,xA,xE,xC])
     replace HMA:=hid (HMA.out.kept hg (by intro e;injection e with e;have:=HI.out.hi;omega));replace HQ1:=hid (Bk.grown HQ1.out hg (Chk.aZ HFb.out HQ1.out (by decide)));clear HI HFb;have HI:=hid hi;have HFb:=hid hf;clear hi hf hg;refine dU (by kernel_rfl) ?_ _;refine NoPanic.normal ?_;have gB:Hid (Chk.run 130 (Chk.wX ((x.sagas).drop (k1+1)) (gq++[rn])) (Chk.at_ (!Chk.bZ gq rn) rn 130 cu1)=R):=hid (by exact HD1.out);go_wp2_with fail;go_roundw
     case rel=>exact⟨k1+1,_,(gq++[rn]),by omega,by go_num,gB,by simp;omega,HI,HFb,HMA⟩
     case measure=>simp[intOf];omega
    have HE:Hid (cu1=R):=hid (by have h:=HK.out;rw[xP (show x.sagas.length<=k1 by rw[<-HN3.out];omega)]at h;exact h);go_wp2_with fail;refine bodyPost_end (results_none rfl _ _ _) rfl ?_;exact⟨rfl,HI.out.gb,by rw[<-HE.out];exact HFb.out⟩
namespace Chk
open Id
def first:List Flt->ByteArray × Nat
 |[]=>(⟨#[]⟩,0)
 |none::l=>first l
 |some p::_=>p
noncomputable def dX(x:Sch):List Flt:=[run 120 (namesT x) none,run 135 (kL x) none,run 130 (ou x) none,run 131 (nI x) none,run 132 (kY x) none,run 134 (lU x) none,run 133 (qG x) none,run 240 (sU x) none,run 241 (qI x) none,run 133 (uF x) none]
noncomputable def check(x:Sch):ByteArray × Nat:=first (dX x)
theorem Gh(e:Nat)(p:ByteArray × Nat):∀ l:List Test,run e l (some p)=some p
 |[]=>rfl
 |t::l=>by
  show run e l (at_ t.1 t.2 e (some p))=some p
  have:at_ t.1 t.2 e (some p)=some p:=by unfold at_;split<;>rfl
  rw[this];exact Gh e p l
theorem Gg{e:Nat}:∀{l:List Test},run e l none=none->∀ t∈l,t.1=true
 |[],_,t,ht=>absurd ht (by simp)
 |u::l,h,t,ht=>by
  have h1:run e l (at_ u.1 u.2 e none)=none:=h;cases hu:u.1 with
  |false =>
   have:at_ u.1 u.2 e none=some (u.2,e):=by unfold at_;rw[hu];rfl
   rw[this,Gh]at h1;cases h1
  |true =>
   have:at_ u.1 u.2 e none=none:=by unfold at_;rw[hu];rfl
   rw[this]at h1;rcases List.mem_cons.1 ht with rfl|ht
   ·exact hu
   ·exact Gg h1 t ht
theorem DU.mid{x:Sch}(h:DU x)(hc:run 135 (kL x) none=none):Mid x:=by
 have ht:=Gg hc;unfold kL at ht;simp only[yH,List.mem_append,List.mem_flatMap]at ht;refine⟨h.nm,h.recs,h.oW,h.oZ,λr hr=>?_,λv hv=>?_,λg hg=>?_⟩
 ·obtain⟨a,b,c⟩:=h.re r hr
  have:=ht (decide ((r.fields.length:Int)<=16),r.name) (.inr (.inl ⟨r,hr,by simp[uY]⟩));simp only[decide_eq_true_eq]at this;exact⟨a,by omega,c⟩
 ·obtain⟨a,b,c⟩:=h.sv v hv
  have:=ht (decide ((v.methods.length:Int)<=16),v.name) (.inr (.inr (.inl ⟨v,hv,by simp[qB]⟩)));simp only[decide_eq_true_eq]at this;exact⟨a,by omega,c⟩
 ·obtain⟨a,b,c⟩:=h.sa g hg
  have:=ht (decide (1<=(g.steps.length:Int))&&decide ((g.steps.length:Int)<=8),g.name) (.inr (.inr (.inr ⟨g,hg,by simp[jK]⟩)));simp only[xX,decide_eq_true_eq]at this;exact⟨a,by omega,c⟩
end Chk
theorem XB(W:World):Sem.run Tryz.prog (Instr.index 86 (.agg #[.func (.func 38) #[] #[],.func (.func 39) #[] #[],.func (.func 40) #[] #[],.func (.func 41) #[] #[],.func (.func 42) #[] #[],.func (.func 43) #[] #[],.func (.func 44) #[] #[],.func (.func 45) #[] #[],.func (.func 46) #[] #[],.func (.func 47) #[] #[]]) (.int .i64 0)) W=.ok (.func (.func 38) #[] #[]) W:=by kernel_rfl
theorem XA(W:World):Sem.run Tryz.prog (Instr.index 86 (.agg #[.func (.func 38) #[] #[],.func (.func 39) #[] #[],.func (.func 40) #[] #[],.func (.func 41) #[] #[],.func (.func 42) #[] #[],.func (.func 43) #[] #[],.func (.func 44) #[] #[],.func (.func 45) #[] #[],.func (.func 46) #[] #[],.func (.func 47) #[] #[]]) (.int .i64 1)) W=.ok (.func (.func 39) #[] #[]) W:=by kernel_rfl
theorem X9(W:World):Sem.run Tryz.prog (Instr.index 86 (.agg #[.func (.func 38) #[] #[],.func (.func 39) #[] #[],.func (.func 40) #[] #[],.func (.func 41) #[] #[],.func (.func 42) #[] #[],.func (.func 43) #[] #[],.func (.func 44) #[] #[],.func (.func 45) #[] #[],.func (.func 46) #[] #[],.func (.func 47) #[] #[]]) (.int .i64 2)) W=.ok (.func (.func 40) #[] #[]) W:=by kernel_rfl
theorem X8(W:World):Sem.run Tryz.prog (Instr.index 86 (.agg #[.func (.func 38) #[] #[],.func (.func 39) #[] #[],.func (.func 40) #[] #[],.func (.func 41) #[] #[],.func (.func 42) #[] #[],.func (.func 43) #[] #[],.func (.func 44) #[] #[],.func (.func 45) #[] #[],.func (.func 46) #[] #[],.func (.func 47) #[] #[]]) (.int .i64 3)) W=.ok (.func (.func 41) #[] #[]) W:=by kernel_rfl
theorem X7(W:World):Sem.run Tryz.prog (Instr.index 86 (.agg #[.func (.func 38) #[] #[],.func (.func 39) #[] #[],.func (.func 40) #[] #[],.func (.func 41) #[] #[],.func (.func 42) #[] #[],.func (.func 43) #[] #[],.func (.func 44) #[] #[],.func (.func 45) #[] #[],.func (.func 46) #[] #[],.func (.func 47) #[] #[]]) (.int .i64 4)) W=.ok (.func (.func 42) #[] #[]) W:=by kernel_rfl
theorem X6(W:World):Sem.run Tryz.prog (Instr.index 86 (.agg #[.func (.func 38) #[] #[],.func (.func 39) #[] #[],.func (.func 40) #[] #[],.func (.func 41) #[] #[],.func (.func 42) #[] #[],.func (.func 43) #[] #[],.func (.func 44) #[] #[],.func (.func 45) #[] #[],.func (.func 46) #[] #[],.func (.func 47) #[] #[]]) (.int .i64 5)) W=.ok (.func (.func 43) #[] #[]) W:=by kernel_rfl
theorem X4(W:World):Sem.run Tryz.prog (Instr.index 86 (.agg #[.func (.func 38) #[] #[],.func (.func 39) #[] #[],.func (.func 40) #[] #[],.func (.func 41) #[] #[],.func (.func 42) #[] #[],.func (.func 43) #[] #[],.func (.func 44) #[] #[],.func (.func 45) #[] #[],.func (.func 46) #[] #[],.func (.func 47) #[] #[]]) (.int .i64 6)) W=.ok (.func (.func 44) #[] #[]) W:=by kernel_rfl
theorem X3(W:World):Sem.run Tryz.prog (Instr.index 86 (.agg #[.func (.func 38) #[] #[],.func (.func 39) #[] #[],.func (.func 40) #[] #[],.func (.func 41) #[] #[],.func (.func 42) #[] #[],.func (.func 43) #[] #[],.func (.func 44) #[] #[],.func (.func 45) #[] #[],.func (.func 46) #[] #[],.func (.func 47) #[] #[]]) (.int .i64 7)) W=.ok (.func (.func 45) #[] #[]) W:=by kernel_rfl
theorem X0(W:World):Sem.run Tryz.prog (Instr.index 86 (.agg #[.func (.func 38) #[] #[],.func (.func 39) #[] #[],.func (.func 40) #[] #[],.func (.func 41) #[] #[],.func (.func 42) #[] #[],.func (.func 43) #[] #[],.func (.func 44) #[] #[],.func (.func 45) #[] #[],.func (.func 46) #[] #[],.func (.func 47) #[] #[]]) (.int .i64 8)) W=.ok (.func (.func 46) #[] #[]) W:=by kernel_rfl
theorem Xz(W:World):Sem.run Tryz.prog (Instr.index 86 (.agg #[.func (.func 38) #[] #[],.func (.func 39) #[] #[],.func (.func 40) #[] #[],.func (.func 41) #[] #[],.func (.func 42) #[] #[],.func (.func 43) #[] #[],.func (.func 44) #[] #[],.func (.func 45) #[] #[],.func (.func 46) #[] #[],.func (.func 47) #[] #[]]) (.int .i64 9)) W=.ok (.func (.func 47) #[] #[]) W:=by kernel_rfl
theorem Dj(v:Value)(x:Id.Sch)(hF:Chk.DU x)(w:World)(hkw:Tk.KW w)(hv:Id.aY w none v x) :
  Calls Tryz.prog 10 #[v] w λe w'=>e=.returned (.tuple #[.string (Chk.check x).1,.int .i64 (Chk.check x).2])/\Below w.heap.size w w':=by
 obtain⟨R,HR⟩:∃ R,Hid (Chk.check x=R):=⟨_,hid rfl⟩;rw[HR.out];have HR0:Hid (Chk.first ((Chk.dX x).drop 0)=R):=HR;have HV:=hid hv;have HKW:=hid hkw;have dM:=hid hF;obtain⟨A1,n1,c1,A2,n2,c2,A3,n3,c3,rfl,-,-,-⟩:=hv;clear hkw hF HR;go_enter Tryz.func10,Tryz.ntmps10;go_upto_region 1 with(fail)
 refine ak (λW0 hW0=>?_);obtain⟨hb0,hq0,-⟩:=ay hW0;clear hW0;have HB:=hid hb0;have HQ:=hid hq0;clear hb0 hq0;go_wp2_with fail;go_loopw [8] (λi wr=>∃(k:Nat),k<=10/\i=.int .i64 k/\Hid (Chk.first ((Chk.dX x).drop k)=R)/\Hid (2<=k->Chk.run 135 (Chk.kL x) none=none)/\Hid (Below w.heap.size w wr)/\Hid (Bk wr w.heap.size 28 #[.string x.name,.slice A1 n1 c1,.slice A2 n2 c2,.slice A3 n3 c3])) (λi _=>10 - (intOf i).toNat)
 case atStart=>exact⟨0,by omega,rfl,HR0,hid (λh=>absurd h (by decide)),HB,HQ⟩
 case round =>
  clear HB HQ HR0;obtain⟨k,hk,rfl,HK,HP,HB,HQ⟩:=hrel;obtain⟨Wk,rfl⟩:∃ w',w'=wr:=⟨_,rfl⟩;have hbs:=HB.out.size;rcases(show k=0∨k=1∨k=2∨k=3∨k=4∨k=5∨k=6∨k=7∨k=8∨k=9∨k=10 by omega)with rfl|rfl|rfl|rfl|rfl|rfl|rfl|rfl|rfl|rfl|rfl
  ·have hst:Chk.first ((Chk.dX x).drop 0)=Chk.first (Chk.run 120 (Chk.namesT x) none::(Chk.dX x).drop (0+1)):=rfl
   have HK2:Hid (Chk.first (Chk.run 120 (Chk.namesT x) none::(Chk.dX x).drop (0+1))=R):=hid (by rw[<-hst];exact HK.out);clear hst HK;have hix:=XB;simp only[xY];go_upto_region 5 with(fail)
   refine ak (λW1 hW1=>?_);obtain⟨hb1,hq1,-⟩:=ay hW1;clear hW1;have HB1:=hid (HB.out.trans (hb1.mono hbs));have HQ1:=hid (HQ.out.below hb1 HQ.out.lt);have HF1:Hid (Chk.Fb W1 Wk.heap.size none):=hid hq1;clear hb1 hq1 hix;obtain⟨⟨q0,q1,q2,q3⟩,-⟩:=HQ1.out.k4;go_wp2_with fail;refine(Qb _ x dM.out Wk.heap.size none w W1 HKW.out HV.out HB1.out hbs HF1.out).mono ?_;rintro e W2⟨rfl,hg2,hf2⟩;have HB2:=hid (dw HB1.out hg2 hbs HB1.out.size);have HQ2:=hid (Bk.grown HQ1.out hg2 (by have:=HQ.out.lt;intro e;injection e with e;omega));obtain⟨F,HF⟩:∃ F,Hid (Chk.run 120 (Chk.namesT x) none=F):=⟨_,hid rfl⟩;rw[HF.out]at hf2 HK2;clear hg2 q0 q1 q2 q3;cases F with
   |none =>
    have hbk:Bk W2 Wk.heap.size 88 #[.bool false,.string ⟨#[]⟩,.int .i64 0]:=hf2;obtain⟨⟨y0,y1,y2⟩,-⟩:=hbk.k3;clear hf2 hbk;have HK3:Hid (Chk.first ((Chk.dX x).drop (0+1))=R):=hid HK2.out;go_wp2_with fail;go_roundw
    case rel=>exact⟨0+1,by omega,by go_num,HK3,hid (λh=>absurd h (by decide)),HB2,HQ2⟩
    case measure=>simp[intOf]
   |some p =>
    obtain⟨wh,ec⟩:=p;have hbk:Bk W2 Wk.heap.size 88 #[.bool true,.string wh,.int .i64 ec]:=hf2;obtain⟨⟨y0,y1,y2⟩,-⟩:=hbk.k3;clear hf2 hbk;have HE:Hid ((wh,ec)=R):=hid HK2.out;go_wp2_with fail;go_quiet (fail);go_wp2_with fail;go_ret2;exact⟨by rw[<-HE.out];rfl,below_drewN HB2.out nq⟩
  ·have hst:Chk.first ((Chk.dX x).drop 1)=Chk.first (Chk.run 135 (Chk.kL x) none::(Chk.dX x).drop (1+1)):=rfl
   have HK2:Hid (Chk.first (Chk.run 135 (Chk.kL x) none::(Chk.dX x).drop (1+1))=R):=hid (by rw[<-hst];exact HK.out);clear hst HK;have hix:=XA;simp only[xY];go_upto_region 5 with(fail)
   refine ak (λW1 hW1=>?_);obtain⟨hb1,hq1,-⟩:=ay hW1;clear hW1;have HB1:=hid (HB.out.trans (hb1.mono hbs));have HQ1:=hid (HQ.out.below hb1 HQ.out.lt);have HF1:Hid (Chk.Fb W1 Wk.heap.size none):=hid hq1;clear hb1 hq1 hix;obtain⟨⟨q0,q1,q2,q3⟩,-⟩:=HQ1.out.k4;go_wp2_with fail;refine(ML _ x dM.out Wk.heap.size none w W1 HKW.out HV.out HB1.out hbs HF1.out).mono ?_;rintro e W2⟨rfl,hg2,hf2⟩;have HB2:=hid (dw HB1.out hg2 hbs HB1.out.size);have HQ2:=hid (Bk.grown HQ1.out hg2 (by have:=HQ.out.lt;intro e;injection e with e;omega));obtain⟨F,HF⟩:∃ F,Hid (Chk.run 135 (Chk.kL x) none=F):=⟨_,hid rfl⟩;rw[HF.out]at hf2 HK2;clear hg2 q0 q1 q2 q3;cases F with
   |none =>
    have hbk:Bk W2 Wk.heap.size 88 #[.bool false,.string ⟨#[]⟩,.int .i64 0]:=hf2;obtain⟨⟨y0,y1,y2⟩,-⟩:=hbk.k3;clear hf2 hbk;have HK3:Hid (Chk.first ((Chk.dX x).drop (1+1))=R):=hid HK2.out;go_wp2_with fail;go_roundw
    case rel=>exact⟨1+1,by omega,by go_num,HK3,hid (λ_=>HF.out),HB2,HQ2⟩
    case measure=>simp[intOf]
   |some p =>
    obtain⟨wh,ec⟩:=p;have hbk:Bk W2 Wk.heap.size 88 #[.bool true,.string wh,.int .i64 ec]:=hf2;obtain⟨⟨y0,y1,y2⟩,-⟩:=hbk.k3;clear hf2 hbk;have HE:Hid ((wh,ec)=R):=hid HK2.out;go_wp2_with fail;go_quiet (fail);go_wp2_with fail;go_ret2;exact⟨by rw[<-HE.out];rfl,below_drewN HB2.out nq⟩
  ·have hst:Chk.first ((Chk.dX x).drop 2)=Chk.first (Chk.run 130 (Chk.ou x) none::(Chk.dX x).drop (2+1)):=rfl
   have HK2:Hid (Chk.first (Chk.run 130 (Chk.ou x) none::(Chk.dX x).drop (2+1))=R):=hid (by rw[<-hst];exact HK.out);clear hst HK;have hix:=X9;simp only[xY];go_upto_region 5 with(fail)
   refine ak (λW1 hW1=>?_);obtain⟨hb1,hq1,-⟩:=ay hW1;clear hW1;have HB1:=hid (HB.out.trans (hb1.mono hbs));have HQ1:=hid (HQ.out.below hb1 HQ.out.lt);have HF1:Hid (Chk.Fb W1 Wk.heap.size none):=hid hq1;clear hb1 hq1 hix;obtain⟨⟨q0,q1,q2,q3⟩,-⟩:=HQ1.out.k4;go_wp2_with fail;refine(Ky _ x (dM.out.mid (HP.out (by decide))) Wk.heap.size none w W1 HKW.out HV.out HB1.out hbs HF1.out).mono ?_;rintro e W2⟨rfl,hg2,hf2⟩;have HB2:=hid (dw HB1.out hg2 hbs HB1.out.size);have HQ2:=hid (Bk.grown HQ1.out hg2 (by have:=HQ.out.lt;intro e;injection e with e;omega));obtain⟨F,HF⟩:∃ F,Hid (Chk.run 130 (Chk.ou x) none=F):=⟨_,hid rfl⟩;rw[HF.out]at hf2 HK2;clear hg2 q0 q1 q2 q3;cases F with
   |none =>
    have hbk:Bk W2 Wk.heap.size 88 #[.bool false,.string ⟨#[]⟩,.int .i64 0]:=hf2;obtain⟨⟨y0,y1,y2⟩,-⟩:=hbk.k3;clear hf2 hbk;have HK3:Hid (Chk.first ((Chk.dX x).drop (2+1))=R):=hid HK2.out;go_wp2_with fail;go_roundw
    case rel=>exact⟨2+1,by omega,by go_num,HK3,hid (λ_=>HP.out (by decide)),HB2,HQ2⟩
    case measure=>simp[intOf]
   |some p =>
    obtain⟨wh,ec⟩:=p;have hbk:Bk W2 Wk.heap.size 88 #[.bool true,.string wh,.int .i64 ec]:=hf2;obtain⟨⟨y0,y1,y2⟩,-⟩:=hbk.k3;clear hf2 hbk;have HE:Hid ((wh,ec)=R):=hid HK2.out;go_wp2_with fail;go_quiet (fail);go_wp2_with fail;go_ret2;exact⟨by rw[<-HE.out];rfl,below_drewN HB2.out nq⟩
  ·have hst:Chk.first ((Chk.dX x).drop 3)=Chk.first (Chk.run 131 (Chk.nI x) none::(Chk.dX x).drop (3+1)):=rfl
   have HK2:Hid (Chk.first (Chk.run 131 (Chk.nI x) none::(Chk.dX x).drop (3+1))=R):=hid (by rw[<-hst];exact HK.out);clear hst HK;have hix:=X8;simp only[xY];go_upto_region 5 with(fail)
   refine ak (λW1 hW1=>?_);obtain⟨hb1,hq1,-⟩:=ay hW1;clear hW1;have HB1:=hid (HB.out.trans (hb1.mono hbs));have HQ1:=hid (HQ.out.below hb1 HQ.out.lt);have HF1:Hid (Chk.Fb W1 Wk.heap.size none):=hid hq1;clear hb1 hq1 hix;obtain⟨⟨q0,q1,q2,q3⟩,-⟩:=HQ1.out.k4;go_wp2_with fail;refine(PO _ x (dM.out.mid (HP.out (by decide))) Wk.heap.size none w W1 HKW.out HV.out HB1.out hbs HF1.out).mono ?_;rintro e W2⟨rfl,hg2,hf2⟩;have HB2:=hid (dw HB1.out hg2 hbs HB1.out.size);have HQ2:=hid (Bk.grown HQ1.out hg2 (by have:=HQ.out.lt;intro e;injection e with e;omega));obtain⟨F,HF⟩:∃ F,Hid (Chk.run 131 (Chk.nI x) none=F):=⟨_,hid rfl⟩;rw[HF.out]at hf2 HK2;clear hg2 q0 q1 q2 q3;cases F with
   |none =>
    have hbk:Bk W2 Wk.heap.size 88 #[.bool false,.string ⟨#[]⟩,.int .i64 0]:=hf2;obtain⟨⟨y0,y1,y2⟩,-⟩:=hbk.k3;clear hf2 hbk;have HK3:Hid (Chk.first ((Chk.dX x).drop (3+1))=R):=hid HK2.out;go_wp2_with fail;go_roundw
    case rel=>exact⟨3+1,by omega,by go_num,HK3,hid (λ_=>HP.out (by decide)),HB2,HQ2⟩
    case measure=>simp[intOf]
   |some p =>
    obtain⟨wh,ec⟩:=p;have hbk:Bk W2 Wk.heap.size 88 #[.bool true,.string wh,.int .i64 ec]:=hf2;obtain⟨⟨y0,y1,y2⟩,-⟩:=hbk.k3;clear hf2 hbk;have HE:Hid ((wh,ec)=R):=hid HK2.out;go_wp2_with fail;go_quiet (fail);go_wp2_with fail;go_ret2;exact⟨by rw[<-HE.out];rfl,below_drewN HB2.out nq⟩
  ·have hst:Chk.first ((Chk.dX x).drop 4)=Chk.first (Chk.run 132 (Chk.kY x) none::(Chk.dX x).drop (4+1)):=rfl
   have HK2:Hid (Chk.first (Chk.run 132 (Chk.kY x) none::(Chk.dX x).drop (4+1))=R):=hid (by rw[<-hst];exact HK.out);clear hst HK;have hix:=X7;simp only[xY];go_upto_region 5 with(fail)
   refine ak (λW1 hW1=>?_);obtain⟨hb1,hq1,-⟩:=ay hW1;clear hW1;have HB1:=hid (HB.out.trans (hb1.mono hbs));have HQ1:=hid (HQ.out.below hb1 HQ.out.lt);have HF1:Hid (Chk.Fb W1 Wk.heap.size none):=hid hq1;clear hb1 hq1 hix;obtain⟨⟨q0,q1,q2,q3⟩,-⟩:=HQ1.out.k4;go_wp2_with fail;refine(Kz _ x (dM.out.mid (HP.out (by decide))) Wk.heap.size none w W1 HKW.out HV.out HB1.out hbs HF1.out).mono ?_;rintro e W2⟨rfl,hg2,hf2⟩;have HB2:=hid (dw HB1.out hg2 hbs HB1.out.size);have HQ2:=hid (Bk.grown HQ1.out hg2 (by have:=HQ.out.lt;intro e;injection e with e;omega));obtain⟨F,HF⟩:∃ F,Hid (Chk.run 132 (Chk.kY x) none=F):=⟨_,hid rfl⟩;rw[HF.out]at hf2 HK2;clear hg2 q0 q1 q2 q3;cases F with
   |none =>
    have hbk:Bk W2 Wk.heap.size 88 #[.bool false,.string ⟨#[]⟩,.int .i64 0]:=hf2;obtain⟨⟨y0,y1,y2⟩,-⟩:=hbk.k3;clear hf2 hbk;have HK3:Hid (Chk.first ((Chk.dX x).drop (4+1))=R):=hid HK2.out;go_wp2_with fail;go_roundw
    case rel=>exact⟨4+1,by omega,by go_num,HK3,hid (λ_=>HP.out (by decide)),HB2,HQ2⟩
    case measure=>simp[intOf]
   |some p =>
    obtain⟨wh,ec⟩:=p;have hbk:Bk W2 Wk.heap.size 88 #[.bool true,.string wh,.int .i64 ec]:=hf2;obtain⟨⟨y0,y1,y2⟩,-⟩:=hbk.k3;clear hf2 hbk;have HE:Hid ((wh,ec)=R):=hid HK2.out;go_wp2_with fail;go_quiet (fail);go_wp2_with fail;go_ret2;exact⟨by rw[<-HE.out];rfl,below_drewN HB2.out nq⟩
  ·have hst:Chk.first ((Chk.dX x).drop 5)=Chk.first (Chk.run 134 (Chk.lU x) none::(Chk.dX x).drop (5+1)):=rfl
   have HK2:Hid (Chk.first (Chk.run 134 (Chk.lU x) none::(Chk.dX x).drop (5+1))=R):=hid (by rw[<-hst];exact HK.out);clear hst HK;have hix:=X6;simp only[xY];go_upto_region 5 with(fail)
   refine ak (λW1 hW1=>?_);obtain⟨hb1,hq1,-⟩:=ay hW1;clear hW1;have HB1:=hid (HB.out.trans (hb1.mono hbs));have HQ1:=hid (HQ.out.below hb1 HQ.out.lt);have HF1:Hid (Chk.Fb W1 Wk.heap.size none):=hid hq1;clear hb1 hq1 hix;obtain⟨⟨q0,q1,q2,q3⟩,-⟩:=HQ1.out.k4;go_wp2_with fail;refine(Kv _ x (dM.out.mid (HP.out (by decide))) Wk.heap.size none w W1 HKW.out HV.out HB1.out hbs HF1.out).mono ?_;rintro e W2⟨rfl,hg2,hf2⟩;have HB2:=hid (dw HB1.out hg2 hbs HB1.out.size);have HQ2:=hid (Bk.grown HQ1.out hg2 (by have:=HQ.out.lt;intro e;injection e with e;omega));obtain⟨F,HF⟩:∃ F,Hid (Chk.run 134 (Chk.lU x) none=F):=⟨_,hid rfl⟩;rw[HF.out]at hf2 HK2;clear hg2 q0 q1 q2 q3;cases F with
   |none =>
    have hbk:Bk W2 Wk.heap.size 88 #[.bool false,.string ⟨#[]⟩,.int .i64 0]:=hf2;obtain⟨⟨y0,y1,y2⟩,-⟩:=hbk.k3;clear hf2 hbk;have HK3:Hid (Chk.first ((Chk.dX x).drop (5+1))=R):=hid HK2.out;go_wp2_with fail;go_roundw
    case rel=>exact⟨5+1,by omega,by go_num,HK3,hid (λ_=>HP.out (by decide)),HB2,HQ2⟩
    case measure=>simp[intOf]
   |some p =>
    obtain⟨wh,ec⟩:=p;have hbk:Bk W2 Wk.heap.size 88 #[.bool true,.string wh,.int .i64 ec]:=hf2;obtain⟨⟨y0,y1,y2⟩,-⟩:=hbk.k3;clear hf2 hbk;have HE:Hid ((wh,ec)=R):=hid HK2.out;go_wp2_with fail;go_quiet (fail);go_wp2_with fail;go_ret2;exact⟨by rw[<-HE.out];rfl,below_drewN HB2.out nq⟩
  ·have hst:Chk.first ((Chk.dX x).drop 6)=Chk.first (Chk.run 133 (Chk.qG x) none::(Chk.dX x).drop (6+1)):=rfl
   have HK2:Hid (Chk.first (Chk.run 133 (Chk.qG x) none::(Chk.dX x).drop (6+1))=R):=hid (by rw[<-hst];exact HK.out);clear hst HK;have hix:=X4;simp only[xY];go_upto_region 5 with(fail)
   refine ak (λW1 hW1=>?_);obtain⟨hb1,hq1,-⟩:=ay hW1;clear hW1;have HB1:=hid (HB.out.trans (hb1.mono hbs));have HQ1:=hid (HQ.out.below hb1 HQ.out.lt);have HF1:Hid (Chk.Fb W1 Wk.heap.size none):=hid hq1;clear hb1 hq1 hix;obtain⟨⟨q0,q1,q2,q3⟩,-⟩:=HQ1.out.k4;go_wp2_with fail;refine(PN _ x (dM.out.mid (HP.out (by decide))) Wk.heap.size none w W1 HKW.out HV.out HB1.out hbs HF1.out).mono ?_;rintro e W2⟨rfl,hg2,hf2⟩;have HB2:=hid (dw HB1.out hg2 hbs HB1.out.size);have HQ2:=hid (Bk.grown HQ1.out hg2 (by have:=HQ.out.lt;intro e;injection e with e;omega));obtain⟨F,HF⟩:∃ F,Hid (Chk.run 133 (Chk.qG x) none=F):=⟨_,hid rfl⟩;rw[HF.out]at hf2 HK2;clear hg2 q0 q1 q2 q3;cases F with
   |none =>
    have hbk:Bk W2 Wk.heap.size 88 #[.bool false,.string ⟨#[]⟩,.int .i64 0]:=hf2;obtain⟨⟨y0,y1,y2⟩,-⟩:=hbk.k3;clear hf2 hbk;have HK3:Hid (Chk.first ((Chk.dX x).drop (6+1))=R):=hid HK2.out;go_wp2_with fail;go_roundw
    case rel=>exact⟨6+1,by omega,by go_num,HK3,hid (λ_=>HP.out (by decide)),HB2,HQ2⟩
    case measure=>simp[intOf]
   |some p =>
    obtain⟨wh,ec⟩:=p;have hbk:Bk W2 Wk.heap.size 88 #[.bool true,.string wh,.int .i64 ec]:=hf2;obtain⟨⟨y0,y1,y2⟩,-⟩:=hbk.k3;clear hf2 hbk;have HE:Hid ((wh,ec)=R):=hid HK2.out;go_wp2_with fail;go_quiet (fail);go_wp2_with fail;go_ret2;exact⟨by rw[<-HE.out];rfl,below_drewN HB2.out nq⟩
  ·have hst:Chk.first ((Chk.dX x).drop 7)=Chk.first (Chk.run 240 (Chk.sU x) none::(Chk.dX x).drop (7+1)):=rfl
   have HK2:Hid (Chk.first (Chk.run 240 (Chk.sU x) none::(Chk.dX x).drop (7+1))=R):=hid (by rw[<-hst];exact HK.out);clear hst HK;have hix:=X3;simp only[xY];go_upto_region 5 with(fail)
   refine ak (λW1 hW1=>?_);obtain⟨hb1,hq1,-⟩:=ay hW1;clear hW1;have HB1:=hid (HB.out.trans (hb1.mono hbs));have HQ1:=hid (HQ.out.below hb1 HQ.out.lt);have HF1:Hid (Chk.Fb W1 Wk.heap.size none):=hid hq1;clear hb1 hq1 hix;obtain⟨⟨q0,q1,q2,q3⟩,-⟩:=HQ1.out.k4;go_wp2_with fail;refine(PU _ x (dM.out.mid (HP.out (by decide))).small Wk.heap.size none w W1 HV.out HB1.out hbs HF1.out).mono ?_;rintro e W2⟨rfl,hg2,hf2⟩;have HB2:=hid (dw HB1.out hg2 hbs HB1.out.size);have HQ2:=hid (Bk.grown HQ1.out hg2 (by have:=HQ.out.lt;intro e;injection e with e;omega));obtain⟨F,HF⟩:∃ F,Hid (Chk.run 240 (Chk.sU x) none=F):=⟨_,hid rfl⟩;rw[HF.out]at hf2 HK2;clear hg2 q0 q1 q2 q3;cases F with
   |none =>
    have hbk:Bk W2 Wk.heap.size 88 #[.bool false,.string ⟨#[]⟩,.int .i64 0]:=hf2;obtain⟨⟨y0,y1,y2⟩,-⟩:=hbk.k3;clear hf2 hbk;have HK3:Hid (Chk.first ((Chk.dX x).drop (7+1))=R):=hid HK2.out;go_wp2_with fail;go_roundw
    case rel=>exact⟨7+1,by omega,by go_num,HK3,hid (λ_=>HP.out (by decide)),HB2,HQ2⟩
    case measure=>simp[intOf]
   |some p =>
    obtain⟨wh,ec⟩:=p;have hbk:Bk W2 Wk.heap.size 88 #[.bool true,.string wh,.int .i64 ec]:=hf2;obtain⟨⟨y0,y1,y2⟩,-⟩:=hbk.k3;clear hf2 hbk;have HE:Hid ((wh,ec)=R):=hid HK2.out;go_wp2_with fail;go_quiet (fail);go_wp2_with fail;go_ret2;exact⟨by rw[<-HE.out];rfl,below_drewN HB2.out nq⟩
  ·have hst:Chk.first ((Chk.dX x).drop 8)=Chk.first (Chk.run 241 (Chk.qI x) none::(Chk.dX x).drop (8+1)):=rfl
   have HK2:Hid (Chk.first (Chk.run 241 (Chk.qI x) none::(Chk.dX x).drop (8+1))=R):=hid (by rw[<-hst];exact HK.out);clear hst HK;have hix:=X0;simp only[xY];go_upto_region 5 with(fail)
   refine ak (λW1 hW1=>?_);obtain⟨hb1,hq1,-⟩:=ay hW1;clear hW1;have HB1:=hid (HB.out.trans (hb1.mono hbs));have HQ1:=hid (HQ.out.below hb1 HQ.out.lt);have HF1:Hid (Chk.Fb W1 Wk.heap.size none):=hid hq1;clear hb1 hq1 hix;obtain⟨⟨q0,q1,q2,q3⟩,-⟩:=HQ1.out.k4;go_wp2_with fail;refine(PS _ x (dM.out.mid (HP.out (by decide))) Wk.heap.size none w W1 HKW.out HV.out HB1.out hbs HF1.out).mono ?_;rintro e W2⟨rfl,hg2,hf2⟩;have HB2:=hid (dw HB1.out hg2 hbs HB1.out.size);have HQ2:=hid (Bk.grown HQ1.out hg2 (by have:=HQ.out.lt;intro e;injection e with e;omega));obtain⟨F,HF⟩:∃ F,Hid (Chk.run 241 (Chk.qI x) none=F):=⟨_,hid rfl⟩;rw[HF.out]at hf2 HK2;clear hg2 q0 q1 q2 q3;cases F with
   |none =>
    have hbk:Bk W2 Wk.heap.size 88 #[.bool false,.string ⟨#[]⟩,.int .i64 0]:=hf2;obtain⟨⟨y0,y1,y2⟩,-⟩:=hbk.k3;clear hf2 hbk;have HK3:Hid (Chk.first ((Chk.dX x).drop (8+1))=R):=hid HK2.out;go_wp2_with fail;go_roundw
    case rel=>exact⟨8+1,by omega,by go_num,HK3,hid (λ_=>HP.out (by decide)),HB2,HQ2⟩
    case measure=>simp[intOf]
   |some p =>
    obtain⟨wh,ec⟩:=p;have hbk:Bk W2 Wk.heap.size 88 #[.bool true,.string wh,.int .i64 ec]:=hf2;obtain⟨⟨y0,y1,y2⟩,-⟩:=hbk.k3;clear hf2 hbk;have HE:Hid ((wh,ec)=R):=hid HK2.out;go_wp2_with fail;go_quiet (fail);go_wp2_with fail;go_ret2;exact⟨by rw[<-HE.out];rfl,below_drewN HB2.out nq⟩
  ·have hst:Chk.first ((Chk.dX x).drop 9)=Chk.first (Chk.run 133 (Chk.uF x) none::(Chk.dX x).drop (9+1)):=rfl
   have HK2:Hid (Chk.first (Chk.run 133 (Chk.uF x) none::(Chk.dX x).drop (9+1))=R):=hid (by rw[<-hst];exact HK.out);clear hst HK;have hix:=Xz;simp only[xY];go_upto_region 5 with(fail)
   refine ak (λW1 hW1=>?_);obtain⟨hb1,hq1,-⟩:=ay hW1;clear hW1;have HB1:=hid (HB.out.trans (hb1.mono hbs));have HQ1:=hid (HQ.out.below hb1 HQ.out.lt);have HF1:Hid (Chk.Fb W1 Wk.heap.size none):=hid hq1;clear hb1 hq1 hix;obtain⟨⟨q0,q1,q2,q3⟩,-⟩:=HQ1.out.k4;go_wp2_with fail;refine(SY _ x (dM.out.mid (HP.out (by decide))) Wk.heap.size none w W1 HKW.out HV.out HB1.out hbs HF1.out).mono ?_;rintro e W2⟨rfl,hg2,hf2⟩;have HB2:=hid (dw HB1.out hg2 hbs HB1.out.size);have HQ2:=hid (Bk.grown HQ1.out hg2 (by have:=HQ.out.lt;intro e;injection e with e;omega));obtain⟨F,HF⟩:∃ F,Hid (Chk.run 133 (Chk.uF x) none=F):=⟨_,hid rfl⟩;rw[HF.out]at hf2 HK2;clear hg2 q0 q1 q2 q3;cases F with
   |none =>
    have hbk:Bk W2 Wk.heap.size 88 #[.bool false,.string ⟨#[]⟩,.int .i64 0]:=hf2;obtain⟨⟨y0,y1,y2⟩,-⟩:=hbk.k3;clear hf2 hbk;have HK3:Hid (Chk.first ((Chk.dX x).drop (9+1))=R):=hid HK2.out;go_wp2_with fail;go_roundw
    case rel=>exact⟨9+1,by omega,by go_num,HK3,hid (λ_=>HP.out (by decide)),HB2,HQ2⟩
    case measure=>simp[intOf]
   |some p =>
    obtain⟨wh,ec⟩:=p;have hbk:Bk W2 Wk.heap.size 88 #[.bool true,.string wh,.int .i64 ec]:=hf2;obtain⟨⟨y0,y1,y2⟩,-⟩:=hbk.k3;clear hf2 hbk;have HE:Hid ((wh,ec)=R):=hid HK2.out;go_wp2_with fail;go_quiet (fail);go_wp2_with fail;go_ret2;exact⟨by rw[<-HE.out];rfl,below_drewN HB2.out nq⟩
  ·have HE:Hid ((⟨#[]⟩,0)=R):=hid (by rw[<-HK.out];rfl)
   go_wp2_with fail;go_ret2;exact⟨by rw[<-HE.out];rfl,HB.out⟩
theorem zT(v:Value)(x:Id.Sch)(hF:Chk.Fine x)(w:World)(hkw:Tk.KW w)(hv:Id.aY w none v x) :
  Calls Tryz.prog 10 #[v] w λe w'=>e=.returned (.tuple #[.string (Chk.check x).1,.int .i64 (Chk.check x).2])/\Below w.heap.size w w':=Dj v x hF.mid.wide w hkw hv
end
namespace Chk
open Id
theorem Dv(e:Nat)(p:ByteArray × Nat):∀ l:List Test,run e l (some p)=some p
 |[]=>rfl
 |t::l=>by
  have:at_ t.1 t.2 e (some p)=some p:=by unfold at_;cases t.1<;>rfl
  show run e l (at_ t.1 t.2 e (some p))=some p
  rw[this];exact Dv e p l
theorem IK{e:Nat}:∀{l:List Test},run e l none=none↔∀ t∈l,t.1=true
 |[]=>by simp[run]
 |t::l=>by
  show run e l (at_ t.1 t.2 e none)=none↔_
  cases h:t.1
  ·have:at_ false t.2 e none=some (t.2,e):=rfl
   rw[this,Dv];simp[h]
  ·have:at_ true t.2 e none=none:=rfl
   rw[this,IK];simp[h]
theorem IL{e:Nat}:∀{l:List Test}{p:ByteArray × Nat},run e l none=some p->p.2=e
 |[],p,h=>by cases h
 |t::l,p,h=>by
  replace h:run e l (at_ t.1 t.2 e none)=some p:=h;cases ht:t.1
  ·have:at_ t.1 t.2 e none=some (t.2,e):=by rw[ht];rfl
   rw[this,Dv]at h;injection h with h
   rw[<-h]
  ·have:at_ t.1 t.2 e none=none:=by rw[ht];rfl
   rw[this]at h;exact IL h
def Right(x:Sch):Prop:=∀ f∈dX x,f=none
theorem JU:∀{l:List Flt},(∀ f∈l,∀ p,f=some p->p.2≠0)->(first l).2=0->∀ f∈l,f=none
 |[],_,_=>by simp
 |none::l,h,h0=>by
  intro f hf;rcases List.mem_cons.1 hf with rfl|hf
  ·rfl
  ·exact JU (l:=l) (λg hg=>h g (by simp[hg])) h0 f hf
 |some p::l,h,h0=>absurd h0 (h _ (by simp) p rfl)
theorem EN:∀{l:List Flt},(∀ f∈l,f=none)->first l=(⟨#[]⟩,0)
 |[],_=>rfl
 |none::l,h=>EN (l:=l) (λf hf=>h f (by simp[hf]))
 |some p::l,h=>by have:=h (some p) (by simp);cases this
theorem qp{x:Sch}(h:(check x).2=0):Right x:=by
 refine JU (λf hf p hp=>?_) h;unfold dX at hf;simp only[yH,List.not_mem_nil,or_false]at hf;rcases hf with h|h|h|h|h|h|h|h|h|h<;>(rw[h]at hp;rw[IL hp];decide)
theorem MG{x:Sch}(h:Right x):check x=(⟨#[]⟩,0):=EN h
theorem wF{x:Sch}:Right x↔(∀ t∈namesT x,t.1=true)/\(∀ t∈kL x,t.1=true)/\(∀ t∈ou x,t.1=true)/\(∀ t∈nI x,t.1=true)/\(∀ t∈kY x,t.1=true)/\(∀ t∈lU x,t.1=true)/\(∀ t∈qG x,t.1=true)/\(∀ t∈sU x,t.1=true)/\(∀ t∈qI x,t.1=true)/\(∀ t∈uF x,t.1=true):=by
 unfold Right dX;simp only[yH,List.not_mem_nil,or_false,forall_eq_or_imp,forall_eq,IK]
def oG:List ByteArray->List ByteArray->Prop
 |_,[]=>True
 |seen,a::l=>bZ seen a=false/\oG (seen++[a]) l
theorem Ko:∀{seen A B:List ByteArray},oG seen (A++B)↔oG seen A/\oG (seen++A) B
 |seen,[],B=>by simp[oG]
 |seen,a::A,B=>by
  show(_/\oG (seen++[a]) (A++B))↔_
  rw[Ko];show _↔(_/\oG (seen++[a]) A)/\oG (seen++(a::A)) B
  rw[xU,List.singleton_append,and_assoc]
theorem GY:∀{gs:List Sag}{seen:List ByteArray},(∀ t∈wX gs seen,t.1=true)↔oG seen (gs.map (·.name))
 |[],seen=>by simp[wX,oG]
 |g::gs,seen=>by
  unfold wX;simp only[yH,forall_eq_or_imp,List.map_cons,oG,Bool.not_eq_true'];rw[GY]
theorem GU:∀{vs:List Svc}{gs:List Sag}{seen:List ByteArray},(∀ t∈pF vs gs seen,t.1=true)↔oG seen (vs.map (·.name)++gs.map (·.name))/\∀ v∈vs,∀ t∈l7 v.name (v.methods.map (·.name)) [],t.1=true
 |[],gs,seen=>by
  unfold pF;rw[GY];simp
 |v::vs,gs,seen=>by
  unfold pF;simp only[yH,forall_eq_or_imp,List.map_cons,List.mem_append,Bool.not_eq_true'];have h1:(∀ t:Test,t∈l7 v.name (v.methods.map (·.name)) []∨t∈pF vs gs (seen++[v.name])->t.1=true)↔(∀ t∈l7 v.name (v.methods.map (·.name)) [],t.1=true)/\∀ t∈pF vs gs (seen++[v.name]),t.1=true:=⟨λh=>⟨λt ht=>h t (.inl ht),λt ht=>h t (.inr ht)⟩,λh t ht=>ht.elim (h.1 t) (h.2 t)⟩;rw[h1,GU];show _↔(_/\oG _ _)/\_
  exact⟨λ⟨a,b,c,d⟩=>⟨⟨a,c⟩,b,d⟩,λ⟨⟨a,c⟩,b,d⟩=>⟨a,b,c,d⟩⟩
theorem GV:∀{rs:List Rec}{vs:List Svc}{gs:List Sag}{seen:List ByteArray},(∀ t∈pG rs vs gs seen,t.1=true)↔oG seen (rs.map (·.name)++(vs.map (·.name)++gs.map (·.name)))/\(∀ r∈rs,∀ t∈l7 r.name (r.fields.map (·.name)) [],t.1=true)/\∀ v∈vs,∀ t∈l7 v.name (v.methods.map (·.name)) [],t.1=true
 |[],vs,gs,seen=>by
  unfold pG;rw[GU];simp
 |r::rs,vs,gs,seen=>by
  unfold pG;simp only[yH,forall_eq_or_imp,List.map_cons,List.mem_append,Bool.not_eq_true'];have h1:(∀ t:Test,t∈l7 r.name (r.fields.map (·.name)) []∨t∈pG rs vs gs (seen++[r.name])->t.1=true)↔(∀ t∈l7 r.name (r.fields.map (·.name)) [],t.1=true)/\∀ t∈pG rs vs gs (seen++[r.name]),t.1=true:=⟨λh=>⟨λt ht=>h t (.inl ht),λt ht=>h t (.inr ht)⟩,λh t ht=>ht.elim (h.1 t) (h.2 t)⟩;rw[h1,GV];show _↔(_/\oG _ _)/\_
  exact⟨λ⟨a,b,c,d,e⟩=>⟨⟨a,c⟩,⟨b,d⟩,e⟩,λ⟨⟨a,c⟩,⟨b,d⟩,e⟩=>⟨a,b,c,d,e⟩⟩
theorem JZ{a:ByteArray}:∀{seen l:List ByteArray},oG seen l->a∈l->bZ seen a=false
 |seen,b::l,h,ha=>by
  rcases List.mem_cons.1 ha with rfl|ha
  ·exact h.1
  ·have:=JZ h.2 ha
   rw[sS]at this;simp at this;exact this.1
theorem GK{α:Type}(nm:α->ByteArray):∀{l:List α}{seen:List ByteArray},oG seen (l.map nm)->∀{r:α},r∈l->l.find? (λy=>(nm y).toList==(nm r).toList)=some r
 |a::l,seen,h,r,hr=>by
  rw[List.find?_cons];rcases List.mem_cons.1 hr with rfl|hr
  ·simp
  ·have h1:=JZ h.2 (List.mem_map.2 ⟨r,hr,rfl⟩)
   rw[sS]at h1;have h2:((nm a).toList==(nm r).toList)=false:=by
    cases h3:((nm a).toList==(nm r).toList)
    ·rfl
    ·rw[h3]at h1;simp at h1
   rw[h2];exact GK nm h.2 hr
theorem Ov{x:Sch}(h:Right x){r:Rec}(hr:r∈x.records):find x r.name=some r:=by
 have h1:=(GV.1 (wF.1 h).2.2.1).1;exact GK (·.name) (Ko.1 h1).1 hr
theorem UC{x:Sch}{a b:ByteArray}{m:Mth}(h:meth x a b=some m):∃ v∈x.services,v.name.toList=a.toList/\m∈v.methods:=by
 unfold meth at h;split at h
 ·cases h
 ·rename_i v hv
  exact⟨v,List.mem_of_find?_eq_some hv,by simpa using List.find?_some hv,List.mem_of_find?_eq_some h⟩
end Chk
namespace Prn
open Id Chk
def nT(w:ByteArray):Tk.Tok:=⟨1,w,0,0⟩
def sT(w:ByteArray):Tk.Tok:=⟨3,w,0,0⟩
def dT(n:Int):Tk.Tok:=⟨2,wQ n,n.toNat,0⟩
def lJ(x:Srt):Tk.Tok:=nT (bK x)
def og(f:Fld):List Tk.Tok:=nT f.name::sT gu::(f.type.map lJ++[sT aK])
def uo(r:Rec):List Tk.Tok:=nT (if r.choice then fF else fE)::nT r.name::sT aN::(r.fields.flatMap og++[sT aJ])
def rP(m:Mth):List Tk.Tok:=if m.undo.toList.isEmpty then[]else[nT bU,nT m.undo]
def qY(m:Mth):List Tk.Tok:=nT m.effect::nT m.name::sT eH::nT m.arg::sT dK::sT dA::lJ ⟨m.result,⟨#[]⟩⟩::(rP m++[sT aK])
def ug(v:Svc):List Tk.Tok:=nT dW::nT v.name::sT aN::(v.methods.flatMap qY++[sT aJ])
def qV(p:Stp):List Tk.Tok:=[nT wDo,nT p.service,sT jU,nT p.method,nT wAt,dT p.at_,sT aK]
def um(g:Sag):List Tk.Tok:=nT iR::nT g.name::sT eH::nT g.arg::sT dK::sT aN::(g.steps.flatMap qV++[sT aJ])
def ji(x:Sch):List Tk.Tok:=nT bT::nT x.name::sT aK::(x.records.flatMap uo++(x.services.flatMap ug++x.sagas.flatMap um))
abbrev tx(l:List Tk.Tok):List ByteArray:=l.map (·.text)
theorem sK(a b:List Tk.Tok):tx (a++b)=tx a++tx b:=List.map_append
theorem uU{α:Type}{f:α->List Tk.Tok}{g:α->List ByteArray}(h:∀ a,tx (f a)=g a)(l:List α):tx (l.flatMap f)=l.flatMap g:=by
 induction l with
 |nil=>rfl
 |cons a l ih=>rw[yJ,yJ,sK,h,ih]
theorem Dp(l:List Srt):tx (l.map lJ)=l.map bK:=by
 induction l with
 |nil=>rfl
 |cons a l ih=>show _::tx (l.map lJ)=_::_;rw[ih];rfl
theorem YO(f:Fld):tx (og f)=iP f:=by
 show f.name::gu::tx (f.type.map lJ++[sT aK])=_
 rw[sK,Dp];rfl
theorem Ym(r:Rec):tx (uo r)=iZ r:=by
 show _::r.name::aN::tx (r.fields.flatMap og++[sT aJ])=_
 rw[sK,uU YO];rfl
theorem Yu(m:Mth):tx (qY m)=gZ m:=by
 show m.effect::m.name::eH::m.arg::dK::dA::_::tx (rP m++[sT aK])=_
 rw[sK];unfold rP gZ kM;split<;>rfl
theorem XU(v:Svc):tx (ug v)=jO v:=by
 show _::v.name::aN::tx (v.methods.flatMap qY++[sT aJ])=_
 rw[sK,uU Yu];rfl
theorem Yb(g:Sag):tx (um g)=kV g:=by
 show _::g.name::eH::g.arg::dK::aN::tx (g.steps.flatMap qV++[sT aJ])=_
 rw[sK,uU (f:=qV) (g:=mZ) (λp=>rfl)];rfl
theorem IG(x:Sch):tx (ji x)=iW x:=by
 show _::x.name::aK::tx (x.records.flatMap uo++(x.services.flatMap ug++x.sagas.flatMap um))=_
 rw[sK,sK,uU Ym,uU XU,uU Yb];rfl
theorem Xo(l:List Tk.Tok):Tk.qg l=jl (tx l):=by
 cases l with
 |nil=>rfl
 |cons t l =>
  show _++l.flatMap _=_++(tx l).flatMap _
  congr 1
  induction l with
  |nil=>rfl
  |cons u l ih=>rw[yJ];show _=(u.text::tx l).flatMap _;rw[yJ,ih]
def Own(t:Tk.Tok):Prop:=(0<t.text.size/\Tk.aH 3 t.text 0=({ t with at_:=0 },0))/\t.text.size<=32
theorem jP{w:ByteArray}(h:Tk.isName w=true):Own (nT w):=by
 unfold Tk.isName at h;simp only[xX,decide_eq_true_eq]at h;obtain⟨⟨⟨⟨h1,h2⟩,h3⟩,h4⟩,h5⟩:=h;refine⟨⟨h1,?_⟩,h2⟩;have hb:Tk.aW (w[0]'(by omega)).toNat=true:=by
  rw[Tk.jL (by omega)]at h3;unfold Tk.aW;rw[h3];rfl
 rw[Tk.ig (by omega) hb]at h5;show Tk.aH 3 w 0=(nT w,0)
 unfold Tk.aH;dsimp only;rw[if_pos h3,h5,Tk.JV,if_neg (by omega)];rfl
theorem kP{w:ByteArray}(h:Tk.ru w=true):w∈Tk.words:=by
 unfold Tk.ru at h;obtain⟨x,hx,e⟩:=List.any_eq_true.1 h;have e2:w=x:=Tk.text_eq (by simpa using e);rw[e2];exact hx
theorem tC:∀ w∈Tk.words,Own (nT w):=by
 intro w hw;simp only[Tk.words,yH,List.not_mem_nil,or_false]at hw;rcases hw with rfl|rfl|rfl|rfl|rfl|rfl|rfl|rfl|rfl|rfl|rfl|rfl|rfl|rfl|rfl|rfl|rfl<;>exact⟨⟨by decide,by kernel_rfl⟩,by decide⟩
theorem Rw:Own (sT gu):=⟨⟨by decide,by kernel_rfl⟩,by decide⟩
theorem zh:Own (sT aK):=⟨⟨by decide,by kernel_rfl⟩,by decide⟩
theorem D5:Own (sT aN):=⟨⟨by decide,by kernel_rfl⟩,by decide⟩
theorem Bo:Own (sT aJ):=⟨⟨by decide,by kernel_rfl⟩,by decide⟩
theorem Jm:Own (sT eH):=⟨⟨by decide,by kernel_rfl⟩,by decide⟩
theorem Gt:Own (sT dK):=⟨⟨by decide,by kernel_rfl⟩,by decide⟩
theorem WZ:Own (sT jU):=⟨⟨by decide,by kernel_rfl⟩,by decide⟩
theorem Rx:Own (sT dA):=⟨⟨by decide,by kernel_rfl⟩,by decide⟩
theorem U4(n:Nat)(h:n<10):wQ (n:Int)=⟨#[UInt8.ofNat (48+n)]⟩:=by
 unfold wQ;rw[Lib.itoa_nonneg,Lib.decDigits_one h]
theorem WY{n:Int}(h0:0<=n)(h4:n<4):Own (dT n):=by
 have:n=((0:Nat):Int)∨n=((1:Nat):Int)∨n=((2:Nat):Int)∨n=((3:Nat):Int):=by omega
 rcases this with rfl|rfl|rfl|rfl<;>(unfold dT;rw[U4 _ (by decide)];exact⟨⟨by decide,by kernel_rfl⟩,by decide⟩)
def wW(x:Srt):Bool:=if x.kind=1∨x.kind=2∨x.kind=3∨x.kind=4 then x.name.toList.isEmpty else if x.kind=7 then Tk.isName x.name else false
def okP:List Srt->Bool
 |[]=>false
 |[x]=>wW x
 |x::y::l=>mid x&&okP (y::l)
structure OkM(m:Mth):Prop where
 ef:m.effect=dJ∨m.effect=dH∨m.effect=dI
 nm:Tk.isName m.name=true
 ar:Tk.isName m.arg=true
 re:m.result=1∨m.result=3
 un:m.undo.toList.isEmpty=true∨Tk.isName m.undo=true
structure KU(p:Stp):Prop where
 sv:Tk.isName p.service=true
 me:Tk.isName p.method=true
 lo:0<=p.at_
 hi:p.at_<4
structure Ok(x:Sch):Prop where
 nm:Tk.isName x.name=true
 rn:∀ r∈x.records,Tk.isName r.name=true
 rf:∀ r∈x.records,∀ f∈r.fields,Tk.isName f.name=true/\okP f.type=true
 vn:∀ v∈x.services,Tk.isName v.name=true
 vm:∀ v∈x.services,∀ m∈v.methods,OkM m
 gn:∀ g∈x.sagas,Tk.isName g.name=true/\Tk.isName g.arg=true
 gs:∀ g∈x.sagas,∀ p∈g.steps,KU p
theorem empty_of{w:ByteArray}(h:w.toList.isEmpty=true):w=⟨#[]⟩:=Tk.text_eq (by
 rw[List.isEmpty_iff.1 h];decide +kernel)
theorem GL{x:Srt}(h:wW x=true):(x=⟨1,⟨#[]⟩⟩∨x=⟨2,⟨#[]⟩⟩∨x=⟨3,⟨#[]⟩⟩∨x=⟨4,⟨#[]⟩⟩)∨(x.kind=7/\Tk.isName x.name=true):=by
 obtain⟨k,n⟩:=x;unfold wW at h;simp only at h ⊢;split at h
 next hk =>
  rw[empty_of h];left
  rcases hk with rfl|rfl|rfl|rfl<;>simp
 next hk =>
  split at h
  next h7=>exact .inr ⟨h7,h⟩
  next=>cases h
theorem J3{x:Srt}(h:mid x=true):x=⟨5,⟨#[]⟩⟩∨x=⟨6,⟨#[]⟩⟩:=by
 obtain⟨k,n⟩:=x;unfold mid at h;simp only[xX,Bool.or_eq_true,beq_iff_eq]at h;rw[empty_of h.2];rcases h.1 with rfl|rfl<;>simp
theorem wB{x:Srt}(h:(x=⟨1,⟨#[]⟩⟩∨x=⟨2,⟨#[]⟩⟩∨x=⟨3,⟨#[]⟩⟩∨x=⟨4,⟨#[]⟩⟩)∨(x=⟨5,⟨#[]⟩⟩∨x=⟨6,⟨#[]⟩⟩)):Own (lJ x):=by
 rcases h with(rfl|rfl|rfl|rfl)|(rfl|rfl)<;>exact⟨⟨by decide,by kernel_rfl⟩,by decide⟩
theorem Oc{x:Srt}(h:x.kind=7):bK x=x.name:=by
 unfold bK;simp[h]
theorem wH:∀{t:List Srt},okP t=true->∀ x∈t,Own (lJ x)
 |[],h,x,hx=>by cases hx
 |[y],h,x,hx=>by
  simp only[List.mem_singleton]at hx;subst hx;rcases GL h with h1|⟨h7,hn⟩
  ·exact wB (.inl h1)
  ·unfold lJ
   rw[Oc h7];exact jP hn
 |y::z::l,h,x,hx=>by
  have h':(mid y&&okP (z::l))=true:=h;rw[xX]at h';rcases List.mem_cons.1 hx with rfl|hx
  ·exact wB (.inr (J3 h'.1))
  ·exact wH h'.2 x hx
def mD(l:List Tk.Tok):Prop:=∀ t∈l,Own t
theorem nS:mD []:=λt h=>by cases h
theorem bC{t:Tk.Tok}{l:List Tk.Tok}(h:Own t)(k:mD l):mD (t::l):=λu hu=>by
 rcases List.mem_cons.1 hu with rfl|hu
 ·exact h
 ·exact k u hu
theorem ql{a b:List Tk.Tok}(h:mD a)(k:mD b):mD (a++b):=λu hu=>(List.mem_append.1 hu).elim (h u) (k u)
theorem qy{α:Type}{f:α->List Tk.Tok}{l:List α}(h:∀ a∈l,mD (f a)):mD (l.flatMap f):=λu hu=>by
 obtain⟨a,ha,hu⟩:=List.mem_flatMap.1 hu;exact h a ha u hu
theorem Uu{f:Fld}(h:Tk.isName f.name=true/\okP f.type=true):mD (og f):=bC (jP h.1) (bC Rw (ql (λt ht=>by
 obtain⟨x,hx,rfl⟩:=List.mem_map.1 ht;exact wH h.2 x hx) (bC zh nS)))
theorem Ut{m:Mth}(h:OkM m):mD (qY m):=by
 refine bC ?_ (bC (jP h.nm) (bC Jm (bC (jP h.ar) (bC Gt (bC Rx (bC ?_ (ql ?_ (bC zh nS))))))))
 ·rcases h.ef with e|e|e<;>(rw[e];exact tC _ (kP (by decide +kernel)))
 ·rcases h.re with e|e<;>rw[e]
  ·exact wB (.inl (.inl rfl))
  ·exact wB (.inl (.inr (.inr (.inl rfl))))
 ·unfold rP
  split
  ·exact nS
  ·next hu =>
   rcases h.un with e|e
   ·exact absurd e hu
   ·exact bC (tC _ (kP (by decide +kernel))) (bC (jP e) nS)
theorem Us{p:Stp}(h:KU p):mD (qV p):=bC (tC _ (kP (by decide +kernel))) (bC (jP h.sv) (bC WZ (bC (jP h.me) (bC (tC _ (kP (by decide +kernel))) (bC (WY h.lo h.hi) (bC zh nS))))))
theorem Jl{x:Sch}(h:Ok x):mD (ji x):=by
 refine bC (tC _ (kP (by decide +kernel))) (bC (jP h.nm) (bC zh (ql (qy λr hr=>?_) (ql (qy λv hv=>?_) (qy λg hg=>?_)))))
 ·refine bC ?_ (bC (jP (h.rn r hr)) (bC D5 (ql (qy λf hf=>Uu (h.rf r hr f hf)) (bC Bo nS))))
  split<;>exact tC _ (kP (by decide +kernel))
 ·exact bC (tC _ (kP (by decide +kernel))) (bC (jP (h.vn v hv)) (bC D5 (ql (qy λm hm=>Ut (h.vm v hv m hm)) (bC Bo nS))))
 ·exact bC (tC _ (kP (by decide +kernel))) (bC (jP (h.gn g hg).1) (bC Jm (bC (jP (h.gn g hg).2) (bC Gt (bC D5 (ql (qy λp hp=>Us (h.gs g hg p hp)) (bC Bo nS)))))))
theorem KP{l:List Tk.Tok}(h:mD l)(hs:(jn (tx l)).size<=65536):Tk.all (jn (tx l))=(Tk.placed l 0,0,0) :=
 Tk.Tm (λt ht=>(h t ht).1) (by rw[Xp,Xo]) hs
theorem Rt{l:List Tk.Tok}(h:mD l):∀ u∈tx l,u.size<=32:=λu hu=>by
 obtain⟨t,ht,rfl⟩:=List.mem_map.1 hu;exact(h t ht).2
theorem uX{w k:ByteArray}(h:Tk.isName w=true)(hk:k∈Tk.words):(w.toList==k.toList)=false:=by
 unfold Tk.isName at h;simp only[xX,Bool.not_eq_true']at h;have h4:=h.1.2;unfold Tk.ru at h4;rw[List.any_eq_false]at h4;exact Bool.eq_false_iff.2 (h4 k hk)
theorem RV{w:ByteArray}(h:Tk.isName w=true){c:UInt8}(hc:Tk.cZ c.toNat=false):(w.toList==(⟨#[c]⟩:ByteArray).toList)=false:=by
 rw[xG];intro e;have e2:=Tk.text_eq e;subst e2;unfold Tk.isName at h;simp only[xX]at h;have h3:=h.1.1.2;rw[show Tk.byte ⟨#[c]⟩ 0=c.toNat from rfl,hc]at h3;cases h3
theorem zA(w k:ByteArray)(r:List Tk.Tok):is (nT w::r,false) k=(w.toList==k.toList):=by simp[is,nT]
theorem UN(w k:ByteArray)(r:List Tk.Tok):is (sT w::r,false) k=(w.toList==k.toList):=by simp[is,sT]
theorem Q5(w:ByteArray)(r:List Tk.Tok):want (nT w::r,false) w=(r,false):=by simp[want,zA]
theorem pI(w:ByteArray)(r:List Tk.Tok):want (sT w::r,false) w=(r,false):=by simp[want,UN]
theorem mM{w:ByteArray}(h:Tk.isName w=true)(r:List Tk.Tok):name (nT w::r,false)=(w,(r,false)):=by
 unfold name one;simp[nT,h]
theorem uT{ws:List ByteArray}{w:ByteArray}(h:ws.any (λx=>w.toList==x.toList)=true)(r:List Tk.Tok):words ws (nT w::r,false)=(w,(r,false)):=by
 unfold words one among;simp only[nT,h,and_self,if_true]
theorem Zy(n:Int)(r:List Tk.Tok):num (dT n::r,false)=(n.toNat,(r,false)):=by
 unfold num one;simp[dT]
theorem SQ{w:ByteArray}(h:Tk.isName w=true):endW w=0:=by
 have h1:=beq_eq_false_iff_ne.1 (uX h (k:=⟨#[110,111,110,101]⟩) (kP (by decide +kernel)));have h2:=beq_eq_false_iff_ne.1 (uX h (k:=⟨#[98,111,111,108]⟩) (kP (by decide +kernel)));have h3:=beq_eq_false_iff_ne.1 (uX h (k:=⟨#[105,110,116]⟩) (kP (by decide +kernel)));have h4:=beq_eq_false_iff_ne.1 (uX h (k:=⟨#[116,101,120,116]⟩) (kP (by decide +kernel)));rw[show(⟨#[110,111,110,101]⟩:ByteArray).toList=[110,111,110,101]by decide +kernel]at h1;rw[show(⟨#[98,111,111,108]⟩:ByteArray).toList=[98,111,111,108]by decide +kernel]at h2;rw[show(⟨#[105,110,116]⟩:ByteArray).toList=[105,110,116]by decide +kernel]at h3;rw[show(⟨#[116,101,120,116]⟩:ByteArray).toList=[116,101,120,116]by decide +kernel]at h4;unfold endW;rw[if_neg h1,if_neg h2,if_neg h3,if_neg h4]
theorem wu{f:Nat}{w:ByteArray}{k:Nat}(h1:(w.toList==iD.toList)=false)(h2:(w.toList==jM.toList)=false)(h3:endW w=k+1)(r:List Tk.Tok)(acc:List Srt):bG (f+1) (nT w::r,false) acc=(acc++[⟨k+1,⟨#[]⟩⟩],(r,false)):=by
 rw[bG];simp only[zA,h1,h2,Bool.false_eq_true,if_false];rw[if_pos (by simp[ends,nT,h3])];simp[head,nT,h3]
theorem AA:∀(t:List Srt)(f:Nat)(r:List Tk.Tok)(acc:List Srt),okP t=true->t.length<=f->bG f (t.map lJ++r,false) acc=(acc++t,(r,false))
 |[],f,r,acc,h,hf=>by cases h
 |[x],0,r,acc,h,hf=>by simp at hf
 |[x],f+1,r,acc,h,hf=>by
  rcases GL h with(rfl|rfl|rfl|rfl)|⟨h7,hn⟩
  ·exact wu (w:=dB) (by decide +kernel) (by decide +kernel) (k:=0) (by decide +kernel) r acc
  ·exact wu (w:=Ij) (by decide +kernel) (by decide +kernel) (k:=1) (by decide +kernel) r acc
  ·exact wu (w:=eX) (by decide +kernel) (by decide +kernel) (k:=2) (by decide +kernel) r acc
  ·exact wu (w:=wText) (by decide +kernel) (by decide +kernel) (k:=3) (by decide +kernel) r acc
  ·obtain⟨k,n⟩:=x
   simp only at h7 hn;subst h7;show bG (f+1) (nT n::r,false) acc=_
   rw[bG];simp only[zA,uX hn (k:=iD) (kP (by decide +kernel)),uX hn (k:=jM) (kP (by decide +kernel)),Bool.false_eq_true,if_false];rw[if_neg (by simp[ends,nT,SQ hn]),mM hn]
 |x::y::l,0,r,acc,h,hf=>by simp at hf
 |x::y::l,f+1,r,acc,h,hf=>by
  have h':(mid x&&okP (y::l))=true:=h;rw[xX]at h';rcases J3 h'.1 with rfl|rfl
  ·show bG (f+1) (nT iD::((y::l).map lJ++r),false) acc=_
   rw[bG];simp only[zA,show(iD.toList==iD.toList)=true by decide +kernel,Bool.false_eq_true,if_false,if_true,List.tail_cons];rw[AA (y::l) f r _ h'.2 (by simpa using hf)];simp
  ·show bG (f+1) (nT jM::((y::l).map lJ++r),false) acc=_
   rw[bG];simp only[zA,show(jM.toList==iD.toList)=false by decide +kernel,show(jM.toList==jM.toList)=true by decide +kernel,Bool.false_eq_true,if_false,if_true,List.tail_cons];rw[AA (y::l) f r _ h'.2 (by simpa using hf)];simp
theorem IB{t:List Srt}(h:okP t=true)(r:List Tk.Tok):sorts (t.map lJ++r,false)=(t,(r,false)):=by
 unfold sorts;rw[AA t _ r [] h (by simp;omega)];rfl
theorem Vp{f:Fld}(h:Tk.isName f.name=true/\okP f.type=true)(r:List Tk.Tok):field (og f++r,false)=(f,(r,false)):=by
 show field (nT f.name::sT gu::((f.type.map lJ++[sT aK])++r),false)=_
 unfold field;rw[mM h.1,pI,xU,IB h.2];simp only;rw[show[sT aK]++r=sT aK::r from rfl,pI]
theorem Tj{a:ByteArray}(h:Tk.isName a=true)(r:List Tk.Tok):arg (sT eH::nT a::sT dK::r,false)=(a,(r,false)):=by
 unfold arg;rw[pI,mM h];simp only;rw[pI]
theorem step_ok{p:Stp}(h:KU p)(r:List Tk.Tok):Id.step (qV p++r,false)=(p,(r,false)):=by
 show Id.step (nT wDo::nT p.service::sT jU::nT p.method::nT wAt::dT p.at_::sT aK::r,false)=_
 unfold Id.step;simp only[Q5,mM h.sv,pI,mM h.me,Zy];obtain⟨a,b,c⟩:=p;have:=h.lo;simp only at this ⊢;rw[Int.toNat_of_nonneg this]
theorem RY{m:Mth}(h:OkM m)(r:List Tk.Tok):Id.method (qY m++r,false)=(m,(r,false)):=by
 show Id.method (nT m.effect::nT m.name::sT eH::nT m.arg::sT dK::sT dA::nT (bK ⟨m.result,⟨#[]⟩⟩)::((rP m++[sT aK])++r),false)=_
 have he:[dJ,dH,dI].any (λx=>m.effect.toList==x.toList)=true:=by rcases h.ef with e|e|e<;>(rw[e];decide +kernel)
 have hr:[eX,dB].any (λx=>(bK ⟨m.result,⟨#[]⟩⟩).toList==x.toList)=true/\endW (bK ⟨m.result,⟨#[]⟩⟩)=m.result:=by rcases h.re with e|e<;>(rw[e];decide +kernel)
 unfold Id.method;simp only[uT he,mM h.nm,Tj h.ar,pI,uT hr.1,hr.2];obtain⟨mn,ma,mr,me,mu⟩:=m;simp only at *;rcases h.un with e|e
 ·have e0:=empty_of e
  simp only at e0;subst e0;rw[show rP (⟨mn,ma,mr,me,⟨#[]⟩⟩:Mth)=[]from by unfold rP;rw[if_pos (show(⟨#[]⟩:ByteArray).toList.isEmpty=true by decide +kernel)]];show _=_
  rw[yI,show[sT aK]++r=sT aK::r from rfl];have ht:take (sT aK::r,false) bU=(false,(sT aK::r,false)):=by
   unfold take;rw[UN,show(aK.toList==bU.toList)=false by decide +kernel];rfl
  simp only[ht,Bool.false_eq_true,if_false,pI]
 ·have hne:mu.toList.isEmpty=false:=by
   cases hh:mu.toList.isEmpty
   ·rfl
   ·have e0:=empty_of hh
    simp only at e e0;rw[e0]at e;exact absurd e (by decide +kernel)
  rw[show rP (⟨mn,ma,mr,me,mu⟩:Mth)=[nT bU,nT mu]from by unfold rP;simp only[hne,Bool.false_eq_true,if_false]];show _=_
  rw[show[nT bU,nT mu]++[sT aK]++r=nT bU::nT mu::sT aK::r from rfl];have ht:take (nT bU::nT mu::sT aK::r,false) bU=(true,(nT mu::sT aK::r,false)):=by
   unfold take;rw[zA,show(bU.toList==bU.toList)=true by decide +kernel];rfl
  simp only[ht,if_true,mM e,pI]
theorem Ed{α:Type}{read:St->α × St}{T:α->List Tk.Tok}:∀(l:List α)(f:Nat)(r:List Tk.Tok)(acc:List α),(∀ a∈l,∀ q,is (T a++q,false) aJ=false/\read (T a++q,false)=(a,(q,false)))->l.length<f ->
  aU read f (l.flatMap T++sT aJ::r,false) acc=(acc++l,(r,false))
 |[],0,r,acc,h,hf=>by simp at hf
 |[],f+1,r,acc,h,hf=>by
  show aU read (f+1) (sT aJ::r,false) acc=_
  rw[aU,UN,show(aJ.toList==aJ.toList)=true by decide +kernel];simp
 |a::l,0,r,acc,h,hf=>by simp at hf
 |a::l,f+1,r,acc,h,hf=>by
  obtain⟨h1,h2⟩:=h a (by simp) (l.flatMap T++sT aJ::r);rw[yJ,xU,aU,h1,h2];simp only[Bool.false_eq_true,if_false];rw[Ed l f r _ (λb hb=>h b (by simp[hb])) (by simpa using hf)];simp
theorem rY{α β:Type}{T:α->List β}{l:List α}(h:∀ a∈l,1<=(T a).length):l.length<=(l.flatMap T).length:=by
 induction l with
 |nil=>simp
 |cons a l ih =>
  rw[yJ,xI,xJ];have:=h a (by simp);have:=ih (λb hb=>h b (by simp[hb]));omega
theorem Am{α:Type}{read:St->α × St}{T:α->List Tk.Tok}{l:List α}(h:∀ a∈l,∀ q,is (T a++q,false) aJ=false/\read (T a++q,false)=(a,(q,false)))(hl:∀ a∈l,1<=(T a).length)(r:List Tk.Tok) :
  within read (sT aN::((l.flatMap T++[sT aJ])++r),false)=(l,(r,false)):=by
 unfold within;rw[pI,xU];have:=rY hl;show aU read _ (l.flatMap T++sT aJ::r,false) []=_
 rw[Ed l _ r [] h (by simp only[xI,xJ];omega)];rfl
theorem QW{x:Rec}(h1:Tk.isName x.name=true)(h2:∀ f∈x.fields,Tk.isName f.name=true/\okP f.type=true)(r:List Tk.Tok)(y:Sch):(round (uo x++r,false)).1 y={ y with records:=y.records++[x] }/\(round (uo x++r,false)).2=(r,false):=by
 obtain⟨xn,xc,xf⟩:=x;simp only at h1 h2;have hw:within field (sT aN::((xf.flatMap og++[sT aJ])++r),false)=(xf,(r,false)):=Am (λf hf q=>⟨(zA f.name aJ _).trans (RV (h2 f hf).1 (by decide)),Vp (h2 f hf) q⟩) (λf _=>by simp[og]) r;cases xc
 ·have hws:words decls (nT fE::nT xn::sT aN::((xf.flatMap og++[sT aJ])++r),false)=(fE,(nT xn::sT aN::((xf.flatMap og++[sT aJ])++r),false)):=uT (by decide +kernel) _
  show(round (nT fE::nT xn::sT aN::((xf.flatMap og++[sT aJ])++r),false)).1 y=_/\(round (nT fE::nT xn::sT aN::((xf.flatMap og++[sT aJ])++r),false)).2=_
  unfold round;rw[hws];dsimp only;rw[if_pos (by decide +kernel)];unfold record;rw[mM h1];simp only[hw,and_self]
 ·have hws:words decls (nT fF::nT xn::sT aN::((xf.flatMap og++[sT aJ])++r),false)=(fF,(nT xn::sT aN::((xf.flatMap og++[sT aJ])++r),false)):=uT (by decide +kernel) _
  show(round (nT fF::nT xn::sT aN::((xf.flatMap og++[sT aJ])++r),false)).1 y=_/\(round (nT fF::nT xn::sT aN::((xf.flatMap og++[sT aJ])++r),false)).2=_
  unfold round;rw[hws];dsimp only;rw[if_neg (by decide +kernel),if_pos (by decide +kernel)];unfold record;rw[mM h1];simp only[hw,and_self]
theorem JY{m:Mth}(h:OkM m):(m.effect.toList==aJ.toList)=false:=by rcases h.ef with e|e|e<;>(rw[e];decide +kernel)
theorem QU{x:Svc}(h1:Tk.isName x.name=true)(h2:∀ m∈x.methods,OkM m)(r:List Tk.Tok)(y:Sch):(round (ug x++r,false)).1 y={ y with services:=y.services++[x] }/\(round (ug x++r,false)).2=(r,false):=by
 obtain⟨xn,xf⟩:=x;simp only at h1 h2;have hw:within Id.method (sT aN::((xf.flatMap qY++[sT aJ])++r),false)=(xf,(r,false)):=Am (λm hm q=>⟨(zA m.effect aJ _).trans (JY (h2 m hm)),RY (h2 m hm) q⟩) (λm _=>by simp[qY]) r;have hws:words decls (nT dW::nT xn::sT aN::((xf.flatMap qY++[sT aJ])++r),false)=(dW,(nT xn::sT aN::((xf.flatMap qY++[sT aJ])++r),false)):=uT (by decide +kernel) _;show(round (nT dW::nT xn::sT aN::((xf.flatMap qY++[sT aJ])++r),false)).1 y=_/\(round (nT dW::nT xn::sT aN::((xf.flatMap qY++[sT aJ])++r),false)).2=_
 unfold round;rw[hws];dsimp only;rw[if_neg (by decide +kernel),if_neg (by decide +kernel),if_pos (by decide +kernel)];unfold service;rw[mM h1];simp only[hw,and_self]
theorem QV{x:Sag}(h1:Tk.isName x.name=true/\Tk.isName x.arg=true)(h2:∀ p∈x.steps,KU p)(r:List Tk.Tok)(y:Sch):(round (um x++r,false)).1 y={ y with sagas:=y.sagas++[x] }/\(round (um x++r,false)).2=(r,false):=by
 obtain⟨xn,xa,xf⟩:=x;simp only at h1 h2;have hw:within Id.step (sT aN::((xf.flatMap qV++[sT aJ])++r),false)=(xf,(r,false)):=Am (λm hm q=>⟨(zA wDo aJ _).trans (by decide +kernel),step_ok (h2 m hm) q⟩) (λm _=>by simp[qV]) r;have hws:words decls (nT iR::nT xn::sT eH::nT xa::sT dK::sT aN::((xf.flatMap qV++[sT aJ])++r),false)=(iR,(nT xn::sT eH::nT xa::sT dK::sT aN::((xf.flatMap qV++[sT aJ])++r),false)):=uT (by decide +kernel) _;show(round (nT iR::nT xn::sT eH::nT xa::sT dK::sT aN::((xf.flatMap qV++[sT aJ])++r),false)).1 y=_/\(round (nT iR::nT xn::sT eH::nT xa::sT dK::sT aN::((xf.flatMap qV++[sT aJ])++r),false)).2=_
 unfold round;rw[hws];dsimp only;rw[if_neg (by decide +kernel),if_neg (by decide +kernel),if_neg (by decide +kernel),if_pos (by decide +kernel)];unfold saga;rw[mM h1.1];simp only[Tj h1.2,hw,and_self]
theorem kF{f:Nat}{T r:List Tk.Tok}{x y:Sch}(hT:T≠[])(h:(round (T++r,false)).1 x=y/\(round (T++r,false)).2=(r,false)):aF (f+1) (T++r,false) x=aF f (r,false) y:=by
 rw[je,if_neg (by simp[hT]),h.1,h.2]
theorem AU:∀(l:List Rec)(f:Nat)(r:List Tk.Tok)(y:Sch),(∀ x∈l,Tk.isName x.name=true/\∀ f∈x.fields,Tk.isName f.name=true/\okP f.type=true)->aF (l.length+f) (l.flatMap uo++r,false) y=aF f (r,false) { y with records:=y.records++l }
 |[],f,r,y,h=>by simp
 |x::l,f,r,y,h=>by
  rw[yJ,xU,show(x::l).length+f=(l.length+f)+1 by simp;omega,
   kF (by simp[uo]) (QW (h x (by simp)).1 (h x (by simp)).2 _ y),AU l f r _ (λa ha=>h a (by simp[ha]))]
  simp
theorem AP:∀(l:List Svc)(f:Nat)(r:List Tk.Tok)(y:Sch),(∀ x∈l,Tk.isName x.name=true/\∀ m∈x.methods,OkM m)->aF (l.length+f) (l.flatMap ug++r,false) y=aF f (r,false) { y with services:=y.services++l }
 |[],f,r,y,h=>by simp
 |x::l,f,r,y,h=>by
  rw[yJ,xU,show(x::l).length+f=(l.length+f)+1 by simp;omega,
   kF (by simp[ug]) (QU (h x (by simp)).1 (h x (by simp)).2 _ y),AP l f r _ (λa ha=>h a (by simp[ha]))]
  simp
theorem AQ:∀(l:List Sag)(f:Nat)(r:List Tk.Tok)(y:Sch),(∀ x∈l,(Tk.isName x.name=true/\Tk.isName x.arg=true)/\∀ p∈x.steps,KU p)->aF (l.length+f) (l.flatMap um++r,false) y=aF f (r,false) { y with sagas:=y.sagas++l }
 |[],f,r,y,h=>by simp
 |x::l,f,r,y,h=>by
  rw[yJ,xU,show(x::l).length+f=(l.length+f)+1 by simp;omega,
   kF (by simp[um]) (QV (h x (by simp)).1 (h x (by simp)).2 _ y),AQ l f r _ (λa ha=>h a (by simp[ha]))]
  simp
theorem QN{x:Sch}(h:Ok x):schema (ji x,false)=(x,([],false)):=by
 unfold schema ji;simp only[Q5,mM h.nm,pI];have l1:=rY (T:=uo) (l:=x.records) (λa _=>by simp[uo]);have l2:=rY (T:=ug) (l:=x.services) (λa _=>by simp[ug]);have l3:=rY (T:=um) (l:=x.sagas) (λa _=>by simp[um]);obtain⟨f,hf⟩:∃ f,(x.records.flatMap uo++(x.services.flatMap ug++x.sagas.flatMap um)).length+2=x.records.length+(x.services.length+(x.sagas.length+f)):=⟨(x.records.flatMap uo++(x.services.flatMap ug++x.sagas.flatMap um)).length+2 - x.records.length - x.services.length - x.sagas.length,by simp only[xI];omega⟩;rw[hf,AU _ _ _ _ (λr hr=>⟨h.rn r hr,h.rf r hr⟩),AP _ _ _ _ (λv hv=>⟨h.vn v hv,h.vm v hv⟩)];have:=AQ x.sagas f [] ⟨x.name,[]++x.records,[]++x.services,[]⟩ (λg hg=>⟨h.gn g hg,h.gs g hg⟩);rw[List.append_nil]at this;rw[this,pO];simp
theorem Je:∀(l:List Tk.Tok)(k:Nat),(Tk.placed l k).map z=l.map z
 |[],_=>rfl
 |t::l,k=>by
  show z _::(Tk.placed l _).map z=z t::l.map z
  rw[Je l];rfl
theorem Zh{t:Tk.Tok}(h:t.at_=0):z t=t:=by
 obtain⟨a,b,c,d⟩:=t;simp only at h;subst h;rfl
theorem VU:∀{l:List Tk.Tok},(∀ t∈l,t.at_=0)->l.map z=l
 |[],_=>rfl
 |t::l,h=>by rw[List.map_cons,Zh (h t (by simp)),VU (λu hu=>h u (by simp[hu]))]
theorem uZ{α:Type}{f:α->List Tk.Tok}{l:List α}(h:∀ a∈l,∀ t∈f a,t.at_=0):∀ t∈l.flatMap f,t.at_=0:=λt ht=>by
 obtain⟨a,ha,ht⟩:=List.mem_flatMap.1 ht;exact h a ha t ht
theorem KL(l:List Srt):∀ t∈l.map lJ,t.at_=0:=λt ht=>by
 obtain⟨a,_,rfl⟩:=List.mem_map.1 ht;rfl
theorem XZ(x:Sch):∀ t∈ji x,t.at_=0:=by
 have hf:∀ f:Fld,∀ t∈og f,t.at_=0:=λf t ht=>by
  simp only[og,yH,List.mem_append,List.not_mem_nil,or_false]at ht;rcases ht with rfl|rfl|ht|rfl
  ·rfl
  ·rfl
  ·exact KL _ t ht
  ·rfl
 have hm:∀ m:Mth,∀ t∈qY m,t.at_=0:=λm t ht=>by
  simp only[qY,rP,yH,List.mem_append,List.not_mem_nil,or_false]at ht;rcases ht with rfl|rfl|rfl|rfl|rfl|rfl|rfl|ht|rfl
  ·rfl
  ·rfl
  ·rfl
  ·rfl
  ·rfl
  ·rfl
  ·rfl
  ·split at ht
   ·cases ht
   ·simp only[yH,List.not_mem_nil,or_false]at ht
    rcases ht with rfl|rfl<;>rfl
  ·rfl
 have hp:∀ p:Stp,∀ t∈qV p,t.at_=0:=λp t ht=>by
  simp only[qV,yH,List.not_mem_nil,or_false]at ht;rcases ht with rfl|rfl|rfl|rfl|rfl|rfl|rfl<;>rfl
 intro t ht;simp only[ji,yH,List.mem_append]at ht;rcases ht with rfl|rfl|rfl|ht|ht|ht
 ·rfl
 ·rfl
 ·rfl
 ·refine uZ (λr _ t ht=>?_) t ht
  simp only[uo,yH,List.mem_append,List.not_mem_nil,or_false]at ht;rcases ht with rfl|rfl|rfl|ht|rfl
  ·rfl
  ·rfl
  ·rfl
  ·exact uZ (λf _=>hf f) t ht
  ·rfl
 ·refine uZ (λr _ t ht=>?_) t ht
  simp only[ug,yH,List.mem_append,List.not_mem_nil,or_false]at ht;rcases ht with rfl|rfl|rfl|ht|rfl
  ·rfl
  ·rfl
  ·rfl
  ·exact uZ (λf _=>hm f) t ht
  ·rfl
 ·refine uZ (λr _ t ht=>?_) t ht
  simp only[um,yH,List.mem_append,List.not_mem_nil,or_false]at ht;rcases ht with rfl|rfl|rfl|rfl|rfl|rfl|ht|rfl
  ·rfl
  ·rfl
  ·rfl
  ·rfl
  ·rfl
  ·rfl
  ·exact uZ (λf _=>hp f) t ht
  ·rfl
theorem CV{α:Type}{read:St->α × St}(hz:∀ s,read (zs s)=((read s).1,zs (read s).2)){l:List Tk.Tok}(h0:∀ t∈l,t.at_=0){a:α}(h:read (l,false)=(a,([],false))):read (Tk.placed l 0,false)=(a,([],false)):=by
 have h1:=hz (Tk.placed l 0,false);rw[show zs (Tk.placed l 0,false)=(l,false)from by unfold zs;rw[Je,VU h0],h]at h1;obtain⟨⟨b,q,e⟩,hb⟩:∃ p,read (Tk.placed l 0,false)=p:=⟨_,rfl⟩;rw[hb]at h1 ⊢;unfold zs at h1;simp only[Prod.mk.injEq]at h1;obtain⟨h2,h3,h4⟩:=h1;rw[<-h2,<-h4,List.map_eq_nil_iff.1 h3.symm]
theorem OI{x:Sch}(h:Ok x)(hs:(jn (iW x)).size<=65536):parse (jn (iW x))=(x,0,0):=by
 have ha:=KP (Jl h) (by rw[IG];exact hs);rw[IG]at ha;exact Jh ha (CV TT (XZ x) (QN h))
theorem mP{x:Sch}(h:Right x):Ok x:=by
 obtain⟨hn,hc,hd,ht,hb,he,hu,hg,hs,hw⟩:=wF.1 h;unfold namesT at hn;simp only[yH,List.mem_append,forall_eq_or_imp]at hn;obtain⟨n0,n1⟩:=hn;have nr:∀ r∈x.records,Tk.isName r.name=true/\∀ f∈r.fields,Tk.isName f.name=true:=λr hr=>by
  have k:=λt (ht:t∈nY r)=>n1 t (.inl (List.mem_flatMap.2 ⟨r,hr,ht⟩))
  exact⟨k (nm r.name) (by simp[nY]),λf hf=>k (nm f.name) (by unfold nY;exact List.mem_cons_of_mem _ (List.mem_flatMap.2 ⟨f,hf,by simp[BA]⟩))⟩
 have nv:∀ v∈x.services,Tk.isName v.name=true/\∀ m∈v.methods,Tk.isName m.name=true:=λv hv=>by
  have k:=λt (ht:t∈jr v)=>n1 t (.inr (.inl (List.mem_flatMap.2 ⟨v,hv,ht⟩)))
  exact⟨k (nm v.name) (by simp[jr]),λf hf=>k (nm f.name) (by unfold jr;exact List.mem_cons_of_mem _ (List.mem_flatMap.2 ⟨f,hf,by simp[Bz]⟩))⟩
 have ng:∀ g∈x.sagas,Tk.isName g.name=true:=λg hg=>n1 (nm g.name) (.inr (.inr (List.mem_flatMap.2 ⟨g,hg,by simp[jc]⟩)))
 have fnd:∀ w:ByteArray,(find x w).isSome=true->Tk.isName w=true:=λw hw=>by
  obtain⟨r,hr⟩:=Option.isSome_iff_exists.1 hw;have h1:=List.find?_some hr;have h2:=List.mem_of_find?_eq_some hr;have e:r.name=w:=Tk.text_eq (by simpa using h1);rw[<-e];exact(nr r h2).1
 have ord:∀ w:ByteArray,order x w=true->Tk.isName w=true:=λw hw=>by
  refine fnd w ?_;unfold order at hw;split at hw
  ·cases hw
  ·next hf=>rw[hf];rfl
 have okt:∀ t:List Srt,okT x t=true->okP t=true:=by
  intro t;induction t with
  |nil=>intro h;cases h
  |cons a t ih =>
   intro h;cases t with
   |nil =>
    have h':fin x a=true:=h;show wW a=true
    unfold fin at h';unfold wW;split at h'
    next hk=>rw[if_pos hk];exact h'
    next hk =>
     rw[if_neg hk];split at h'
     next h7=>rw[if_pos h7];exact fnd _ h'
     next=>cases h'
   |cons b t =>
    have h':(mid a&&okT x (b::t))=true:=h;rw[xX]at h';show(mid a&&okP (b::t))=true
    rw[xX];exact⟨h'.1,ih h'.2⟩
 have ms:∀ v∈x.services,∀ m∈v.methods,(m.result=1∨m.result=3)/\(contrary m.effect).toList.isEmpty=false/\order x m.arg=true/\(m.undo.toList.isEmpty=true∨mF x v.name m=true):=λv hv m hm=>by
  have k1:=ht (m.result==3||m.result==1,Chk.part v.name m.name) (by unfold nI;exact List.mem_append_right _ (List.mem_flatMap.2 ⟨v,hv,List.mem_flatMap.2 ⟨m,hm,by simp[pJ]⟩⟩));have k2:=he (!(contrary m.effect).toList.isEmpty&&order x m.arg,Chk.part v.name m.name) (List.mem_flatMap.2 ⟨v,hv,List.mem_flatMap.2 ⟨m,hm,by simp[oq]⟩⟩);have k3:=hu (m.undo.toList.isEmpty||mF x v.name m,Chk.part v.name m.name) (List.mem_flatMap.2 ⟨v,hv,List.mem_flatMap.2 ⟨m,hm,by simp[fC]⟩⟩);simp only[Bool.or_eq_true,beq_iff_eq]at k1;simp only[xX,Bool.not_eq_true']at k2;simp only[Bool.or_eq_true]at k3;exact⟨k1.symm,k2.1,k2.2,k3⟩
 have mth:∀ a b m,meth x a b=some m->Tk.isName a=true/\Tk.isName b=true:=λa b m hm=>by
  obtain⟨v,hv,e,hmv⟩:=UC hm;refine⟨by rw[<-Tk.text_eq e];exact(nv v hv).1,?_⟩;unfold meth at hm;split at hm
  ·cases hm
  ·have h1:=List.find?_some hm
   have e2:m.name=b:=Tk.text_eq (by simpa using h1);rw[<-e2];exact(nv v hv).2 m hmv
 refine⟨n0,λr hr=>(nr r hr).1,λr hr f hf=>⟨(nr r hr).2 f hf,?_⟩,λv hv=>(nv v hv).1,λv hv m hm=>?_,λg hg'=>⟨ng g hg',?_⟩,λg hg' p hp=>?_⟩
 ·have k:=ht (right x f.type,Chk.part r.name f.name) (by unfold nI;exact List.mem_append_left _ (List.mem_flatMap.2 ⟨r,hr,List.mem_flatMap.2 ⟨f,hf,by simp[yc]⟩⟩))
  simp only at k;unfold right at k;rw[xX]at k;exact okt _ k.2
 ·obtain⟨k1,k2,k3,k4⟩:=ms v hv m hm
  refine⟨?_,(nv v hv).2 m hm,ord _ k3,k1,?_⟩
  ·unfold contrary at k2
   by_cases e1:m.effect.toList=dJ.toList
   ·exact .inl (Tk.text_eq e1)
   ·rw[if_neg e1]at k2
    by_cases e2:m.effect.toList=dH.toList
    ·exact .inr (.inl (Tk.text_eq e2))
    ·rw[if_neg e2]at k2
     by_cases e3:m.effect.toList=dI.toList
     ·exact .inr (.inr (Tk.text_eq e3))
     ·rw[if_neg e3]at k2
      exact absurd k2 (by decide +kernel)
  ·refine k4.imp id λk=>?_
   unfold mF at k;split at k
   ·cases k
   ·next u hu'=>exact(mth _ _ _ hu').2
 ·have k:=hg (order x g.arg,g.name) (List.mem_flatMap.2 ⟨g,hg',by simp⟩)
  exact ord _ k
 ·obtain⟨k,hk,rfl⟩:=List.getElem_of_mem hp
  have hz:(g.steps[k],k)∈g.steps.zipIdx:=by
   rw[List.mem_iff_getElem];exact⟨k,by rw[List.length_zipIdx];exact hk,by rw[List.getElem_zipIdx,Nat.zero_add]⟩
  have h1:=hs (pK x g.arg g.steps[k],nth g.name k) (List.mem_flatMap.2 ⟨g,hg',List.mem_flatMap.2 ⟨_,hz,by simp[kN]⟩⟩);simp only at h1;unfold pK at h1;split at h1
  ·cases h1
  ·next m hm =>
   unfold stepOf at h1;simp only[xX,decide_eq_true_eq]at h1;exact⟨(mth _ _ _ hm).1,(mth _ _ _ hm).2,h1.1.2,h1.2⟩
end Prn
