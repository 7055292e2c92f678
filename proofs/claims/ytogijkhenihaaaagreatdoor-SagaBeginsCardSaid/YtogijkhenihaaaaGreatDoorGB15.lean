import Derived.Test.YtogijkhenihaaaaGreatDoorGB13
import Derived.Test.YtogijkhenihaaaaGreatDoorGB14
set_option linter.all false
set_option maxRecDepth 100000
set_option maxHeartbeats 0
namespace Go.Proofs.YtogijkhenihaaaaGreatDoor
open Lib (hid)
open Go.BigFrame Go.RowKit
namespace Chk
open Id
def jg(rn:ByteArray):List ByteArray->List ByteArray->List Test
 |[],_=>[]
 |y::l,own=>(!bD own y,part rn y)::jg rn l (own++[y])
def qR:List Sag->List ByteArray->List Test
 |[],_=>[]
 |g::l,seen=>(!bD seen g.name,g.name)::qR l (seen++[g.name])
def lN:List Svc->List Sag->List ByteArray->List Test
 |[],gs,seen=>qR gs seen
 |v::l,gs,seen=>(!bD seen v.name,v.name)::(jg v.name (v.methods.map (·.name)) []++lN l gs (seen++[v.name]))
def lQ:List Rec->List Svc->List Sag->List ByteArray->List Test
 |[],vs,gs,seen=>lN vs gs seen
 |r::l,vs,gs,seen=>(!bD seen r.name,r.name)::(jg r.name (r.fields.map (·.name)) []++lQ l vs gs (seen++[r.name]))
def eX(x:Sch):List Test:=lQ x.records x.services x.sagas []
theorem D5{α:Type}(rn:ByteArray)(nm:α->ByteArray){l:List α}{k:Nat}(h:k<l.length)(own:List ByteArray):jg rn ((l.drop k).map nm) own=(!bD own (nm l[k]),part rn (nm l[k]))::jg rn ((l.drop (k+1)).map nm) (own++[nm l[k]]):=by
 rw[xQ h];rfl
theorem Nq{l:List Sag}{k:Nat}(h:k<l.length)(seen:List ByteArray):qR (l.drop k) seen=(!bD seen l[k].name,l[k].name)::qR (l.drop (k+1)) (seen++[l[k].name]):=by
 rw[xQ h];rfl
theorem Nl{l:List Svc}{k:Nat}(h:k<l.length)(gs:List Sag)(seen:List ByteArray):lN (l.drop k) gs seen=(!bD seen l[k].name,l[k].name)::(jg l[k].name (l[k].methods.map (·.name)) []++lN (l.drop (k+1)) gs (seen++[l[k].name])):=by
 rw[xQ h];rfl
theorem Np{l:List Rec}{k:Nat}(h:k<l.length)(vs:List Svc)(gs:List Sag)(seen:List ByteArray):lQ (l.drop k) vs gs seen=(!bD seen l[k].name,l[k].name)::(jg l[k].name (l[k].fields.map (·.name)) []++lQ (l.drop (k+1)) vs gs (seen++[l[k].name])):=by
 rw[xQ h];rfl
theorem In.fresh{w0 w wr w':World}{f m:Nat}{S:Array Value}(h:In w0 w wr f S)(hg:wr.grownBy w' (some m))(hm:w.heap.size<m):In w0 w w' f S :=
 ⟨jr h.b0 hg (by have:=h.lo;have:=h.hi;omega) h.b0.size,⟨hg.os.trans h.gb.os,hg.tape.trans h.gb.tape,hg.output.trans h.gb.output,xM h.gb.size hg.size,λi hi hne=>(hg.block i (Nat.lt_of_lt_of_le hi h.gb.size) (by intro e;injection e with e;omega)).trans (h.gb.block i hi hne)⟩,h.box.grown hg (by intro e;injection e with e;omega),h.lo,h.hi⟩
theorem Fb.fresh{w0 w wr w':World}{f m:Nat}{S:Array Value}{cur:Flt}(hf:Fb wr f cur)(h:In w0 w wr f S)(hg:wr.grownBy w' (some m))(hm:w.heap.size<m):Fb w' f cur:=Bk.grown hf hg (by have:=h.hi;intro e;injection e with e;omega)
theorem Cnt.ne{wr:World}{m g:Nat}{seen:List ByteArray}{t:TypeId}{cs:Array Value}(h:Cnt wr m seen)(hg:Bk wr g t cs):some g≠some m:=by
 intro e;injection e with e
 subst e;obtain⟨D,⟨es,clock,hb,_⟩,_⟩:=h;unfold Bk at hg;rw[hg]at hb;injection hb with hb
 cases hb
end Chk
theorem FU(v:Value)(x:Id.Sch)(hF:Chk.Mid x)(f:Nat)(cur:Chk.Flt)(w0 w:World)(hkw:Tk.KW w0)(hv:Id.ay w0 none v x)(hb:Below w0.heap.size w0 w)(hlo:w0.heap.size<=f)(hf:Chk.Fb w f cur) :
  Calls Tryz.prog 40 #[v,.pointer (some ⟨f,0,none⟩)] w λe w'=>e=.returned (.tuple #[])/\w.grownBy w' (some f)/\Chk.Fb w' f (Chk.run 130 (Chk.eX x) cur):=by
 obtain⟨R,HR⟩:∃ R,Hid (Chk.run 130 (Chk.eX x) cur=R):=⟨_,hid rfl⟩;rw[HR.out];have HS:Hid (Chk.run 130 (Chk.lQ (x.records.drop 0) x.services x.sagas []) cur=R):=hid (by rw[<-HR.out];rfl);have HV:=hid hv;have HKW:=hid hkw;have dA:=hid hF;obtain⟨A1,n1,c1,A2,n2,c2,A3,n3,c3,rfl,r1,r2,r3⟩:=hv;have hn1:n1=x.records.length:=by obtain⟨_,_,e,_⟩:=ah.slice r1;injection e
 have hn2:n2=x.services.length:=by obtain⟨_,_,e,_⟩:=ah.slice r2;injection e
 have hn3:n3=x.sagas.length:=by obtain⟨_,_,e,_⟩:=ah.slice r3;injection e
 have hm1:n1<=10000:=by rw[hn1];exact hF.recs
 have hm2:n2<=10000:=by rw[hn2];exact hF.kU
 have hm3:n3<=10000:=by rw[hn3];exact hF.kV
 have HN1:=hid hn1;have H1:=hid r1;have HN2:=hid hn2;have H2:=hid r2;have HN3:=hid hn3;have H3:=hid r3;have HF0:=hid hf;have HB0:=hid hb;clear r1 r2 r3 hn1 hn2 hn3 hf hb hkw hF HR;go_enter Tryz.func40,Tryz.ntmps40;go_upto_region 1 with(fail)
 refine aj (λW0 hW0=>?_);have HI:=hid (Chk.In.start HB0.out hlo (Bk.lt HF0.out) hW0);have HFb:=hid (Chk.Fb.start HF0.out hW0);clear hW0;obtain⟨S,bf⟩:∃ S:Array Value,Hid (S=#[.string x.name,.slice A1 n1 c1,.slice A2 n2 c2,.slice A3 n3 c3]):=⟨_,hid rfl⟩;rw[<-bf.out]at HI;have hmm:=@run_makeMap Tryz.prog;obtain⟨⟨q0,q1,q2,q3⟩,-⟩:=(Chk.fC bf.out HI.out _ (Bl.refl _)).k4;go_upto_region 2 with(fail)
 refine aj (λV0 hV0=>?_);obtain⟨mb,J9⟩:∃ mb,mb=W0.heap.size:=⟨_,rfl⟩;have yu:w.heap.size<mb:=by rw[J9];have:=HI.out.size;omega
 have hc0:Chk.Cnt V0 mb []:=by subst hV0 J9;exact Chk.Cnt.made W0
 have hb0:Below W0.heap.size W0 V0:=by subst hV0;exact(Below.refl _ _).alloc (xB _) _
 clear hV0 q0 q1 q2 q3;rw[<-J9];replace HI:=hid (HI.out.below hb0);replace HFb:=hid (HFb.out.below hb0);have HMA:=hid hc0;clear hc0 hb0 J9;obtain⟨⟨q0,q1,q2,q3⟩,-⟩:=(Chk.fC bf.out HI.out _ (Bl.refl _)).k4;go_wp2_with fail;clear q0 q1 q2 q3;go_loopw [21] (λi wr=>∃(k:Nat)(cu:Chk.Flt)(seen:List ByteArray),k<=n1/\i=.int .i64 k/\Hid (Chk.run 130 (Chk.lQ ((x.records).drop k) x.services x.sagas seen) cu=R)/\seen.length<=0+k/\Hid (Chk.In w0 w wr f S)/\Hid (Chk.Fb wr f cu)/\Hid (Chk.Cnt wr mb seen)) (λi _=>n1 - (intOf i).toNat)
 case atStart=>exact⟨0,_,[],by omega,rfl,HS,by first|omega|(simp;done)|(simp;omega),HI,HFb,HMA⟩
 case round =>
  clear HI HFb HS HMA  ;obtain⟨k1,cu1,fZ,hk1,rfl,HK,hsl1,HI,HFb,HMA⟩:=hrel;obtain⟨W1,rfl⟩:∃ w',w'=wr:=⟨_,rfl⟩;by_cases hlt1:k1<n1
  case pos =>
   have hka:k1<(x.records).length:=by rw[<-HN1.out];exact hlt1
   obtain⟨g1,off1,cs,rfl,-,he,hc⟩:=ah.get H1.out hka (by omega);have HD:=HK.out;rw[Chk.Np hka]at HD;have hfi:=dA.out.re _ (xR hka);generalize(x.records)[k1]=r at *;obtain⟨rn,rc,rf⟩:=r;obtain⟨u,rfl,HU⟩:=he;simp only at HU hc HD hfi;obtain⟨A5,n5,c5,rfl⟩:=ah.is HU;have hn5:n5=rf.length:=by obtain⟨_,_,e,_⟩:=ah.slice HU;injection e
   have hm5:n5<=10000:=by rw[hn5];exact xM hfi.2.1 (by decide)
   have HN5:=hid hn5;have H5:=hid HU;clear HU hn5;have bI:=hid hfi;have HD1:=hid HD;have hB:=HI.out.b0;have a0:=hc 0 _ rfl;have a1:=hc 1 _ rfl;have a2:=hc 2 _ rfl;have aC:g1<w0.heap.size:=xH w0 _ a0;have a0:=(hB.cell aC).trans a0;have a1:=(hB.cell aC).trans a1;have a2:=(hB.cell aC).trans a2;simp only[xK]at a0;have i10:(0:Int)<=(k1:Int):=by omega
   have i11:(k1:Int)<(n1:Int):=by omega
   have hbw:=hB.size;have hgw1:¬g1=W1.heap.size:=by omega
   clear hc hB hka HD HK hfi hbw;go_upto_region 5 with(fail)
   refine aj (λV1 hV=>?_);obtain⟨hbV,hqV,-⟩:=au hV;clear hV;replace HI:=hid (HI.out.below hbV);replace HFb:=hid (HFb.out.below hbV);replace HMA:=hid (HMA.out.below hbV);have HQ1:=hid hqV;clear hqV hbV a0 a1 a2;have hd:Below V1.heap.size V1 V1.drew:=(Below.refl _ _).drew;replace HI:=hid (HI.out.below hd);replace HFb:=hid (HFb.out.below hd);replace HMA:=hid (HMA.out.below hd);replace HQ1:=hid (HQ1.out.below hd HQ1.out.lt);have hSS:=HQ1.out;refine aO (λw'=>Bk w' W1.heap.size 42 _) [7] (by kernel_rfl) hSS (λhHeld=>?_);(refine aG 0 (v:=?_) rfl (by kernel_rfl) (λ_ _ _ h=>h) (λ_=>by assumption) (by rfl) ?_ ?_;rotate_left;· (intro w;go_simp;try with_reducible rfl);try simp only[Act.put,xA,xE,xC])
   (refine aG 1 (v:=?_) rfl (by kernel_rfl) (λ_ _ _ h=>h) (λ_=>by assumption) (by rfl) ?_ ?_;rotate_left;· (intro w;go_simp;try with_reducible rfl);try simp only[Act.put,xA,xE,xC])
   (refine aG 2 (v:=?_) rfl (by kernel_rfl) (λ_ _ _ h=>h) (λ_=>by assumption) (by rfl) ?_ ?_;rotate_left;· (intro w;go_simp;try with_reducible rfl);try simp only[Act.put,xA,xE,xC])
   (refine Lst.kS 7 3 (v:=?_) rfl (by kernel_rfl) (by kernel_rfl) (by kernel_rfl) (by kernel_rfl) (by kernel_rfl) (by kernel_rfl) (λ_ _ _ h=>h) (by assumption) (by rfl) ?_ ?_;rotate_left;· (intro w hSw;have e:=(Bk.k3 hSw).1.1;go_simp;try with_reducible rfl);try simp only[Act.put,xA,xE,xC])
   (refine aG 5 (v:=?_) rfl (by kernel_rfl) (λ_ _ _ h=>h) (λ_=>by assumption) (by rfl) ?_ ?_;rotate_left;· (intro w;go_simp;try with_reducible rfl);try simp only[Act.put,xA,xE,xC])
   (refine Lst.kS 7 6 (v:=?_) rfl (by kernel_rfl) (by kernel_rfl) (by kernel_rfl) (by kernel_rfl) (by kernel_rfl) (by kernel_rfl) (λ_ _ _ h=>h) (by assumption) (by rfl) ?_ ?_;rotate_left;· (intro w hSw;have e:=(Bk.k3 hSw).1.1;go_simp;try with_reducible rfl);try simp only[Act.put,xA,xE,xC])
   clear hSS hd;have oW:=hid (sD mb fZ rn bI.out.1 (by omega) _ HMA.out);(refine aB 4 (by kernel_rfl) rfl (λK hK=>?_))
   go_simp;refine oW.out.mono ?_;rintro e X⟨rfl,hg,hc⟩;replace HQ1:=hid (Bk.grown HQ1.out hg (HMA.out.ne HQ1.out));have HIx:=hid (HI.out.fresh hg yu);have HFx:=hid (HFb.out.fresh HI.out hg yu);clear HI HFb HMA;have HI:=HIx;have HFb:=HFx;have HMA:=hid hc;clear HIx HFx hc;(refine hK.out _ _ (λhnn=>HQ1.out) ?_;clear hK K;try simp only[Act.put,xA,xE,xC])
   clear oW hHeld;(refine aB 7 (by kernel_rfl) rfl (λK hK=>?_))
   go_simp;refine(Chk.bP HI.out HFb.out (Below.refl _ _) (!Chk.bD fZ rn) (rn) 130).mono ?_;rintro e Y⟨rfl,hg,hi,hf⟩;(refine hK.out _ _ (λhnn=>(absurd hnn (by decide))) ?_;clear hK K;try simp only[Act.put,xA,xE,xC])
   replace HMA:=hid (HMA.out.kept hg (by intro e;injection e with e;have:=HI.out.hi;omega));replace HQ1:=hid (Bk.grown HQ1.out hg (Chk.aN HFb.out HQ1.out (by decide)));clear HI HFb;have HI:=hid hi;have HFb:=hid hf;clear hi hf hg;refine aV (by kernel_rfl) ?_ _;refine NoPanic.normal ?_;go_upto_region 7 with(fail)
   refine aj (λV3 hV3=>?_);obtain⟨mo,rW⟩:∃ mo,mo=Y.heap.size:=⟨_,rfl⟩;have AO:w.heap.size<mo:=by rw[rW];have:=HI.out.size;omega
   have TL:mb<mo:=by rw[rW];exact HMA.out.lt
   have hc0:Chk.Cnt V3 mo []:=by subst hV3 rW;exact Chk.Cnt.made Y
   have hb0:Below Y.heap.size Y V3:=by subst hV3;exact(Below.refl _ _).alloc (xB _) _
   clear hV3;rw[<-rW];replace HI:=hid (HI.out.below hb0);replace HFb:=hid (HFb.out.below hb0);replace HMA:=hid (HMA.out.below hb0);replace HQ1:=hid (HQ1.out.below hb0 HQ1.out.lt);have HMO:=hid hc0;clear hc0 hb0 rW;obtain⟨⟨b0,b1,b2⟩,-⟩:=HQ1.out.k3;go_wp2_with fail;clear b0 b1 b2;have HSi:Hid (Chk.run 130 (Chk.lQ ((x.records).drop (k1+1)) x.services x.sagas (fZ++[rn])) (Chk.run 130 (Chk.jg rn ((rf.drop 0).map (·.name)) []) (Chk.at_ (!Chk.bD fZ rn) rn 130 cu1))=R):=hid (by have h:=HD1.out;simp only[Chk.run,Chk.jq]at h;exact h);go_loopw [37] (λi wr=>∃(k:Nat)(cu:Chk.Flt)(seen:List ByteArray),k<=n5/\i=.int .i64 k/\Hid (Chk.run 130 (Chk.lQ ((x.records).drop (k1+1)) x.services x.sagas (fZ++[rn])) (Chk.run 130 (Chk.jg rn (((rf).drop k).map (·.name)) seen) cu)=R)/\seen.length<=0+k/\Hid (Chk.In w0 w wr f S)/\Hid (Chk.Fb wr f cu)/\Hid (Chk.Cnt wr mo seen)/\Hid (Chk.Cnt wr mb (fZ++[rn]))/\Hid (Bk wr W1.heap.size 42 #[.string rn,.bool rc,.slice A5 n5 c5])) (λi _=>n5 - (intOf i).toNat)
   case atStart=>exact⟨0,_,[],by omega,rfl,HSi,by first|omega|(simp;done)|(simp;omega),HI,HFb,HMO,HMA,HQ1⟩
   case round =>
    clear HI HFb HSi HMO HMA HQ1;obtain⟨k2,cu2,own,hk2,rfl,HK,hsl2,HI,HFb,HMO,HMA,HQ1⟩:=hrel;obtain⟨W2,rfl⟩:∃ w',w'=wr:=⟨_,rfl⟩;by_cases hlt2:k2<n5
    case pos =>
     have hka:k2<(rf).length:=by rw[<-HN5.out];exact hlt2
     obtain⟨g2,off2,cs,rfl,-,he,hc⟩:=ah.get H5.out hka (by omega);have HD:=HK.out;rw[Chk.D5 rn (·.name) hka]at HD;have hfi:=bI.out.2.2 _ (xR hka);generalize(rf)[k2]=r at *;obtain⟨yn,yt⟩:=r;obtain⟨u,rfl,HU⟩:=he;simp only at HU hc HD hfi;obtain⟨A7,n7,c7,rfl⟩:=ah.is HU;clear HU;have iQ:=hid hfi;have HD2:=hid HD;have hB:=HI.out.b0;have a0:=hc 0 _ rfl;have a1:=hc 1 _ rfl;have aH:g2<w0.heap.size:=xH w0 _ a0;have a0:=(hB.cell aH).trans a0;have a1:=(hB.cell aH).trans a1;simp only[xK]at a0;have i20:(0:Int)<=(k2:Int):=by omega
     have i21:(k2:Int)<(n5:Int):=by omega
     have hbw:=hB.size;have uD:¬g2=W2.heap.size:=by omega
     clear hc hB hka HD HK hfi hbw;go_upto_region 10 with(fail)
     refine aj (λV2 hV=>?_);obtain⟨hbV,hqV,-⟩:=au hV;clear hV;replace HI:=hid (HI.out.below hbV);replace HFb:=hid (HFb.out.below hbV);replace HMA:=hid (HMA.out.below hbV);replace HMO:=hid (HMO.out.below hbV);replace HQ1:=hid (HQ1.out.below hbV HQ1.out.lt);have HQ2:=hid hqV;clear hqV hbV a0 a1;have hd:Below V2.heap.size V2 V2.drew:=(Below.refl _ _).drew;replace HI:=hid (HI.out.below hd);replace HFb:=hid (HFb.out.below hd);replace HMA:=hid (HMA.out.below hd);replace HMO:=hid (HMO.out.below hd);replace HQ1:=hid (HQ1.out.below hd HQ1.out.lt);replace HQ2:=hid (HQ2.out.below hd HQ2.out.lt);have hSS:=And.intro HQ1.out HQ2.out;refine aO (λw'=>Bk w' W1.heap.size 42 _/\Bk w' W2.heap.size 176 _) [10] (by kernel_rfl) hSS (λhHeld=>?_);(refine aG 0 (v:=?_) rfl (by kernel_rfl) (λ_ _ _ h=>h) (λ_=>by assumption) (by rfl) ?_ ?_;rotate_left;· (intro w;go_simp;try with_reducible rfl);try simp only[Act.put,xA,xE,xC])
     (refine aG 1 (v:=?_) rfl (by kernel_rfl) (λ_ _ _ h=>h) (λ_=>by assumption) (by rfl) ?_ ?_;rotate_left;· (intro w;go_simp;try with_reducible rfl);try simp only[Act.put,xA,xE,xC])
     (refine aG 2 (v:=?_) rfl (by kernel_rfl) (λ_ _ _ h=>h) (λ_=>by assumption) (by rfl) ?_ ?_;rotate_left;· (intro w;go_simp;try with_reducible rfl);try simp only[Act.put,xA,xE,xC])
     (refine Lst.kS 10 3 (v:=?_) rfl (by kernel_rfl) (by kernel_rfl) (by kernel_rfl) (by kernel_rfl) (by kernel_rfl) (by kernel_rfl) (λ_ _ _ h=>h) (by assumption) (by rfl) ?_ ?_;rotate_left;· (intro w hSw;have e:=(Bk.k2 hSw.2).1.1;go_simp;try with_reducible rfl);try simp only[Act.put,xA,xE,xC])
     (refine aG 5 (v:=?_) rfl (by kernel_rfl) (λ_ _ _ h=>h) (λ_=>by assumption) (by rfl) ?_ ?_;rotate_left;· (intro w;go_simp;try with_reducible rfl);try simp only[Act.put,xA,xE,xC])
     (refine Lst.kS 10 6 (v:=?_) rfl (by kernel_rfl) (by kernel_rfl) (by kernel_rfl) (by kernel_rfl) (by kernel_rfl) (by kernel_rfl) (λ_ _ _ h=>h) (by assumption) (by rfl) ?_ ?_;rotate_left;· (intro w hSw;have e:=(Bk.k3 hSw.1).1.1;go_simp;try with_reducible rfl);try simp only[Act.put,xA,xE,xC])
     (refine aG 7 (v:=?_) rfl (by kernel_rfl) (λ_ _ _ h=>h) (λ_=>by assumption) (by rfl) ?_ ?_;rotate_left;· (intro w;go_simp;try with_reducible rfl);try simp only[Act.put,xA,xE,xC])
     (refine Lst.kS 10 8 (v:=?_) rfl (by kernel_rfl) (by kernel_rfl) (by kernel_rfl) (by kernel_rfl) (by kernel_rfl) (by kernel_rfl) (λ_ _ _ h=>h) (by assumption) (by rfl) ?_ ?_;rotate_left;· (intro w hSw;have e:=(Bk.k2 hSw.2).1.1;go_simp;try with_reducible rfl);try simp only[Act.put,xA,xE,xC])
     clear hSS hd;have oW:=hid (sD mo own yn iQ.out.1 (by omega) _ HMO.out);have HPT:Hid (∀ w',Calls Tryz.prog 108 #[.string rn,.string yn] w' λe w''=>e=.returned (.string (Chk.part rn yn))/\w''=w'):=hid (λw'=>dD rn yn bI.out.1 iQ.out.1 w');(refine aB 4 (by kernel_rfl) rfl (λK hK=>?_))
     go_simp;refine oW.out.mono ?_;rintro e X⟨rfl,hg,hc⟩;replace HMA:=hid (HMA.out.kept hg (by intro e;injection e with e;omega));replace HQ1:=hid (Bk.grown HQ1.out hg (HMO.out.ne HQ1.out));replace HQ2:=hid (Bk.grown HQ2.out hg (HMO.out.ne HQ2.out));have HIx:=hid (HI.out.fresh hg AO);have HFx:=hid (HFb.out.fresh HI.out hg AO);clear HI HFb HMO;have HI:=HIx;have HFb:=HFx;have HMO:=hid hc;clear HIx HFx hc;(refine hK.out _ _ (λhnn=>⟨HQ1.out,HQ2.out⟩) ?_;clear hK K;try simp only[Act.put,xA,xE,xC])
     clear oW hHeld;(refine aB 9 (by kernel_rfl) rfl (λK hK=>?_))
     go_simp;refine(HPT.out _).mono ?_;rintro e Z⟨rfl,rfl⟩;(refine hK.out _ _ (λhnn=>⟨HQ1.out,HQ2.out⟩) ?_;clear hK K;try simp only[Act.put,xA,xE,xC])
     (refine aB 10 (by kernel_rfl) rfl (λK hK=>?_))
     go_simp;refine(Chk.bP HI.out HFb.out (Below.refl _ _) (!Chk.bD own yn) (Chk.part rn yn) 130).mono ?_;rintro e Y2⟨rfl,hg,hi,hf⟩;(refine hK.out _ _ (λhnn=>(absurd hnn (by decide))) ?_;clear hK K;try simp only[Act.put,xA,xE,xC])
     replace HMA:=hid (HMA.out.kept hg (by intro e;injection e with e;have:=HI.out.hi;omega));replace HMO:=hid (HMO.out.kept hg (by intro e;injection e with e;have:=HI.out.hi;omega));replace HQ1:=hid (Bk.grown HQ1.out hg (Chk.aN HFb.out HQ1.out (by decide)));replace HQ2:=hid (Bk.grown HQ2.out hg (Chk.aN HFb.out HQ2.out (by decide)));clear HI HFb;have HI:=hid hi;have HFb:=hid hf;clear hi hf hg;refine aV (by kernel_rfl) ?_ _;refine NoPanic.normal ?_;clear HPT;have bV:Hid (Chk.run 130 (Chk.lQ ((x.records).drop (k1+1)) x.services x.sagas (fZ++[rn])) (Chk.run 130 (Chk.jg rn (((rf).drop (k2+1)).map (·.name)) (own++[yn])) (Chk.at_ (!Chk.bD own yn) (Chk.part rn yn) 130 cu2))=R):=hid (by exact HD2.out);go_wp2_with fail;go_roundw
     case rel=>exact⟨k2+1,_,(own++[yn]),by omega,by go_num,bV,by simp;omega,HI,HFb,HMO,HMA,HQ1⟩
     case measure=>simp[intOf];omega
    have HX2:Hid (Chk.run 130 (Chk.lQ ((x.records).drop (k1+1)) x.services x.sagas (fZ++[rn])) (cu2)=R):=hid (by have h:=HK.out;rw[xP (show rf.length<=k2 by rw[<-HN5.out];omega)]at h;exact h);clear HK HMO;have gX:Hid (Chk.run 130 (Chk.lQ ((x.records).drop (k1+1)) x.services x.sagas (fZ++[rn])) cu2=R):=hid (by exact HX2.out);go_wp2_with fail;go_roundw
    case rel=>exact⟨k1+1,_,(fZ++[rn]),by omega,by go_num,gX,by simp;omega,HI,HFb,HMA⟩
    case measure=>simp[intOf];omega
  have HS1:Hid (Chk.run 130 (Chk.lN (x.services.drop 0) x.sagas fZ) cu1=R):=hid (by have h:=HK.out;rw[xP (show x.records.length<=k1 by rw[<-HN1.out];omega)]at h;exact h);clear HK;obtain⟨⟨q0,q1,q2,q3⟩,-⟩:=(Chk.fC bf.out HI.out _ (Bl.refl _)).k4;go_wp2_with fail;clear q0 q1 q2 q3;go_loopw [57] (λi wr=>∃(k:Nat)(cu:Chk.Flt)(seen:List ByteArray),k<=n2/\i=.int .i64 k/\Hid (Chk.run 130 (Chk.lN ((x.services).drop k) x.sagas seen) cu=R)/\seen.length<=20000+k/\Hid (Chk.In w0 w wr f S)/\Hid (Chk.Fb wr f cu)/\Hid (Chk.Cnt wr mb seen)) (λi _=>n2 - (intOf i).toNat)
  case atStart=>exact⟨0,_,_,by omega,rfl,HS1,by first|omega|(simp;done)|(simp;omega),HI,HFb,HMA⟩
  case round =>
   clear HI HFb HS1 HMA  ;obtain⟨k1,cu1,fZ,hk1,rfl,HK,hsl1,HI,HFb,HMA⟩:=hrel;obtain⟨W1,rfl⟩:∃ w',w'=wr:=⟨_,rfl⟩;by_cases hlt1:k1<n2
   case pos =>
    have hka:k1<(x.services).length:=by rw[<-HN2.out];exact hlt1
    obtain⟨g1,off1,cs,rfl,-,he,hc⟩:=ah.get H2.out hka (by omega);have HD:=HK.out;rw[Chk.Nl hka]at HD;have hfi:=dA.out.sv _ (xR hka);generalize(x.services)[k1]=r at *;obtain⟨rn,rf⟩:=r;obtain⟨u,rfl,HU⟩:=he;simp only at HU hc HD hfi;obtain⟨A5,n5,c5,rfl⟩:=ah.is HU;have hn5:n5=rf.length:=by obtain⟨_,_,e,_⟩:=ah.slice HU;injection e
    have hm5:n5<=10000:=by rw[hn5];exact xM hfi.2.1 (by decide)
    have HN5:=hid hn5;have H5:=hid HU;clear HU hn5;have bI:=hid hfi;have HD1:=hid HD;have hB:=HI.out.b0;have a0:=hc 0 _ rfl;have a1:=hc 1 _ rfl;have aC:g1<w0.heap.size:=xH w0 _ a0;have a0:=(hB.cell aC).trans a0;have a1:=(hB.cell aC).trans a1;simp only[xK]at a0;have i10:(0:Int)<=(k1:Int):=by omega
    have i11:(k1:Int)<(n2:Int):=by omega
    have hbw:=hB.size;have hgw1:¬g1=W1.heap.size:=by omega
    clear hc hB hka HD HK hfi hbw;go_upto_region 16 with(fail)
    refine aj (λV1 hV=>?_);obtain⟨hbV,hqV,-⟩:=au hV;clear hV;replace HI:=hid (HI.out.below hbV);replace HFb:=hid (HFb.out.below hbV);replace HMA:=hid (HMA.out.below hbV);have HQ1:=hid hqV;clear hqV hbV a0 a1;have hd:Below V1.heap.size V1 V1.drew:=(Below.refl _ _).drew;replace HI:=hid (HI.out.below hd);replace HFb:=hid (HFb.out.below hd);replace HMA:=hid (HMA.out.below hd);replace HQ1:=hid (HQ1.out.below hd HQ1.out.lt);have hSS:=HQ1.out;refine aO (λw'=>Bk w' W1.heap.size 101 _) [7] (by kernel_rfl) hSS (λhHeld=>?_);(refine aG 0 (v:=?_) rfl (by kernel_rfl) (λ_ _ _ h=>h) (λ_=>by assumption) (by rfl) ?_ ?_;rotate_left;· (intro w;go_simp;try with_reducible rfl);try simp only[Act.put,xA,xE,xC])
    (refine aG 1 (v:=?_) rfl (by kernel_rfl) (λ_ _ _ h=>h) (λ_=>by assumption) (by rfl) ?_ ?_;rotate_left;· (intro w;go_simp;try with_reducible rfl);try simp only[Act.put,xA,xE,xC])
    (refine aG 2 (v:=?_) rfl (by kernel_rfl) (λ_ _ _ h=>h) (λ_=>by assumption) (by rfl) ?_ ?_;rotate_left;· (intro w;go_simp;try with_reducible rfl);try simp only[Act.put,xA,xE,xC])
    (refine Lst.kS 7 3 (v:=?_) rfl (by kernel_rfl) (by kernel_rfl) (by kernel_rfl) (by kernel_rfl) (by kernel_rfl) (by kernel_rfl) (λ_ _ _ h=>h) (by assumption) (by rfl) ?_ ?_;rotate_left;· (intro w hSw;have e:=(Bk.k2 hSw).1.1;go_simp;try with_reducible rfl);try simp only[Act.put,xA,xE,xC])
    (refine aG 5 (v:=?_) rfl (by kernel_rfl) (λ_ _ _ h=>h) (λ_=>by assumption) (by rfl) ?_ ?_;rotate_left;· (intro w;go_simp;try with_reducible rfl);try simp only[Act.put,xA,xE,xC])
    (refine Lst.kS 7 6 (v:=?_) rfl (by kernel_rfl) (by kernel_rfl) (by kernel_rfl) (by kernel_rfl) (by kernel_rfl) (by kernel_rfl) (λ_ _ _ h=>h) (by assumption) (by rfl) ?_ ?_;rotate_left;· (intro w hSw;have e:=(Bk.k2 hSw).1.1;go_simp;try with_reducible rfl);try simp only[Act.put,xA,xE,xC])
    clear hSS hd;have oW:=hid (sD mb fZ rn bI.out.1 (by omega) _ HMA.out);(refine aB 4 (by kernel_rfl) rfl (λK hK=>?_))
    go_simp;refine oW.out.mono ?_;rintro e X⟨rfl,hg,hc⟩;replace HQ1:=hid (Bk.grown HQ1.out hg (HMA.out.ne HQ1.out));have HIx:=hid (HI.out.fresh hg yu);have HFx:=hid (HFb.out.fresh HI.out hg yu);clear HI HFb HMA;have HI:=HIx;have HFb:=HFx;have HMA:=hid hc;clear HIx HFx hc;(refine hK.out _ _ (λhnn=>HQ1.out) ?_;clear hK K;try simp only[Act.put,xA,xE,xC])
    clear oW hHeld;(refine aB 7 (by kernel_rfl) rfl (λK hK=>?_))
    go_simp;refine(Chk.bP HI.out HFb.out (Below.refl _ _) (!Chk.bD fZ rn) (rn) 130).mono ?_;rintro e Y⟨rfl,hg,hi,hf⟩;(refine hK.out _ _ (λhnn=>(absurd hnn (by decide))) ?_;clear hK K;try simp only[Act.put,xA,xE,xC])
    replace HMA:=hid (HMA.out.kept hg (by intro e;injection e with e;have:=HI.out.hi;omega));replace HQ1:=hid (Bk.grown HQ1.out hg (Chk.aN HFb.out HQ1.out (by decide)));clear HI HFb;have HI:=hid hi;have HFb:=hid hf;clear hi hf hg;refine aV (by kernel_rfl) ?_ _;refine NoPanic.normal ?_;go_upto_region 18 with(fail)
    refine aj (λV3 hV3=>?_);obtain⟨mo,rW⟩:∃ mo,mo=Y.heap.size:=⟨_,rfl⟩;have AO:w.heap.size<mo:=by rw[rW];have:=HI.out.size;omega
    have TL:mb<mo:=by rw[rW];exact HMA.out.lt
    have hc0:Chk.Cnt V3 mo []:=by subst hV3 rW;exact Chk.Cnt.made Y
    have hb0:Below Y.heap.size Y V3:=by subst hV3;exact(Below.refl _ _).alloc (xB _) _
    clear hV3;rw[<-rW];replace HI:=hid (HI.out.below hb0);replace HFb:=hid (HFb.out.below hb0);replace HMA:=hid (HMA.out.below hb0);replace HQ1:=hid (HQ1.out.below hb0 HQ1.out.lt);have HMO:=hid hc0;clear hc0 hb0 rW;obtain⟨⟨b0,b1⟩,-⟩:=HQ1.out.k2;go_wp2_with fail;clear b0 b1;have HSi:Hid (Chk.run 130 (Chk.lN ((x.services).drop (k1+1)) x.sagas (fZ++[rn])) (Chk.run 130 (Chk.jg rn ((rf.drop 0).map (·.name)) []) (Chk.at_ (!Chk.bD fZ rn) rn 130 cu1))=R):=hid (by have h:=HD1.out;simp only[Chk.run,Chk.jq]at h;exact h);go_loopw [73] (λi wr=>∃(k:Nat)(cu:Chk.Flt)(seen:List ByteArray),k<=n5/\i=.int .i64 k/\Hid (Chk.run 130 (Chk.lN ((x.services).drop (k1+1)) x.sagas (fZ++[rn])) (Chk.run 130 (Chk.jg rn (((rf).drop k).map (·.name)) seen) cu)=R)/\seen.length<=0+k/\Hid (Chk.In w0 w wr f S)/\Hid (Chk.Fb wr f cu)/\Hid (Chk.Cnt wr mo seen)/\Hid (Chk.Cnt wr mb (fZ++[rn]))/\Hid (Bk wr W1.heap.size 101 #[.string rn,.slice A5 n5 c5])) (λi _=>n5 - (intOf i).toNat)
    case atStart=>exact⟨0,_,[],by omega,rfl,HSi,by first|omega|(simp;done)|(simp;omega),HI,HFb,HMO,HMA,HQ1⟩
    case round =>
     clear HI HFb HSi HMO HMA HQ1;obtain⟨k2,cu2,own,hk2,rfl,HK,hsl2,HI,HFb,HMO,HMA,HQ1⟩:=hrel;obtain⟨W2,rfl⟩:∃ w',w'=wr:=⟨_,rfl⟩;by_cases hlt2:k2<n5
     case pos =>
      have hka:k2<(rf).length:=by rw[<-HN5.out];exact hlt2
      obtain⟨g2,off2,cs,rfl,-,he,hc⟩:=ah.get H5.out hka (by omega);have HD:=HK.out;rw[Chk.D5 rn (·.name) hka]at HD;have hfi:=bI.out.2.2 _ (xR hka);generalize(rf)[k2]=r at *;obtain⟨m0,m1,m2,m3,m4⟩:=r;unfold Id.dV Id.Mth.cells at he;subst he;simp only at hc HD hfi;have iQ:=hid hfi;have HD2:=hid HD;have hB:=HI.out.b0;have a0:=hc 0 _ rfl;have a1:=hc 1 _ rfl;have a2:=hc 2 _ rfl;have a3:=hc 3 _ rfl;have a4:=hc 4 _ rfl;have aH:g2<w0.heap.size:=xH w0 _ a0;have a0:=(hB.cell aH).trans a0;have a1:=(hB.cell aH).trans a1;have a2:=(hB.cell aH).trans a2;have a3:=(hB.cell aH).trans a3;have a4:=(hB.cell aH).trans a4;simp only[xK]at a0;have i20:(0:Int)<=(k2:Int):=by omega
      have i21:(k2:Int)<(n5:Int):=by omega
      have hbw:=hB.size;have uD:¬g2=W2.heap.size:=by omega
      clear hc hB hka HD HK hfi hbw;go_upto_region 21 with(fail)
      refine aj (λV2 hV=>?_);obtain⟨hbV,hqV,-⟩:=au hV;clear hV;replace HI:=hid (HI.out.below hbV);replace HFb:=hid (HFb.out.below hbV);replace HMA:=hid (HMA.out.below hbV);replace HMO:=hid (HMO.out.below hbV);replace HQ1:=hid (HQ1.out.below hbV HQ1.out.lt);have HQ2:=hid hqV;clear hqV hbV a0 a1 a2 a3 a4;have hd:Below V2.heap.size V2 V2.drew:=(Below.refl _ _).drew;replace HI:=hid (HI.out.below hd);replace HFb:=hid (HFb.out.below hd);replace HMA:=hid (HMA.out.below hd);replace HMO:=hid (HMO.out.below hd);replace HQ1:=hid (HQ1.out.below hd HQ1.out.lt);replace HQ2:=hid (HQ2.out.below hd HQ2.out.lt);have hSS:=And.intro HQ1.out HQ2.out;refine aO (λw'=>Bk w' W1.heap.size 101 _/\Bk w' W2.heap.size 180 _) [10] (by kernel_rfl) hSS (λhHeld=>?_);(refine aG 0 (v:=?_) rfl (by kernel_rfl) (λ_ _ _ h=>h) (λ_=>by assumption) (by rfl) ?_ ?_;rotate_left;· (intro w;go_simp;try with_reducible rfl);try simp only[Act.put,xA,xE,xC])
      (refine aG 1 (v:=?_) rfl (by kernel_rfl) (λ_ _ _ h=>h) (λ_=>by assumption) (by rfl) ?_ ?_;rotate_left;· (intro w;go_simp;try with_reducible rfl);try simp only[Act.put,xA,xE,xC])
      (refine aG 2 (v:=?_) rfl (by kernel_rfl) (λ_ _ _ h=>h) (λ_=>by assumption) (by rfl) ?_ ?_;rotate_left;· (intro w;go_simp;try with_reducible rfl);try simp only[Act.put,xA,xE,xC])
      (refine Lst.kS 10 3 (v:=?_) rfl (by kernel_rfl) (by kernel_rfl) (by kernel_rfl) (by kernel_rfl) (by kernel_rfl) (by kernel_rfl) (λ_ _ _ h=>h) (by assumption) (by rfl) ?_ ?_;rotate_left;· (intro w hSw;have e:=(Bk.k5 hSw.2).1.1;go_simp;try with_reducible rfl);try simp only[Act.put,xA,xE,xC])
      (refine aG 5 (v:=?_) rfl (by kernel_rfl) (λ_ _ _ h=>h) (λ_=>by assumption) (by rfl) ?_ ?_;rotate_left;· (intro w;go_simp;try with_reducible rfl);try simp only[Act.put,xA,xE,xC])
      (refine Lst.kS 10 6 (v:=?_) rfl (by kernel_rfl) (by kernel_rfl) (by kernel_rfl) (by kernel_rfl) (by kernel_rfl) (by kernel_rfl) (λ_ _ _ h=>h) (by assumption) (by rfl) ?_ ?_;rotate_left;· (intro w hSw;have e:=(Bk.k2 hSw.1).1.1;go_simp;try with_reducible rfl);try simp only[Act.put,xA,xE,xC])
      (refine aG 7 (v:=?_) rfl (by kernel_rfl) (λ_ _ _ h=>h) (λ_=>by assumption) (by rfl) ?_ ?_;rotate_left;· (intro w;go_simp;try with_reducible rfl);try simp only[Act.put,xA,xE,xC])
      (refine Lst.kS 10 8 (v:=?_) rfl (by kernel_rfl) (by kernel_rfl) (by kernel_rfl) (by kernel_rfl) (by kernel_rfl) (by kernel_rfl) (λ_ _ _ h=>h) (by assumption) (by rfl) ?_ ?_;rotate_left;· (intro w hSw;have e:=(Bk.k5 hSw.2).1.1;go_simp;try with_reducible rfl);try simp only[Act.put,xA,xE,xC])
      clear hSS hd;have oW:=hid (sD mo own m0 iQ.out.1 (by omega) _ HMO.out);have HPT:Hid (∀ w',Calls Tryz.prog 108 #[.string rn,.string m0] w' λe w''=>e=.returned (.string (Chk.part rn m0))/\w''=w'):=hid (λw'=>dD rn m0 bI.out.1 iQ.out.1 w');(refine aB 4 (by kernel_rfl) rfl (λK hK=>?_))
      go_simp;refine oW.out.mono ?_;rintro e X⟨rfl,hg,hc⟩;replace HMA:=hid (HMA.out.kept hg (by intro e;injection e with e;omega));replace HQ1:=hid (Bk.grown HQ1.out hg (HMO.out.ne HQ1.out));replace HQ2:=hid (Bk.grown HQ2.out hg (HMO.out.ne HQ2.out));have HIx:=hid (HI.out.fresh hg AO);have HFx:=hid (HFb.out.fresh HI.out hg AO);clear HI HFb HMO;have HI:=HIx;have HFb:=HFx;have HMO:=hid hc;clear HIx HFx hc;(refine hK.out _ _ (λhnn=>⟨HQ1.out,HQ2.out⟩) ?_;clear hK K;try simp only[Act.put,xA,xE,xC])
      clear oW hHeld;(refine aB 9 (by kernel_rfl) rfl (λK hK=>?_))
      go_simp;refine(HPT.out _).mono ?_;rintro e Z⟨rfl,rfl⟩;(refine hK.out _ _ (λhnn=>⟨HQ1.out,HQ2.out⟩) ?_;clear hK K;try simp only[Act.put,xA,xE,xC])
      (refine aB 10 (by kernel_rfl) rfl (λK hK=>?_))
      go_simp;refine(Chk.bP HI.out HFb.out (Below.refl _ _) (!Chk.bD own m0) (Chk.part rn m0) 130).mono ?_;rintro e Y2⟨rfl,hg,hi,hf⟩;(refine hK.out _ _ (λhnn=>(absurd hnn (by decide))) ?_;clear hK K;try simp only[Act.put,xA,xE,xC])
      replace HMA:=hid (HMA.out.kept hg (by intro e;injection e with e;have:=HI.out.hi;omega));replace HMO:=hid (HMO.out.kept hg (by intro e;injection e with e;have:=HI.out.hi;omega));replace HQ1:=hid (Bk.grown HQ1.out hg (Chk.aN HFb.out HQ1.out (by decide)));replace HQ2:=hid (Bk.grown HQ2.out hg (Chk.aN HFb.out HQ2.out (by decide)));clear HI HFb;have HI:=hid hi;have HFb:=hid hf;clear hi hf hg;refine aV (by kernel_rfl) ?_ _;refine NoPanic.normal ?_;clear HPT;have bV:Hid (Chk.run 130 (Chk.lN ((x.services).drop (k1+1)) x.sagas (fZ++[rn])) (Chk.run 130 (Chk.jg rn (((rf).drop (k2+1)).map (·.name)) (own++[m0])) (Chk.at_ (!Chk.bD own m0) (Chk.part rn m0) 130 cu2))=R):=hid (by exact HD2.out);go_wp2_with fail;go_roundw
      case rel=>exact⟨k2+1,_,(own++[m0]),by omega,by go_num,bV,by simp;omega,HI,HFb,HMO,HMA,HQ1⟩
      case measure=>simp[intOf];omega
     have HX2:Hid (Chk.run 130 (Chk.lN ((x.services).drop (k1+1)) x.sagas (fZ++[rn])) (cu2)=R):=hid (by have h:=HK.out;rw[xP (show rf.length<=k2 by rw[<-HN5.out];omega)]at h;exact h);clear HK HMO;have gX:Hid (Chk.run 130 (Chk.lN ((x.services).drop (k1+1)) x.sagas (fZ++[rn])) cu2=R):=hid (by exact HX2.out);go_wp2_with fail;go_roundw
     case rel=>exact⟨k1+1,_,(fZ++[rn]),by omega,by go_num,gX,by simp;omega,HI,HFb,HMA⟩
     case measure=>simp[intOf];omega
   have HS1:Hid (Chk.run 130 (Chk.qR (x.sagas.drop 0) fZ) cu1=R):=hid (by have h:=HK.out;rw[xP (show x.services.length<=k1 by rw[<-HN2.out];omega)]at h;exact h);clear HK;obtain⟨⟨q0,q1,q2,q3⟩,-⟩:=(Chk.fC bf.out HI.out _ (Bl.refl _)).k4;go_wp2_with fail;clear q0 q1 q2 q3;go_loopw [93] (λi wr=>∃(k:Nat)(cu:Chk.Flt)(seen:List ByteArray),k<=n3/\i=.int .i64 k/\Hid (Chk.run 130 (Chk.qR ((x.sagas).drop k) seen) cu=R)/\seen.length<=50000+k/\Hid (Chk.In w0 w wr f S)/\Hid (Chk.Fb wr f cu)/\Hid (Chk.Cnt wr mb seen)) (λi _=>n3 - (intOf i).toNat)
   case atStart=>exact⟨0,_,_,by omega,rfl,HS1,by first|omega|(simp;done)|(simp;omega),HI,HFb,HMA⟩
   case round =>
    clear HI HFb HS1 HMA  ;obtain⟨k1,cu1,fZ,hk1,rfl,HK,hsl1,HI,HFb,HMA⟩:=hrel;obtain⟨W1,rfl⟩:∃ w',w'=wr:=⟨_,rfl⟩;by_cases hlt1:k1<n3
    case pos =>
     have hka:k1<(x.sagas).length:=by rw[<-HN3.out];exact hlt1
     obtain⟨g1,off1,cs,rfl,-,he,hc⟩:=ah.get H3.out hka (by omega);have HD:=HK.out;rw[Chk.Nq hka]at HD;have hfi:=dA.out.sa _ (xR hka);generalize(x.sagas)[k1]=r at *;obtain⟨rn,ra,rf⟩:=r;obtain⟨u,rfl,HU⟩:=he;simp only at HU hc HD hfi;obtain⟨A5,n5,c5,rfl⟩:=ah.is HU;have hn5:n5=rf.length:=by obtain⟨_,_,e,_⟩:=ah.slice HU;injection e
     have hm5:n5<=10000:=by rw[hn5];exact xM hfi.2.1 (by decide)
     have HN5:=hid hn5;have H5:=hid HU;clear HU hn5;have bI:=hid hfi;have HD1:=hid HD;have hB:=HI.out.b0;have a0:=hc 0 _ rfl;have a1:=hc 1 _ rfl;have a2:=hc 2 _ rfl;have aC:g1<w0.heap.size:=xH w0 _ a0;have a0:=(hB.cell aC).trans a0;have a1:=(hB.cell aC).trans a1;have a2:=(hB.cell aC).trans a2;simp only[xK]at a0;have i10:(0:Int)<=(k1:Int):=by omega
     have i11:(k1:Int)<(n3:Int):=by omega
     have hbw:=hB.size;have hgw1:¬g1=W1.heap.size:=by omega
     clear hc hB hka HD HK hfi hbw;go_upto_region 27 with(fail)
     refine aj (λV1 hV=>?_);obtain⟨hbV,hqV,-⟩:=au hV;clear hV;replace HI:=hid (HI.out.below hbV);replace HFb:=hid (HFb.out.below hbV);replace HMA:=hid (HMA.out.below hbV);have HQ1:=hid hqV;clear hqV hbV a0 a1 a2;have hd:Below V1.heap.size V1 V1.drew:=(Below.refl _ _).drew;replace HI:=hid (HI.out.below hd);replace HFb:=hid (HFb.out.below hd);replace HMA:=hid (HMA.out.below hd);replace HQ1:=hid (HQ1.out.below hd HQ1.out.lt);have hSS:=HQ1.out;refine aO (λw'=>Bk w' W1.heap.size 105 _) [7] (by kernel_rfl) hSS (λhHeld=>?_);(refine aG 0 (v:=?_) rfl (by kernel_rfl) (λ_ _ _ h=>h) (λ_=>by assumption) (by rfl) ?_ ?_;rotate_left;· (intro w;go_simp;try with_reducible rfl);try simp only[Act.put,xA,xE,xC])
     (refine aG 1 (v:=?_) rfl (by kernel_rfl) (λ_ _ _ h=>h) (λ_=>by assumption) (by rfl) ?_ ?_;rotate_left;· (intro w;go_simp;try with_reducible rfl);try simp only[Act.put,xA,xE,xC])
     (refine aG 2 (v:=?_) rfl (by kernel_rfl) (λ_ _ _ h=>h) (λ_=>by assumption) (by rfl) ?_ ?_;rotate_left;· (intro w;go_simp;try with_reducible rfl);try simp only[Act.put,xA,xE,xC])
     (refine Lst.kS 7 3 (v:=?_) rfl (by kernel_rfl) (by kernel_rfl) (by kernel_rfl) (by kernel_rfl) (by kernel_rfl) (by kernel_rfl) (λ_ _ _ h=>h) (by assumption) (by rfl) ?_ ?_;rotate_left;· (intro w hSw;have e:=(Bk.k3 hSw).1.1;go_simp;try with_reducible rfl);try simp only[Act.put,xA,xE,xC])
     (refine aG 5 (v:=?_) rfl (by kernel_rfl) (λ_ _ _ h=>h) (λ_=>by assumption) (by rfl) ?_ ?_;rotate_left;· (intro w;go_simp;try with_reducible rfl);try simp only[Act.put,xA,xE,xC])
     (refine Lst.kS 7 6 (v:=?_) rfl (by kernel_rfl) (by kernel_rfl) (by kernel_rfl) (by kernel_rfl) (by kernel_rfl) (by kernel_rfl) (λ_ _ _ h=>h) (by assumption) (by rfl) ?_ ?_;rotate_left;· (intro w hSw;have e:=(Bk.k3 hSw).1.1;go_simp;try with_reducible rfl);try simp only[Act.put,xA,xE,xC])
     clear hSS hd;have oW:=hid (sD mb fZ rn bI.out.1 (by omega) _ HMA.out);(refine aB 4 (by kernel_rfl) rfl (λK hK=>?_))
     go_simp;refine oW.out.mono ?_;rintro e X⟨rfl,hg,hc⟩;replace HQ1:=hid (Bk.grown HQ1.out hg (HMA.out.ne HQ1.out));have HIx:=hid (HI.out.fresh hg yu);have HFx:=hid (HFb.out.fresh HI.out hg yu);clear HI HFb HMA;have HI:=HIx;have HFb:=HFx;have HMA:=hid hc;clear HIx HFx hc;(refine hK.out _ _ (λhnn=>HQ1.out) ?_;clear hK K;try simp only[Act.put,xA,xE,xC])
     clear oW hHeld;(refine aB 7 (by kernel_rfl) rfl (λK hK=>?_))
     go_simp;refine(Chk.bP HI.out HFb.out (Below.refl _ _) (!Chk.bD fZ rn) (rn) 130).mono ?_;rintro e Y⟨rfl,hg,hi,hf⟩;(refine hK.out _ _ (λhnn=>(absurd hnn (by decide))) ?_;clear hK K;try simp only[Act.put,xA,xE,xC])
     replace HMA:=hid (HMA.out.kept hg (by intro e;injection e with e;have:=HI.out.hi;omega));replace HQ1:=hid (Bk.grown HQ1.out hg (Chk.aN HFb.out HQ1.out (by decide)));clear HI HFb;have HI:=hid hi;have HFb:=hid hf;clear hi hf hg;refine aV (by kernel_rfl) ?_ _;refine NoPanic.normal ?_;have gX:Hid (Chk.run 130 (Chk.qR ((x.sagas).drop (k1+1)) (fZ++[rn])) (Chk.at_ (!Chk.bD fZ rn) rn 130 cu1)=R):=hid (by exact HD1.out);go_wp2_with fail;go_roundw
     case rel=>exact⟨k1+1,_,(fZ++[rn]),by omega,by go_num,gX,by simp;omega,HI,HFb,HMA⟩
     case measure=>simp[intOf];omega
    have HE:Hid (cu1=R):=hid (by have h:=HK.out;rw[xP (show x.sagas.length<=k1 by rw[<-HN3.out];omega)]at h;exact h);go_wp2_with fail;refine bodyPost_end (results_none rfl _ _ _) rfl ?_;exact⟨rfl,HI.out.gb,by rw[<-HE.out];exact HFb.out⟩
namespace Chk
open Id
def first:List Flt->ByteArray × Nat
 |[]=>(⟨#[]⟩,0)
 |none::l=>first l
 |some p::_=>p
noncomputable def dF(x:Sch):List Flt:=[run 120 (namesT x) none,run 135 (gQ x) none,run 130 (eX x) none,run 131 (kJ x) none,run 132 (jE x) none,run 134 (bU x) none,run 133 (nM x) none,run 240 (eU x) none,run 241 (cZ x) none,run 133 (dH x) none]
noncomputable def check(x:Sch):ByteArray × Nat:=first (dF x)
theorem CO(e:Nat)(p:ByteArray × Nat):∀ l:List Test,run e l (some p)=some p
 |[]=>rfl
 |t::l=>by
  show run e l (at_ t.1 t.2 e (some p))=some p
  have:at_ t.1 t.2 e (some p)=some p:=by unfold at_;split<;>rfl
  rw[this];exact CO e p l
theorem CJ{e:Nat}:∀{l:List Test},run e l none=none->∀ t∈l,t.1=true
 |[],_,t,ht=>absurd ht (by simp)
 |u::l,h,t,ht=>by
  have h1:run e l (at_ u.1 u.2 e none)=none:=h;cases hu:u.1 with
  |false =>
   have:at_ u.1 u.2 e none=some (u.2,e):=by unfold at_;rw[hu];rfl
   rw[this,CO]at h1;cases h1
  |true =>
   have:at_ u.1 u.2 e none=none:=by unfold at_;rw[hu];rfl
   rw[this]at h1;rcases List.mem_cons.1 ht with rfl|ht
   ·exact hu
   ·exact CJ h1 t ht
theorem BU.mid{x:Sch}(h:BU x)(hc:run 135 (gQ x) none=none):Mid x:=by
 have ht:=CJ hc;unfold gQ at ht;simp only[yH,List.mem_append,List.mem_flatMap]at ht;refine⟨h.nm,h.recs,h.kU,h.kV,λr hr=>?_,λv hv=>?_,λg hg=>?_⟩
 ·obtain⟨a,b,c⟩:=h.re r hr
  have:=ht (decide ((r.fields.length:Int)<=16),r.name) (.inr (.inl ⟨r,hr,by simp[nH]⟩));simp only[decide_eq_true_eq]at this;exact⟨a,by omega,c⟩
 ·obtain⟨a,b,c⟩:=h.sv v hv
  have:=ht (decide ((v.methods.length:Int)<=16),v.name) (.inr (.inr (.inl ⟨v,hv,by simp[je]⟩)));simp only[decide_eq_true_eq]at this;exact⟨a,by omega,c⟩
 ·obtain⟨a,b,c⟩:=h.sa g hg
  have:=ht (decide (1<=(g.steps.length:Int))&&decide ((g.steps.length:Int)<=8),g.name) (.inr (.inr (.inr ⟨g,hg,by simp[dG]⟩)));simp only[xX,decide_eq_true_eq]at this;exact⟨a,by omega,c⟩
end Chk
theorem QC(W:World):Sem.run Tryz.prog (Instr.index 86 (.agg #[.func (.func 38) #[] #[],.func (.func 39) #[] #[],.func (.func 40) #[] #[],.func (.func 41) #[] #[],.func (.func 42) #[] #[],.func (.func 43) #[] #[],.func (.func 44) #[] #[],.func (.func 45) #[] #[],.func (.func 46) #[] #[],.func (.func 47) #[] #[]]) (.int .i64 0)) W=.ok (.func (.func 38) #[] #[]) W:=by kernel_rfl
theorem QB(W:World):Sem.run Tryz.prog (Instr.index 86 (.agg #[.func (.func 38) #[] #[],.func (.func 39) #[] #[],.func (.func 40) #[] #[],.func (.func 41) #[] #[],.func (.func 42) #[] #[],.func (.func 43) #[] #[],.func (.func 44) #[] #[],.func (.func 45) #[] #[],.func (.func 46) #[] #[],.func (.func 47) #[] #[]]) (.int .i64 1)) W=.ok (.func (.func 39) #[] #[]) W:=by kernel_rfl
theorem QA(W:World):Sem.run Tryz.prog (Instr.index 86 (.agg #[.func (.func 38) #[] #[],.func (.func 39) #[] #[],.func (.func 40) #[] #[],.func (.func 41) #[] #[],.func (.func 42) #[] #[],.func (.func 43) #[] #[],.func (.func 44) #[] #[],.func (.func 45) #[] #[],.func (.func 46) #[] #[],.func (.func 47) #[] #[]]) (.int .i64 2)) W=.ok (.func (.func 40) #[] #[]) W:=by kernel_rfl
theorem Q9(W:World):Sem.run Tryz.prog (Instr.index 86 (.agg #[.func (.func 38) #[] #[],.func (.func 39) #[] #[],.func (.func 40) #[] #[],.func (.func 41) #[] #[],.func (.func 42) #[] #[],.func (.func 43) #[] #[],.func (.func 44) #[] #[],.func (.func 45) #[] #[],.func (.func 46) #[] #[],.func (.func 47) #[] #[]]) (.int .i64 3)) W=.ok (.func (.func 41) #[] #[]) W:=by kernel_rfl
theorem Q8(W:World):Sem.run Tryz.prog (Instr.index 86 (.agg #[.func (.func 38) #[] #[],.func (.func 39) #[] #[],.func (.func 40) #[] #[],.func (.func 41) #[] #[],.func (.func 42) #[] #[],.func (.func 43) #[] #[],.func (.func 44) #[] #[],.func (.func 45) #[] #[],.func (.func 46) #[] #[],.func (.func 47) #[] #[]]) (.int .i64 4)) W=.ok (.func (.func 42) #[] #[]) W:=by kernel_rfl
theorem Q7(W:World):Sem.run Tryz.prog (Instr.index 86 (.agg #[.func (.func 38) #[] #[],.func (.func 39) #[] #[],.func (.func 40) #[] #[],.func (.func 41) #[] #[],.func (.func 42) #[] #[],.func (.func 43) #[] #[],.func (.func 44) #[] #[],.func (.func 45) #[] #[],.func (.func 46) #[] #[],.func (.func 47) #[] #[]]) (.int .i64 5)) W=.ok (.func (.func 43) #[] #[]) W:=by kernel_rfl
theorem Q5(W:World):Sem.run Tryz.prog (Instr.index 86 (.agg #[.func (.func 38) #[] #[],.func (.func 39) #[] #[],.func (.func 40) #[] #[],.func (.func 41) #[] #[],.func (.func 42) #[] #[],.func (.func 43) #[] #[],.func (.func 44) #[] #[],.func (.func 45) #[] #[],.func (.func 46) #[] #[],.func (.func 47) #[] #[]]) (.int .i64 6)) W=.ok (.func (.func 44) #[] #[]) W:=by kernel_rfl
theorem Qz(W:World):Sem.run Tryz.prog (Instr.index 86 (.agg #[.func (.func 38) #[] #[],.func (.func 39) #[] #[],.func (.func 40) #[] #[],.func (.func 41) #[] #[],.func (.func 42) #[] #[],.func (.func 43) #[] #[],.func (.func 44) #[] #[],.func (.func 45) #[] #[],.func (.func 46) #[] #[],.func (.func 47) #[] #[]]) (.int .i64 7)) W=.ok (.func (.func 45) #[] #[]) W:=by kernel_rfl
theorem Qy(W:World):Sem.run Tryz.prog (Instr.index 86 (.agg #[.func (.func 38) #[] #[],.func (.func 39) #[] #[],.func (.func 40) #[] #[],.func (.func 41) #[] #[],.func (.func 42) #[] #[],.func (.func 43) #[] #[],.func (.func 44) #[] #[],.func (.func 45) #[] #[],.func (.func 46) #[] #[],.func (.func 47) #[] #[]]) (.int .i64 8)) W=.ok (.func (.func 46) #[] #[]) W:=by kernel_rfl
theorem Qx(W:World):Sem.run Tryz.prog (Instr.index 86 (.agg #[.func (.func 38) #[] #[],.func (.func 39) #[] #[],.func (.func 40) #[] #[],.func (.func 41) #[] #[],.func (.func 42) #[] #[],.func (.func 43) #[] #[],.func (.func 44) #[] #[],.func (.func 45) #[] #[],.func (.func 46) #[] #[],.func (.func 47) #[] #[]]) (.int .i64 9)) W=.ok (.func (.func 47) #[] #[]) W:=by kernel_rfl
theorem He(v:Value)(x:Id.Sch)(hF:Chk.BU x)(w:World)(hkw:Tk.KW w)(hv:Id.ay w none v x) :
  Calls Tryz.prog 10 #[v] w λe w'=>e=.returned (.tuple #[.string (Chk.check x).1,.int .i64 (Chk.check x).2])/\Below w.heap.size w w':=by
 obtain⟨R,HR⟩:∃ R,Hid (Chk.check x=R):=⟨_,hid rfl⟩;rw[HR.out];have HR0:Hid (Chk.first ((Chk.dF x).drop 0)=R):=HR;have HV:=hid hv;have HKW:=hid hkw;have dA:=hid hF;obtain⟨A1,n1,c1,A2,n2,c2,A3,n3,c3,rfl,-,-,-⟩:=hv;clear hkw hF HR;go_enter Tryz.func10,Tryz.ntmps10;go_upto_region 1 with(fail)
 refine aj (λW0 hW0=>?_);obtain⟨hb0,hq0,-⟩:=au hW0;clear hW0;have HB:=hid hb0;have HQ:=hid hq0;clear hb0 hq0;go_wp2_with fail;go_loopw [8] (λi wr=>∃(k:Nat),k<=10/\i=.int .i64 k/\Hid (Chk.first ((Chk.dF x).drop k)=R)/\Hid (2<=k->Chk.run 135 (Chk.gQ x) none=none)/\Hid (Below w.heap.size w wr)/\Hid (Bk wr w.heap.size 28 #[.string x.name,.slice A1 n1 c1,.slice A2 n2 c2,.slice A3 n3 c3])) (λi _=>10 - (intOf i).toNat)
 case atStart=>exact⟨0,by omega,rfl,HR0,hid (λh=>absurd h (by decide)),HB,HQ⟩
 case round =>
  clear HB HQ HR0;obtain⟨k,hk,rfl,HK,HP,HB,HQ⟩:=hrel;obtain⟨Wk,rfl⟩:∃ w',w'=wr:=⟨_,rfl⟩;have hbs:=HB.out.size;rcases(show k=0∨k=1∨k=2∨k=3∨k=4∨k=5∨k=6∨k=7∨k=8∨k=9∨k=10 by omega)with rfl|rfl|rfl|rfl|rfl|rfl|rfl|rfl|rfl|rfl|rfl
  ·have hst:Chk.first ((Chk.dF x).drop 0)=Chk.first (Chk.run 120 (Chk.namesT x) none::(Chk.dF x).drop (0+1)):=rfl
   have HK2:Hid (Chk.first (Chk.run 120 (Chk.namesT x) none::(Chk.dF x).drop (0+1))=R):=hid (by rw[<-hst];exact HK.out);clear hst HK;have hix:=QC;simp only[xY];go_upto_region 5 with(fail)
   refine aj (λW1 hW1=>?_);obtain⟨hb1,hq1,-⟩:=au hW1;clear hW1;have HB1:=hid (HB.out.trans (hb1.mono hbs));have HQ1:=hid (HQ.out.below hb1 HQ.out.lt);have HF1:Hid (Chk.Fb W1 Wk.heap.size none):=hid hq1;clear hb1 hq1 hix;obtain⟨⟨q0,q1,q2,q3⟩,-⟩:=HQ1.out.k4;go_wp2_with fail;refine(JW _ x dA.out Wk.heap.size none w W1 HKW.out HV.out HB1.out hbs HF1.out).mono ?_;rintro e W2⟨rfl,hg2,hf2⟩;have HB2:=hid (jr HB1.out hg2 hbs HB1.out.size);have HQ2:=hid (Bk.grown HQ1.out hg2 (by have:=HQ.out.lt;intro e;injection e with e;omega));obtain⟨F,HF⟩:∃ F,Hid (Chk.run 120 (Chk.namesT x) none=F):=⟨_,hid rfl⟩;rw[HF.out]at hf2 HK2;clear hg2 q0 q1 q2 q3;cases F with
   |none =>
    have hbk:Bk W2 Wk.heap.size 88 #[.bool false,.string ⟨#[]⟩,.int .i64 0]:=hf2;obtain⟨⟨y0,y1,y2⟩,-⟩:=hbk.k3;clear hf2 hbk;have HK3:Hid (Chk.first ((Chk.dF x).drop (0+1))=R):=hid HK2.out;go_wp2_with fail;go_roundw
    case rel=>exact⟨0+1,by omega,by go_num,HK3,hid (λh=>absurd h (by decide)),HB2,HQ2⟩
    case measure=>simp[intOf]
   |some p =>
    obtain⟨wh,ec⟩:=p;have hbk:Bk W2 Wk.heap.size 88 #[.bool true,.string wh,.int .i64 ec]:=hf2;obtain⟨⟨y0,y1,y2⟩,-⟩:=hbk.k3;clear hf2 hbk;have HE:Hid ((wh,ec)=R):=hid HK2.out;go_wp2_with fail;go_quiet (fail);go_wp2_with fail;go_ret2;exact⟨by rw[<-HE.out];rfl,below_drewN HB2.out nq⟩
  ·have hst:Chk.first ((Chk.dF x).drop 1)=Chk.first (Chk.run 135 (Chk.gQ x) none::(Chk.dF x).drop (1+1)):=rfl
   have HK2:Hid (Chk.first (Chk.run 135 (Chk.gQ x) none::(Chk.dF x).drop (1+1))=R):=hid (by rw[<-hst];exact HK.out);clear hst HK;have hix:=QB;simp only[xY];go_upto_region 5 with(fail)
   refine aj (λW1 hW1=>?_);obtain⟨hb1,hq1,-⟩:=au hW1;clear hW1;have HB1:=hid (HB.out.trans (hb1.mono hbs));have HQ1:=hid (HQ.out.below hb1 HQ.out.lt);have HF1:Hid (Chk.Fb W1 Wk.heap.size none):=hid hq1;clear hb1 hq1 hix;obtain⟨⟨q0,q1,q2,q3⟩,-⟩:=HQ1.out.k4;go_wp2_with fail;refine(GZ _ x dA.out Wk.heap.size none w W1 HKW.out HV.out HB1.out hbs HF1.out).mono ?_;rintro e W2⟨rfl,hg2,hf2⟩;have HB2:=hid (jr HB1.out hg2 hbs HB1.out.size);have HQ2:=hid (Bk.grown HQ1.out hg2 (by have:=HQ.out.lt;intro e;injection e with e;omega));obtain⟨F,HF⟩:∃ F,Hid (Chk.run 135 (Chk.gQ x) none=F):=⟨_,hid rfl⟩;rw[HF.out]at hf2 HK2;clear hg2 q0 q1 q2 q3;cases F with
   |none =>
    have hbk:Bk W2 Wk.heap.size 88 #[.bool false,.string ⟨#[]⟩,.int .i64 0]:=hf2;obtain⟨⟨y0,y1,y2⟩,-⟩:=hbk.k3;clear hf2 hbk;have HK3:Hid (Chk.first ((Chk.dF x).drop (1+1))=R):=hid HK2.out;go_wp2_with fail;go_roundw
    case rel=>exact⟨1+1,by omega,by go_num,HK3,hid (λ_=>HF.out),HB2,HQ2⟩
    case measure=>simp[intOf]
   |some p =>
    obtain⟨wh,ec⟩:=p;have hbk:Bk W2 Wk.heap.size 88 #[.bool true,.string wh,.int .i64 ec]:=hf2;obtain⟨⟨y0,y1,y2⟩,-⟩:=hbk.k3;clear hf2 hbk;have HE:Hid ((wh,ec)=R):=hid HK2.out;go_wp2_with fail;go_quiet (fail);go_wp2_with fail;go_ret2;exact⟨by rw[<-HE.out];rfl,below_drewN HB2.out nq⟩
  ·have hst:Chk.first ((Chk.dF x).drop 2)=Chk.first (Chk.run 130 (Chk.eX x) none::(Chk.dF x).drop (2+1)):=rfl
   have HK2:Hid (Chk.first (Chk.run 130 (Chk.eX x) none::(Chk.dF x).drop (2+1))=R):=hid (by rw[<-hst];exact HK.out);clear hst HK;have hix:=QA;simp only[xY];go_upto_region 5 with(fail)
   refine aj (λW1 hW1=>?_);obtain⟨hb1,hq1,-⟩:=au hW1;clear hW1;have HB1:=hid (HB.out.trans (hb1.mono hbs));have HQ1:=hid (HQ.out.below hb1 HQ.out.lt);have HF1:Hid (Chk.Fb W1 Wk.heap.size none):=hid hq1;clear hb1 hq1 hix;obtain⟨⟨q0,q1,q2,q3⟩,-⟩:=HQ1.out.k4;go_wp2_with fail;refine(FU _ x (dA.out.mid (HP.out (by decide))) Wk.heap.size none w W1 HKW.out HV.out HB1.out hbs HF1.out).mono ?_;rintro e W2⟨rfl,hg2,hf2⟩;have HB2:=hid (jr HB1.out hg2 hbs HB1.out.size);have HQ2:=hid (Bk.grown HQ1.out hg2 (by have:=HQ.out.lt;intro e;injection e with e;omega));obtain⟨F,HF⟩:∃ F,Hid (Chk.run 130 (Chk.eX x) none=F):=⟨_,hid rfl⟩;rw[HF.out]at hf2 HK2;clear hg2 q0 q1 q2 q3;cases F with
   |none =>
    have hbk:Bk W2 Wk.heap.size 88 #[.bool false,.string ⟨#[]⟩,.int .i64 0]:=hf2;obtain⟨⟨y0,y1,y2⟩,-⟩:=hbk.k3;clear hf2 hbk;have HK3:Hid (Chk.first ((Chk.dF x).drop (2+1))=R):=hid HK2.out;go_wp2_with fail;go_roundw
    case rel=>exact⟨2+1,by omega,by go_num,HK3,hid (λ_=>HP.out (by decide)),HB2,HQ2⟩
    case measure=>simp[intOf]
   |some p =>
    obtain⟨wh,ec⟩:=p;have hbk:Bk W2 Wk.heap.size 88 #[.bool true,.string wh,.int .i64 ec]:=hf2;obtain⟨⟨y0,y1,y2⟩,-⟩:=hbk.k3;clear hf2 hbk;have HE:Hid ((wh,ec)=R):=hid HK2.out;go_wp2_with fail;go_quiet (fail);go_wp2_with fail;go_ret2;exact⟨by rw[<-HE.out];rfl,below_drewN HB2.out nq⟩
  ·have hst:Chk.first ((Chk.dF x).drop 3)=Chk.first (Chk.run 131 (Chk.kJ x) none::(Chk.dF x).drop (3+1)):=rfl
   have HK2:Hid (Chk.first (Chk.run 131 (Chk.kJ x) none::(Chk.dF x).drop (3+1))=R):=hid (by rw[<-hst];exact HK.out);clear hst HK;have hix:=Q9;simp only[xY];go_upto_region 5 with(fail)
   refine aj (λW1 hW1=>?_);obtain⟨hb1,hq1,-⟩:=au hW1;clear hW1;have HB1:=hid (HB.out.trans (hb1.mono hbs));have HQ1:=hid (HQ.out.below hb1 HQ.out.lt);have HF1:Hid (Chk.Fb W1 Wk.heap.size none):=hid hq1;clear hb1 hq1 hix;obtain⟨⟨q0,q1,q2,q3⟩,-⟩:=HQ1.out.k4;go_wp2_with fail;refine(JL _ x (dA.out.mid (HP.out (by decide))) Wk.heap.size none w W1 HKW.out HV.out HB1.out hbs HF1.out).mono ?_;rintro e W2⟨rfl,hg2,hf2⟩;have HB2:=hid (jr HB1.out hg2 hbs HB1.out.size);have HQ2:=hid (Bk.grown HQ1.out hg2 (by have:=HQ.out.lt;intro e;injection e with e;omega));obtain⟨F,HF⟩:∃ F,Hid (Chk.run 131 (Chk.kJ x) none=F):=⟨_,hid rfl⟩;rw[HF.out]at hf2 HK2;clear hg2 q0 q1 q2 q3;cases F with
   |none =>
    have hbk:Bk W2 Wk.heap.size 88 #[.bool false,.string ⟨#[]⟩,.int .i64 0]:=hf2;obtain⟨⟨y0,y1,y2⟩,-⟩:=hbk.k3;clear hf2 hbk;have HK3:Hid (Chk.first ((Chk.dF x).drop (3+1))=R):=hid HK2.out;go_wp2_with fail;go_roundw
    case rel=>exact⟨3+1,by omega,by go_num,HK3,hid (λ_=>HP.out (by decide)),HB2,HQ2⟩
    case measure=>simp[intOf]
   |some p =>
    obtain⟨wh,ec⟩:=p;have hbk:Bk W2 Wk.heap.size 88 #[.bool true,.string wh,.int .i64 ec]:=hf2;obtain⟨⟨y0,y1,y2⟩,-⟩:=hbk.k3;clear hf2 hbk;have HE:Hid ((wh,ec)=R):=hid HK2.out;go_wp2_with fail;go_quiet (fail);go_wp2_with fail;go_ret2;exact⟨by rw[<-HE.out];rfl,below_drewN HB2.out nq⟩
  ·have hst:Chk.first ((Chk.dF x).drop 4)=Chk.first (Chk.run 132 (Chk.jE x) none::(Chk.dF x).drop (4+1)):=rfl
   have HK2:Hid (Chk.first (Chk.run 132 (Chk.jE x) none::(Chk.dF x).drop (4+1))=R):=hid (by rw[<-hst];exact HK.out);clear hst HK;have hix:=Q8;simp only[xY];go_upto_region 5 with(fail)
   refine aj (λW1 hW1=>?_);obtain⟨hb1,hq1,-⟩:=au hW1;clear hW1;have HB1:=hid (HB.out.trans (hb1.mono hbs));have HQ1:=hid (HQ.out.below hb1 HQ.out.lt);have HF1:Hid (Chk.Fb W1 Wk.heap.size none):=hid hq1;clear hb1 hq1 hix;obtain⟨⟨q0,q1,q2,q3⟩,-⟩:=HQ1.out.k4;go_wp2_with fail;refine(FV _ x (dA.out.mid (HP.out (by decide))) Wk.heap.size none w W1 HKW.out HV.out HB1.out hbs HF1.out).mono ?_;rintro e W2⟨rfl,hg2,hf2⟩;have HB2:=hid (jr HB1.out hg2 hbs HB1.out.size);have HQ2:=hid (Bk.grown HQ1.out hg2 (by have:=HQ.out.lt;intro e;injection e with e;omega));obtain⟨F,HF⟩:∃ F,Hid (Chk.run 132 (Chk.jE x) none=F):=⟨_,hid rfl⟩;rw[HF.out]at hf2 HK2;clear hg2 q0 q1 q2 q3;cases F with
   |none =>
    have hbk:Bk W2 Wk.heap.size 88 #[.bool false,.string ⟨#[]⟩,.int .i64 0]:=hf2;obtain⟨⟨y0,y1,y2⟩,-⟩:=hbk.k3;clear hf2 hbk;have HK3:Hid (Chk.first ((Chk.dF x).drop (4+1))=R):=hid HK2.out;go_wp2_with fail;go_roundw
    case rel=>exact⟨4+1,by omega,by go_num,HK3,hid (λ_=>HP.out (by decide)),HB2,HQ2⟩
    case measure=>simp[intOf]
   |some p =>
    obtain⟨wh,ec⟩:=p;have hbk:Bk W2 Wk.heap.size 88 #[.bool true,.string wh,.int .i64 ec]:=hf2;obtain⟨⟨y0,y1,y2⟩,-⟩:=hbk.k3;clear hf2 hbk;have HE:Hid ((wh,ec)=R):=hid HK2.out;go_wp2_with fail;go_quiet (fail);go_wp2_with fail;go_ret2;exact⟨by rw[<-HE.out];rfl,below_drewN HB2.out nq⟩
  ·have hst:Chk.first ((Chk.dF x).drop 5)=Chk.first (Chk.run 134 (Chk.bU x) none::(Chk.dF x).drop (5+1)):=rfl
   have HK2:Hid (Chk.first (Chk.run 134 (Chk.bU x) none::(Chk.dF x).drop (5+1))=R):=hid (by rw[<-hst];exact HK.out);clear hst HK;have hix:=Q7;simp only[xY];go_upto_region 5 with(fail)
   refine aj (λW1 hW1=>?_);obtain⟨hb1,hq1,-⟩:=au hW1;clear hW1;have HB1:=hid (HB.out.trans (hb1.mono hbs));have HQ1:=hid (HQ.out.below hb1 HQ.out.lt);have HF1:Hid (Chk.Fb W1 Wk.heap.size none):=hid hq1;clear hb1 hq1 hix;obtain⟨⟨q0,q1,q2,q3⟩,-⟩:=HQ1.out.k4;go_wp2_with fail;refine(FT _ x (dA.out.mid (HP.out (by decide))) Wk.heap.size none w W1 HKW.out HV.out HB1.out hbs HF1.out).mono ?_;rintro e W2⟨rfl,hg2,hf2⟩;have HB2:=hid (jr HB1.out hg2 hbs HB1.out.size);have HQ2:=hid (Bk.grown HQ1.out hg2 (by have:=HQ.out.lt;intro e;injection e with e;omega));obtain⟨F,HF⟩:∃ F,Hid (Chk.run 134 (Chk.bU x) none=F):=⟨_,hid rfl⟩;rw[HF.out]at hf2 HK2;clear hg2 q0 q1 q2 q3;cases F with
   |none =>
    have hbk:Bk W2 Wk.heap.size 88 #[.bool false,.string ⟨#[]⟩,.int .i64 0]:=hf2;obtain⟨⟨y0,y1,y2⟩,-⟩:=hbk.k3;clear hf2 hbk;have HK3:Hid (Chk.first ((Chk.dF x).drop (5+1))=R):=hid HK2.out;go_wp2_with fail;go_roundw
    case rel=>exact⟨5+1,by omega,by go_num,HK3,hid (λ_=>HP.out (by decide)),HB2,HQ2⟩
    case measure=>simp[intOf]
   |some p =>
    obtain⟨wh,ec⟩:=p;have hbk:Bk W2 Wk.heap.size 88 #[.bool true,.string wh,.int .i64 ec]:=hf2;obtain⟨⟨y0,y1,y2⟩,-⟩:=hbk.k3;clear hf2 hbk;have HE:Hid ((wh,ec)=R):=hid HK2.out;go_wp2_with fail;go_quiet (fail);go_wp2_with fail;go_ret2;exact⟨by rw[<-HE.out];rfl,below_drewN HB2.out nq⟩
  ·have hst:Chk.first ((Chk.dF x).drop 6)=Chk.first (Chk.run 133 (Chk.nM x) none::(Chk.dF x).drop (6+1)):=rfl
   have HK2:Hid (Chk.first (Chk.run 133 (Chk.nM x) none::(Chk.dF x).drop (6+1))=R):=hid (by rw[<-hst];exact HK.out);clear hst HK;have hix:=Q5;simp only[xY];go_upto_region 5 with(fail)
   refine aj (λW1 hW1=>?_);obtain⟨hb1,hq1,-⟩:=au hW1;clear hW1;have HB1:=hid (HB.out.trans (hb1.mono hbs));have HQ1:=hid (HQ.out.below hb1 HQ.out.lt);have HF1:Hid (Chk.Fb W1 Wk.heap.size none):=hid hq1;clear hb1 hq1 hix;obtain⟨⟨q0,q1,q2,q3⟩,-⟩:=HQ1.out.k4;go_wp2_with fail;refine(JK _ x (dA.out.mid (HP.out (by decide))) Wk.heap.size none w W1 HKW.out HV.out HB1.out hbs HF1.out).mono ?_;rintro e W2⟨rfl,hg2,hf2⟩;have HB2:=hid (jr HB1.out hg2 hbs HB1.out.size);have HQ2:=hid (Bk.grown HQ1.out hg2 (by have:=HQ.out.lt;intro e;injection e with e;omega));obtain⟨F,HF⟩:∃ F,Hid (Chk.run 133 (Chk.nM x) none=F):=⟨_,hid rfl⟩;rw[HF.out]at hf2 HK2;clear hg2 q0 q1 q2 q3;cases F with
   |none =>
    have hbk:Bk W2 Wk.heap.size 88 #[.bool false,.string ⟨#[]⟩,.int .i64 0]:=hf2;obtain⟨⟨y0,y1,y2⟩,-⟩:=hbk.k3;clear hf2 hbk;have HK3:Hid (Chk.first ((Chk.dF x).drop (6+1))=R):=hid HK2.out;go_wp2_with fail;go_roundw
    case rel=>exact⟨6+1,by omega,by go_num,HK3,hid (λ_=>HP.out (by decide)),HB2,HQ2⟩
    case measure=>simp[intOf]
   |some p =>
    obtain⟨wh,ec⟩:=p;have hbk:Bk W2 Wk.heap.size 88 #[.bool true,.string wh,.int .i64 ec]:=hf2;obtain⟨⟨y0,y1,y2⟩,-⟩:=hbk.k3;clear hf2 hbk;have HE:Hid ((wh,ec)=R):=hid HK2.out;go_wp2_with fail;go_quiet (fail);go_wp2_with fail;go_ret2;exact⟨by rw[<-HE.out];rfl,below_drewN HB2.out nq⟩
  ·have hst:Chk.first ((Chk.dF x).drop 7)=Chk.first (Chk.run 240 (Chk.eU x) none::(Chk.dF x).drop (7+1)):=rfl
   have HK2:Hid (Chk.first (Chk.run 240 (Chk.eU x) none::(Chk.dF x).drop (7+1))=R):=hid (by rw[<-hst];exact HK.out);clear hst HK;have hix:=Qz;simp only[xY];go_upto_region 5 with(fail)
   refine aj (λW1 hW1=>?_);obtain⟨hb1,hq1,-⟩:=au hW1;clear hW1;have HB1:=hid (HB.out.trans (hb1.mono hbs));have HQ1:=hid (HQ.out.below hb1 HQ.out.lt);have HF1:Hid (Chk.Fb W1 Wk.heap.size none):=hid hq1;clear hb1 hq1 hix;obtain⟨⟨q0,q1,q2,q3⟩,-⟩:=HQ1.out.k4;go_wp2_with fail;refine(JO _ x (dA.out.mid (HP.out (by decide))).small Wk.heap.size none w W1 HV.out HB1.out hbs HF1.out).mono ?_;rintro e W2⟨rfl,hg2,hf2⟩;have HB2:=hid (jr HB1.out hg2 hbs HB1.out.size);have HQ2:=hid (Bk.grown HQ1.out hg2 (by have:=HQ.out.lt;intro e;injection e with e;omega));obtain⟨F,HF⟩:∃ F,Hid (Chk.run 240 (Chk.eU x) none=F):=⟨_,hid rfl⟩;rw[HF.out]at hf2 HK2;clear hg2 q0 q1 q2 q3;cases F with
   |none =>
    have hbk:Bk W2 Wk.heap.size 88 #[.bool false,.string ⟨#[]⟩,.int .i64 0]:=hf2;obtain⟨⟨y0,y1,y2⟩,-⟩:=hbk.k3;clear hf2 hbk;have HK3:Hid (Chk.first ((Chk.dF x).drop (7+1))=R):=hid HK2.out;go_wp2_with fail;go_roundw
    case rel=>exact⟨7+1,by omega,by go_num,HK3,hid (λ_=>HP.out (by decide)),HB2,HQ2⟩
    case measure=>simp[intOf]
   |some p =>
    obtain⟨wh,ec⟩:=p;have hbk:Bk W2 Wk.heap.size 88 #[.bool true,.string wh,.int .i64 ec]:=hf2;obtain⟨⟨y0,y1,y2⟩,-⟩:=hbk.k3;clear hf2 hbk;have HE:Hid ((wh,ec)=R):=hid HK2.out;go_wp2_with fail;go_quiet (fail);go_wp2_with fail;go_ret2;exact⟨by rw[<-HE.out];rfl,below_drewN HB2.out nq⟩
  ·have hst:Chk.first ((Chk.dF x).drop 8)=Chk.first (Chk.run 241 (Chk.cZ x) none::(Chk.dF x).drop (8+1)):=rfl
   have HK2:Hid (Chk.first (Chk.run 241 (Chk.cZ x) none::(Chk.dF x).drop (8+1))=R):=hid (by rw[<-hst];exact HK.out);clear hst HK;have hix:=Qy;simp only[xY];go_upto_region 5 with(fail)
   refine aj (λW1 hW1=>?_);obtain⟨hb1,hq1,-⟩:=au hW1;clear hW1;have HB1:=hid (HB.out.trans (hb1.mono hbs));have HQ1:=hid (HQ.out.below hb1 HQ.out.lt);have HF1:Hid (Chk.Fb W1 Wk.heap.size none):=hid hq1;clear hb1 hq1 hix;obtain⟨⟨q0,q1,q2,q3⟩,-⟩:=HQ1.out.k4;go_wp2_with fail;refine(JM _ x (dA.out.mid (HP.out (by decide))) Wk.heap.size none w W1 HKW.out HV.out HB1.out hbs HF1.out).mono ?_;rintro e W2⟨rfl,hg2,hf2⟩;have HB2:=hid (jr HB1.out hg2 hbs HB1.out.size);have HQ2:=hid (Bk.grown HQ1.out hg2 (by have:=HQ.out.lt;intro e;injection e with e;omega));obtain⟨F,HF⟩:∃ F,Hid (Chk.run 241 (Chk.cZ x) none=F):=⟨_,hid rfl⟩;rw[HF.out]at hf2 HK2;clear hg2 q0 q1 q2 q3;cases F with
   |none =>
    have hbk:Bk W2 Wk.heap.size 88 #[.bool false,.string ⟨#[]⟩,.int .i64 0]:=hf2;obtain⟨⟨y0,y1,y2⟩,-⟩:=hbk.k3;clear hf2 hbk;have HK3:Hid (Chk.first ((Chk.dF x).drop (8+1))=R):=hid HK2.out;go_wp2_with fail;go_roundw
    case rel=>exact⟨8+1,by omega,by go_num,HK3,hid (λ_=>HP.out (by decide)),HB2,HQ2⟩
    case measure=>simp[intOf]
   |some p =>
    obtain⟨wh,ec⟩:=p;have hbk:Bk W2 Wk.heap.size 88 #[.bool true,.string wh,.int .i64 ec]:=hf2;obtain⟨⟨y0,y1,y2⟩,-⟩:=hbk.k3;clear hf2 hbk;have HE:Hid ((wh,ec)=R):=hid HK2.out;go_wp2_with fail;go_quiet (fail);go_wp2_with fail;go_ret2;exact⟨by rw[<-HE.out];rfl,below_drewN HB2.out nq⟩
  ·have hst:Chk.first ((Chk.dF x).drop 9)=Chk.first (Chk.run 133 (Chk.dH x) none::(Chk.dF x).drop (9+1)):=rfl
   have HK2:Hid (Chk.first (Chk.run 133 (Chk.dH x) none::(Chk.dF x).drop (9+1))=R):=hid (by rw[<-hst];exact HK.out);clear hst HK;have hix:=Qx;simp only[xY];go_upto_region 5 with(fail)
   refine aj (λW1 hW1=>?_);obtain⟨hb1,hq1,-⟩:=au hW1;clear hW1;have HB1:=hid (HB.out.trans (hb1.mono hbs));have HQ1:=hid (HQ.out.below hb1 HQ.out.lt);have HF1:Hid (Chk.Fb W1 Wk.heap.size none):=hid hq1;clear hb1 hq1 hix;obtain⟨⟨q0,q1,q2,q3⟩,-⟩:=HQ1.out.k4;go_wp2_with fail;refine(Nv _ x (dA.out.mid (HP.out (by decide))) Wk.heap.size none w W1 HKW.out HV.out HB1.out hbs HF1.out).mono ?_;rintro e W2⟨rfl,hg2,hf2⟩;have HB2:=hid (jr HB1.out hg2 hbs HB1.out.size);have HQ2:=hid (Bk.grown HQ1.out hg2 (by have:=HQ.out.lt;intro e;injection e with e;omega));obtain⟨F,HF⟩:∃ F,Hid (Chk.run 133 (Chk.dH x) none=F):=⟨_,hid rfl⟩;rw[HF.out]at hf2 HK2;clear hg2 q0 q1 q2 q3;cases F with
   |none =>
    have hbk:Bk W2 Wk.heap.size 88 #[.bool false,.string ⟨#[]⟩,.int .i64 0]:=hf2;obtain⟨⟨y0,y1,y2⟩,-⟩:=hbk.k3;clear hf2 hbk;have HK3:Hid (Chk.first ((Chk.dF x).drop (9+1))=R):=hid HK2.out;go_wp2_with fail;go_roundw
    case rel=>exact⟨9+1,by omega,by go_num,HK3,hid (λ_=>HP.out (by decide)),HB2,HQ2⟩
    case measure=>simp[intOf]
   |some p =>
    obtain⟨wh,ec⟩:=p;have hbk:Bk W2 Wk.heap.size 88 #[.bool true,.string wh,.int .i64 ec]:=hf2;obtain⟨⟨y0,y1,y2⟩,-⟩:=hbk.k3;clear hf2 hbk;have HE:Hid ((wh,ec)=R):=hid HK2.out;go_wp2_with fail;go_quiet (fail);go_wp2_with fail;go_ret2;exact⟨by rw[<-HE.out];rfl,below_drewN HB2.out nq⟩
  ·have HE:Hid ((⟨#[]⟩,0)=R):=hid (by rw[<-HK.out];rfl)
   go_wp2_with fail;go_ret2;exact⟨by rw[<-HE.out];rfl,HB.out⟩
theorem Bc(v:Value)(x:Id.Sch)(hF:Chk.Fine x)(w:World)(hkw:Tk.KW w)(hv:Id.ay w none v x) :
  Calls Tryz.prog 10 #[v] w λe w'=>e=.returned (.tuple #[.string (Chk.check x).1,.int .i64 (Chk.check x).2])/\Below w.heap.size w w':=He v x hF.mid.wide w hkw hv
