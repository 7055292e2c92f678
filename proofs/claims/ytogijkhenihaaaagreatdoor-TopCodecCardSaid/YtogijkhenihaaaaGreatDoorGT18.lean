import Derived.Test.YtogijkhenihaaaaGreatDoorGT17
set_option linter.all false
set_option maxRecDepth 100000
set_option maxHeartbeats 0
namespace Go.Proofs.YtogijkhenihaaaaGreatDoor
open Lib (hid)
section
open Go.BigFrame Go.RowKit
namespace Sg
theorem kE{P:Program}{ops:Array Oper}{rest:List Oper}{o:Oper}{a:Act}{w:World}{Q:Exit->Act->World->Prop}(hgd:Region.wanted o (yielded ops a.tmps)=true)(ty:TypeId)(x:Operand)(ho:o.op=.load ty x)
  (g:Nat) (hx:a.eval x=.pointer (some ⟨g,0,none⟩)) (t:TypeId) (cs:Array Value) (d:TypeDesc) (hg:Bk w g t cs)
  (hu:P.underlying ty=some d) (hd:(match d with| .struct _| .array _ _=>true|_=>false)=true) (hi:(P.info? ty).map (·.size)=some cs.size)
  (h:wpList P ops Q rest (a.put o.dst (.agg cs)) w):wpList P ops Q (o::rest) a w :=
 wpList_step λK hK=>by
  rw[if_pos hgd];exact wp_load_row ty x ho g hx t cs (0,0) d hg hu hd hi (hK _ _ h)
end Sg
namespace Top
open Id Chk Ev
theorem Ef(s:ByteArray):(Ev.txt s).length<=10+s.size:=by
 unfold Ev.txt;rw[xI];have:=(Ev.mO s.size).2;have hl:s.data.toList.length=s.size:=by simp
 omega
def uD(key body:ByteArray)(n:Nat):Ev.Letter:=⟨1,1,2,0,key,n,⟨#[83]⟩,⟨#[116]⟩,0,body⟩
theorem Tf{key body:ByteArray}{n:Nat}(h1:1<=key.size)(h2:key.size<=64)(h3:body.size<=4096):Ev.right (uD key body n)=true:=by
 have e1:Ev.peer 1=true:=rfl;have e2:Ev.peer 2=true:=rfl;have e3:Tk.isName ⟨#[83]⟩=true:=by decide +kernel
 have e4:Tk.isName ⟨#[116]⟩=true:=by decide +kernel
 unfold Ev.right uD;simp[h1,h2,h3,e1,e2,e3,e4]
theorem XE{key body:ByteArray}{n:Nat}(h2:key.size<=64)(h3:body.size<=4096):(Ev.bytes (uD key body n)).length<=10000:=by
 have h4:=Ef key;have h5:=Ef body;have h6:=Ef ⟨#[83]⟩;have h7:=Ef ⟨#[116]⟩;have h8:=(Ev.mO 0).2;have h9:=Ev.yP n 8;have e1:(⟨#[83]⟩:ByteArray).size=1:=rfl;have e2:(⟨#[116]⟩:ByteArray).size=1:=rfl;have h10:∀ x,(Sm.le4 x).length=4:=λ_=>rfl
 unfold Ev.bytes Ev.head uD;simp only[xI,xJ,xO,h10,h9,Int.toNat_zero];omega
end Top
theorem NS(sv:Value)(x:Id.Sch)(hF:Chk.Fine x)(tv:Value)(t:List Id.Srt)(vs:Value)(v:List Vl.Node)(hl:v.length<=100000)(c key:ByteArray)(hc:c.size<=4096)(hcv:Cd.decP x t c.data.toList=(v,0,0))(n:Nat)(hn:n<18446744073709551616)(w:World)(hk:Tk.KW w)(hv:Id.aY w none sv x)(ht:Id.bf w none tv t)(hvv:Vl.fP w none vs v) :
  Calls Tryz.prog 19 #[sv,tv,vs,.string c,.string key,.int .u64 (n:Nat)] w λe w'=>e=.returned (.bool true)/\Below w.heap.size w w':=by
 have HKW:=hid hk;have HV:=hid hv;have HF:=hid hF;have HT:=hid ht;have HVV:=hid hvv;have HCV:=hid hcv;have HLL:=hid hl;obtain⟨A1,n1,c1,A2,n2,c2,A3,n3,c3,rfl,-,-,-⟩:=hv;clear hk hF ht hvv hcv hl;go_enter Tryz.func19,Tryz.ntmps19;go_upto_region 1 with(fail)
 refine ak (λV hV=>?_);have HL:=hid (Chk.Lx.start hV);clear hV;by_cases h1:key.size<1
 ·have t1:(key.size:Int)<1:=by omega
  go_wp2_with fail;go_ret;exact⟨rfl,HL.out.bel⟩
 have t1:¬(key.size:Int)<1:=by omega
 by_cases h2:64<key.size
 ·have t2:(64:Int)<(key.size:Int):=by omega
  go_wp2_with fail;go_ret;exact⟨rfl,HL.out.bel⟩
 have t2:¬(64:Int)<(key.size:Int):=by omega
 have HRT:=hid (Top.Tf (key:=key) (body:=c) (n:=n) (by omega) (by omega) hc);have HBL:=hid (Top.XE (key:=key) (body:=c) (n:=n) (by omega) hc);have HOK:Hid ((Top.uD key c n).ok):=hid ⟨by show 1<256;decide,by show 0<18446744073709551616;decide,hn⟩;have hpk:=λW hk=>Jk (Top.uD key c n) HOK.out ⟨by show(⟨#[83]⟩:ByteArray).size<=10000;decide,by show(⟨#[116]⟩:ByteArray).size<=10000;decide⟩ W hk
 have hp2:Ev.pack (Top.uD key c n)=(⟨(Ev.bytes (Top.uD key c n)).toArray⟩,0):=by
  unfold Ev.pack;rw[if_pos HRT.out]
 rw[hp2]at hpk;have hrd:Ev.jV ⟨(Ev.bytes (Top.uD key c n)).toArray⟩=(Top.uD key c n,0):=Ev.LH HOK.out HRT.out;obtain⟨PB,HPB⟩:∃ b:ByteArray,Hid ((⟨(Ev.bytes (Top.uD key c n)).toArray⟩:ByteArray)=b):=⟨_,hid rfl⟩;have hpz:PB.size<=10000:=by rw[<-HPB.out];show(Ev.bytes (Top.uD key c n)).toArray.size<=_;rw[List.size_toArray];exact HBL.out
 have hre:=λW hk=>Uh PB hpz W hk
 rw[HPB.out]at hpk hrd;rw[hrd]at hre;have HPK:Hid (∀ W,Tk.KW W->Calls Tryz.prog 66 #[.agg #[.int .u8 1,.int .i64 1,.int .i64 2,.int .u64 0,.string key,.int .u64 (n:Nat),.string ⟨#[83]⟩,.string ⟨#[116]⟩,.int .i64 0,.string c]] W λe w'=>e=.returned (.tuple #[.string PB,.int .i64 0])/\Below W.heap.size W w'):=hid hpk;have HRE:Hid (∀ W,Tk.KW W->Calls Tryz.prog 67 #[.string PB] W λe w'=>e=.returned (.tuple #[.agg #[.int .u8 1,.int .i64 1,.int .i64 2,.int .u64 0,.string key,.int .u64 (n:Nat),.string ⟨#[83]⟩,.string ⟨#[116]⟩,.int .i64 0,.string c],.int .i64 0])/\Below W.heap.size W w'):=hid hre;clear hpk hrd hre hp2 hpz HPB HBL HRT HOK h1 h2;go_upto_region 4 with(fail)
 refine ak (λV2 hV=>?_);obtain⟨hb2,hq2,-⟩:=ay hV;have HL2:=hid (HL.out.below hb2);have HQ2:=hid hq2;clear hV hb2 hq2 HL t1 t2;have hL:=HQ2.out;have hL:V2.heap[V.heap.size]?=some (.cells _ _ (0,0)):=hL;go_wp2_with(refine wpList_load_row rfl _ _ rfl _ rfl _ _ _ _ hL Tryz.underlying56 rfl (by kernel_rfl) ?_);refine(HPK.out _ (HKW.out.below HL2.out.bel)).mono ?_;rintro e W3⟨rfl,hb3⟩;have HL3:=hid (HL2.out.below hb3);have HQ3:=hid (HQ2.out.below hb3 HQ2.out.lt);clear hb3 hL HL2 HQ2;go_wp2_with fail;refine(HRE.out _ (HKW.out.below HL3.out.bel)).mono ?_;rintro e W4⟨rfl,hb4⟩;have HL4:=hid (HL3.out.below hb4);have HQ4:=hid (HQ3.out.below hb4 HQ3.out.lt);clear hb4 HL3 HQ3;go_upto_region 6 with(fail)
 refine ak (λV5 hV=>?_);obtain⟨hb5,hq5,-⟩:=ay hV;have HL5:=hid (HL4.out.below hb5);have HQ5:=hid (HQ4.out.below hb5 HQ4.out.lt);have HX5:=hid hq5;clear hV hb5 hq5 HL4 HQ4;have hL1:V5.heap[V.heap.size]?=some (.cells _ _ (0,0)):=HQ5.out;have hL2:V5.heap[W4.heap.size]?=some (.cells _ _ (0,0)):=HX5.out;have hL3:V5.heap[w.heap.size]?=some (.cells _ _ (0,0)):=HL5.out.box;have c9:=HX5.out.cell 9;simp only[List.getElem?_toArray,List.getElem?_cons_zero,List.getElem?_cons_succ]at c9;have HDE:=hid (λW hk hv ht=>Di (.agg #[.string x.name,.slice A1 n1 c1,.slice A2 n2 c2,.slice A3 n3 c3]) x HF.out tv t c (xM hc (by decide)) W hk hv ht);rw[HCV.out]at HDE;go_wp2_with(first|(refine Sg.kE (by kernel_rfl) _ _ rfl _ rfl _ _ _ hL1 Tryz.underlying56 rfl (by kernel_rfl) ?_)|(refine Sg.kE (by kernel_rfl) _ _ rfl _ rfl _ _ _ hL2 Tryz.underlying56 rfl (by kernel_rfl) ?_)|(refine Sg.kE (by kernel_rfl) _ _ rfl _ rfl _ _ _ hL3 Tryz.underlying28 rfl (by kernel_rfl) ?_));refine(HDE.out _ (HKW.out.below HL5.out.bel) (Id.aY.below HL5.out.bel HV.out) (Id.bf.below HT.out HL5.out.bel)).mono ?_;rintro e W6⟨vv,rfl,hb6,hr⟩;have HRV:=hid (Vl.fP.none hr);have HL6:=hid (HL5.out.below hb6);clear hr hb6 hL1 hL2 hL3 c9 HL5 HDE;simp only[xY];go_wp2_with fail;refine(LD _ _ v v _ (Vl.fP.below HVV.out HL6.out.bel) HRV.out HLL.out).mono ?_;rw[Vl.jy];rintro e W7⟨rfl,hb7⟩;have HL7:=hid (HL6.out.below hb7);go_wp2_with fail;go_ret;exact⟨rfl,HL7.out.bel⟩
end
namespace Qm
open Id Prn
def wt(l:List Tk.Tok):Nat:=1 * (l.map λt=>t.text.size+1).sum
def wl(l:List ByteArray):Nat:=(l.map λt=>t.size+1).sum
theorem oH(t:Tk.Tok)(l:List Tk.Tok):wt (t::l)=1 * (t.text.size+1)+wt l:=by unfold wt;simp
theorem aA(t:ByteArray)(l:List ByteArray):wl (t::l)=(t.size+1)+wl l:=by unfold wl;simp
theorem fH:wl []=0:=rfl
theorem eG(a b:List ByteArray):wl (a++b)=wl a+wl b:=by unfold wl;simp
theorem qL{s:St}{x:ByteArray}(h:is s x=true):s.2=false/\wt s.1=1 * (x.size+1)+wt s.1.tail:=by
 obtain⟨l,b⟩:=s;unfold is at h;simp only[xX,Bool.not_eq_true']at h;refine⟨h.1,?_⟩;cases l with
 |nil=>cases h.2
 |cons t r =>
  have h2:=h.2;simp only[xX,beq_iff_eq]at h2;show wt (t::r)=_+wt r
  rw[oH,Tk.text_eq h2.2]
theorem dG{s:St}{x:ByteArray}(h:(want s x).2=false):s.2=false/\wt s.1=1 * (x.size+1)+wt (want s x).1:=by
 unfold want at h ⊢;split at h
 ·rename_i hi
  rw[if_pos hi];exact qL hi
 ·cases h
theorem vF{s:St}{k:Nat}{p:Tk.Tok->Bool}(h:(one s k p).2.2=false):s.2=false/\wt s.1=1 * ((one s k p).1.text.size+1)+wt (one s k p).2.1:=by
 obtain⟨l,b⟩:=s;cases l with
 |nil=>unfold one at h;cases h
 |cons t r =>
  cases b with
  |true=>unfold one at h;cases h
  |false =>
   unfold one at h ⊢;by_cases hc:t.kind=k/\p t=true
   ·simp only[hc,and_self,if_true]
    exact⟨trivial,oH t r⟩
   ·simp only[hc,if_false]at h
    cases h
theorem Jq{s:St}{k:Nat}{p:Tk.Tok->Bool}(h:(one s k p).2.2=false):p (one s k p).1=true:=by
 obtain⟨l,b⟩:=s;cases l with
 |nil=>unfold one at h;cases h
 |cons t r =>
  cases b with
  |true=>unfold one at h;cases h
  |false =>
   unfold one at h ⊢;by_cases hc:t.kind=k/\p t=true
   ·simp only[hc,and_self,if_true]
   ·simp only[hc,if_false]at h
    cases h
theorem eP{s:St}(h:(name s).2.2=false):s.2=false/\wt s.1=1 * ((name s).1.size+1)+wt (name s).2.1:=vF h
theorem Ju{s:St}(h:(num s).2.2=false):s.2=false/\1+wt (num s).2.1<=wt s.1:=by
 obtain⟨a,b⟩:=vF h;refine⟨a,?_⟩;have:wt (num s).2.1=wt (one s 2 (λ_=>true)).2.1:=rfl;omega
theorem fM{ws:List ByteArray}{s:St}(h:(words ws s).2.2=false):s.2=false/\wt s.1=1 * ((words ws s).1.size+1)+wt (words ws s).2.1:=vF h
theorem vg{ws:List ByteArray}{s:St}(h:(words ws s).2.2=false):∃ w∈ws,(words ws s).1=w:=by
 have h1:=Jq h;unfold among at h1;rw[List.any_eq_true]at h1;obtain⟨w,hw,he⟩:=h1;have h2:(one s 1 λt=>ws.any λx=>t.text.toList==x.toList).1.text.toList=w.toList:=by simpa using he
 exact⟨w,hw,Tk.text_eq h2⟩
theorem iK{a:ByteArray}{l:List UInt8}(h:a.toList=l):a=⟨l.toArray⟩:=by
 refine Tk.text_eq ?_;rw[h,ByteArray.toList_eq]
theorem wK{a:ByteArray}(h:endW a≠0):bK ⟨endW a,⟨#[]⟩⟩=a:=by
 unfold endW at h ⊢;split
 ·rename_i h1;rw[iK h1];rfl
 ·rename_i h1
  rw[if_neg h1]at h;split
  ·rename_i h2;rw[iK h2];rfl
  ·rename_i h2
   rw[if_neg h2]at h;split
   ·rename_i h3;rw[iK h3];rfl
   ·rename_i h3
    rw[if_neg h3]at h;split
    ·rename_i h4;rw[iK h4];rfl
    ·rename_i h4
     rw[if_neg h4]at h;exact absurd rfl h
def sN(t:Srt):ByteArray:=t.name
theorem nN:∀(f:Nat)(s:St)(acc:List Srt),(bG f s acc).2.2=false->s.2=false/\wl ((bG f s acc).1.map sN)+wt (bG f s acc).2.1<=wt s.1+wl (acc.map sN)
 |0,s,acc,h=>⟨h,by show wl []+wt s.1<=_;rw[fH];omega⟩
 |f+1,s,acc,h=>by
  unfold bG at h ⊢;by_cases h0:s.2=true
  ·rw[if_pos h0]at h;rw[h0]at h;cases h
  ·have h0':s.2=false:=by simpa using h0
   rw[if_neg h0]at h ⊢;by_cases h1:is s iD=true
   ·rw[if_pos h1]at h ⊢
    obtain⟨_,b⟩:=nN f _ _ h;obtain⟨_,c⟩:=qL h1;rw[List.map_append,eG]at b;have e:wl (([⟨5,⟨#[]⟩⟩]:List Srt).map sN)=1:=rfl;rw[e]at b;exact⟨h0',by simp only at b;omega⟩
   ·rw[if_neg h1]at h ⊢
    by_cases h2:is s jM=true
    ·rw[if_pos h2]at h ⊢
     obtain⟨_,b⟩:=nN f _ _ h;obtain⟨_,c⟩:=qL h2;rw[List.map_append,eG]at b;have e:wl (([⟨6,⟨#[]⟩⟩]:List Srt).map sN)=1:=rfl;rw[e]at b;exact⟨h0',by simp only at b;omega⟩
    ·rw[if_neg h2]at h ⊢
     by_cases h3:ends s=true
     ·rw[if_pos h3]at h ⊢
      refine⟨h0',?_⟩;obtain⟨l,bb⟩:=s;cases l with
      |nil=>cases h3
      |cons t r =>
       unfold ends at h3;simp only[xX,Bool.not_eq_true',xG]at h3;show wl ((acc++[(⟨endW t.text,⟨#[]⟩⟩:Srt)]).map sN)+wt r<=wt (t::r)+_
       rw[List.map_append,eG,oH];show wl (acc.map sN)+wl [sN (⟨endW t.text,⟨#[]⟩⟩:Srt)]+_<=_
       rw[show sN (⟨endW t.text,⟨#[]⟩⟩:Srt)=⟨#[]⟩from rfl,aA,fH];have:(⟨#[]⟩:ByteArray).size=0:=rfl;omega
     ·rw[if_neg h3]at h ⊢
      obtain⟨_,b⟩:=eP h;refine⟨h0',?_⟩;rw[List.map_append,eG];show wl (acc.map sN)+wl [sN (⟨7,(name s).1⟩:Srt)]+_<=_
      rw[show sN (⟨7,(name s).1⟩:Srt)=(name s).1 from rfl,aA,fH];show _+wt (name s).2.1<=_
      omega
theorem Dq{s:St}(h:(sorts s).2.2=false):s.2=false/\wl ((sorts s).1.map sN)+wt (sorts s).2.1<=wt s.1:=nN _ _ _ h
def zL(f:Fld):List ByteArray:=f.name::gu::(f.type.map sN++[aK])
theorem DN{s:St}(h:(field s).2.2=false):s.2=false/\wl (zL (field s).1)+wt (field s).2.1<=wt s.1:=by
 unfold field at h ⊢;obtain⟨a,e1⟩:=dG h;obtain⟨b,e2⟩:=Dq a;obtain⟨c,e3⟩:=dG b;obtain⟨d,e4⟩:=eP c;refine⟨d,?_⟩;unfold zL;rw[aA,aA,eG,aA,fH];simp only at e1 e2 e3 e4 ⊢;omega
theorem vS{s:St}(h:(arg s).2.2=false):s.2=false/\wt s.1=1 * (eH.size+1)+1 * ((arg s).1.size+1)+1 * (dK.size+1)+wt (arg s).2.1:=by
 unfold arg at h ⊢;obtain⟨a,e1⟩:=dG h;obtain⟨b,e2⟩:=eP a;obtain⟨c,e3⟩:=dG b;refine⟨c,?_⟩;simp only at e1 e2 e3 ⊢;omega
def nM(p:Stp):List ByteArray:=[wDo,p.service,jU,p.method,wAt,⟨#[]⟩,aK]
def pq(g:Sag):List ByteArray:=iR::g.name::eH::g.arg::dK::aN::g.steps.flatMap nM
theorem EY{s:St}(h:(Id.step s).2.2=false):s.2=false/\wl (nM (Id.step s).1)+wt (Id.step s).2.1<=wt s.1:=by
 unfold Id.step at h ⊢;dsimp only at h ⊢;obtain⟨a,e1⟩:=dG h;obtain⟨b,e2⟩:=Ju a;obtain⟨c,e3⟩:=dG b;obtain⟨d,e4⟩:=eP c;obtain⟨d,e5⟩:=dG d;obtain⟨d,e6⟩:=eP d;obtain⟨d,e7⟩:=dG d;refine⟨d,?_⟩;unfold nM;rw[aA,aA,aA,aA,aA,aA,aA,fH];have:(⟨#[]⟩:ByteArray).size=0:=rfl;simp only at e1 e2 e3 e4 e5 e6 e7 ⊢;omega
theorem vK{a:ByteArray}(h:∃ w∈[eX,dB],a=w):bK ⟨endW a,⟨#[]⟩⟩=a:=by
 obtain⟨w,hw,rfl⟩:=h;refine wK ?_;simp only[yH,List.not_mem_nil,or_false]at hw;rcases hw with rfl|rfl<;>decide +kernel
theorem BD{s:St}(h:(Id.method s).2.2=false):s.2=false/\wl (gZ (Id.method s).1)+wt (Id.method s).2.1<=wt s.1:=by
 unfold Id.method at h ⊢;dsimp only at h ⊢;obtain⟨a0,ea⟩:=dG h;by_cases ht:(take (words [eX,dB] (want (arg (name (words [dJ,dH,dI] s).2).2).2 dA)).2 bU).1=true
 ·rw[if_pos ht]at a0 ea ⊢
  obtain⟨b0,eb⟩:=eP a0;unfold take at ht;split at ht
  ·rename_i hi
   have htk:take (words [eX,dB] (want (arg (name (words [dJ,dH,dI] s).2).2).2 dA)).2 bU=(true,((words [eX,dB] (want (arg (name (words [dJ,dH,dI] s).2).2).2 dA)).2.1.tail,(words [eX,dB] (want (arg (name (words [dJ,dH,dI] s).2).2).2 dA)).2.2)):=by unfold take;rw[if_pos hi]
   rw[htk]at b0 eb ea ⊢;obtain⟨c0,ec⟩:=qL hi;have hr:=vK (vg c0);obtain⟨d0,ed⟩:=fM c0;obtain⟨e0,ee⟩:=dG d0;obtain⟨f0,ef⟩:=vS e0;obtain⟨g0,eg⟩:=eP f0;obtain⟨k0,ek⟩:=fM g0;refine⟨k0,?_⟩;unfold gZ kM;simp only[hr];have hu:∀ u:ByteArray,wl (if u.toList.isEmpty=true then[]else[bU,u])<=(bU.size+1)+(u.size+1):=λu=>by
    split
    ·rw[fH];omega
    ·rw[aA,aA,fH];omega
   have hu':=hu (name ((words [eX,dB] (want (arg (name (words [dJ,dH,dI] s).2).2).2 dA)).2.1.tail,(words [eX,dB] (want (arg (name (words [dJ,dH,dI] s).2).2).2 dA)).2.2)).1;rw[aA,aA,aA,aA,aA,aA,aA,eG,aA,fH];simp only at ea eb ec ed ee ef eg ek hu' ⊢;omega
  ·cases ht
 ·rw[if_neg ht]at a0 ea ⊢
  have htk:(take (words [eX,dB] (want (arg (name (words [dJ,dH,dI] s).2).2).2 dA)).2 bU).2=(words [eX,dB] (want (arg (name (words [dJ,dH,dI] s).2).2).2 dA)).2:=by
   unfold take at ht ⊢;split
   ·rename_i hi
    rw[if_pos hi]at ht;exact absurd rfl ht
   ·rfl
  simp only[htk]at a0 ea ⊢;have hr:=vK (vg a0);obtain⟨d0,ed⟩:=fM a0;obtain⟨e0,ee⟩:=dG d0;obtain⟨f0,ef⟩:=vS e0;obtain⟨g0,eg⟩:=eP f0;obtain⟨k0,ek⟩:=fM g0;refine⟨k0,?_⟩;unfold gZ kM;have hz:(⟨#[]⟩:ByteArray).toList.isEmpty=true:=by decide +kernel
  simp only[hr,hz,if_true];rw[aA,aA,aA,aA,aA,aA,aA,eG,aA,fH];omega
theorem qE{α:Type}{read:St->α × St}{g:α->List ByteArray}(hr:∀ s,(read s).2.2=false->s.2=false/\wl (g (read s).1)+wt (read s).2.1<=wt s.1) :
  ∀(f:Nat)(s:St)(acc:List α),(aU read f s acc).2.2=false->s.2=false/\wl ((aU read f s acc).1.flatMap g)+wt (aU read f s acc).2.1<=wt s.1+wl (acc.flatMap g)
 |0,s,acc,h=>⟨h,by show wl (acc.flatMap g)+wt s.1<=_;omega⟩
 |f+1,s,acc,h=>by
  unfold aU at h ⊢;by_cases h0:s.2=true
  ·rw[if_pos h0]at h;rw[h0]at h;cases h
  ·have h0':s.2=false:=by simpa using h0
   rw[if_neg h0]at h ⊢;by_cases h1:is s aJ=true
   ·rw[if_pos h1]at h ⊢
    obtain⟨_,c⟩:=qL h1;exact⟨h0',by simp only;omega⟩
   ·rw[if_neg h1]at h ⊢
    obtain⟨a,b⟩:=qE hr f _ _ h;obtain⟨_,c⟩:=hr s a;rw[if_neg (by rw[a];simp)]at b h ⊢;rw[List.flatMap_append,eG]at b;simp only[yJ,List.flatMap_nil,List.append_nil]at b;exact⟨h0',by omega⟩
theorem nH{α:Type}{read:St->α × St}{g:α->List ByteArray}(hr:∀ s,(read s).2.2=false->s.2=false/\wl (g (read s).1)+wt (read s).2.1<=wt s.1){s:St}(h:(within read s).2.2=false) :
  s.2=false/\wl ((within read s).1.flatMap g)+wt (within read s).2.1+1 * (aN.size+1)<=wt s.1:=by
 unfold within at h ⊢;obtain⟨a,b⟩:=qE hr _ _ _ h;obtain⟨c,d⟩:=dG a;have e:wl (([]:List α).flatMap g)=0:=rfl;rw[e]at b;exact⟨c,by omega⟩
def yX(r:Rec):List ByteArray:=(if r.choice then fF else fE)::r.name::aN::r.fields.flatMap zL
def Au(v:Svc):List ByteArray:=dW::v.name::aN::v.methods.flatMap gZ
theorem sW{c:Bool}{s:St}(h:(record c s).2.2=false):s.2=false/\wl (yX (record c s).1)+wt (record c s).2.1<=wt s.1+7:=by
 unfold record at h ⊢;obtain⟨a,e1⟩:=nH (g:=zL) (λs h=>DN h) h;obtain⟨b,e2⟩:=eP a;refine⟨b,?_⟩;unfold yX;have hc:(if c=true then fF else fE).size=6:=by cases c<;>rfl
 have h1:aN.size=1:=rfl;rw[aA,aA,aA];simp only at e1 e2 hc ⊢;omega
theorem yT{s:St}(h:(service s).2.2=false):s.2=false/\wl (Au (service s).1)+wt (service s).2.1<=wt s.1+8:=by
 unfold service at h ⊢;obtain⟨a,e1⟩:=nH (g:=gZ) (λs h=>BD h) h;obtain⟨b,e2⟩:=eP a;refine⟨b,?_⟩;unfold Au;have hc:dW.size=7:=rfl;have h1:aN.size=1:=rfl;rw[aA,aA,aA];simp only at e1 e2 hc ⊢;omega
theorem Fa{s:St}(h:(saga s).2.2=false):s.2=false/\wl (pq (saga s).1)+wt (saga s).2.1<=wt s.1+5:=by
 unfold saga at h ⊢;obtain⟨a,e1⟩:=nH (g:=nM) (λs h=>EY h) h;obtain⟨b,e2⟩:=vS a;obtain⟨c,e3⟩:=eP b;refine⟨c,?_⟩;unfold pq;have hc:iR.size=4:=rfl;have h1:aN.size=1:=rfl;rw[aA,aA,aA,aA,aA,aA];simp only at e1 e2 e3 hc ⊢;omega
def wx(x:Sch):Nat:=wl (x.records.flatMap yX)+(wl (x.services.flatMap Au)+wl (x.sagas.flatMap pq))
theorem lS{α:Type}(g:α->List ByteArray)(l:List α)(a:α):wl ((l++[a]).flatMap g)=wl (l.flatMap g)+wl (g a):=by
 rw[List.flatMap_append,eG];simp only[yJ,List.flatMap_nil,List.append_nil]
theorem gG:∀(f:Nat)(s:St)(x:Sch),(aF f s x).2.2=false->s.2=false/\(aF f s x).1.name=x.name/\wx (aF f s x).1+wt (aF f s x).2.1<=wt s.1+wx x
 |0,s,x,h=>⟨h,rfl,by show wx x+wt s.1<=_;omega⟩
 |f+1,s,x,h=>by
  unfold aF at h ⊢;by_cases h0:s.2=true∨s.1=[]
  ·rw[if_pos h0]at h ⊢
   exact⟨h,rfl,by simp only;omega⟩
  ·have h0':s.2=false:=by
    cases hb:s.2
    ·rfl
    ·exact absurd (.inl hb) h0
   rw[if_neg h0]at h ⊢;split at h
   ·rename_i h1
    rw[if_pos h1];obtain⟨a,n,b⟩:=gG f _ _ h;obtain⟨c,d⟩:=sW a;obtain⟨_,e⟩:=fM c;rw[iK h1]at e;refine⟨h0',n,?_⟩;have hw:∀ y:Rec,wx { x with records:=x.records++[y] }=wx x+wl (yX y):=λy=>by
     unfold wx;simp only;rw[lS];omega
    rw[hw]at b;have hz:(⟨[(114:UInt8),101,99,111,114,100].toArray⟩:ByteArray).size=6:=rfl;rw[hz]at e;omega
   ·rename_i h1
    rw[if_neg h1];split at h
    ·rename_i h2
     rw[if_pos h2];obtain⟨a,n,b⟩:=gG f _ _ h;obtain⟨c,d⟩:=sW a;obtain⟨_,e⟩:=fM c;rw[iK h2]at e;refine⟨h0',n,?_⟩;have hw:∀ y:Rec,wx { x with records:=x.records++[y] }=wx x+wl (yX y):=λy=>by
      unfold wx;simp only;rw[lS];omega
     rw[hw]at b;have hz:(⟨[(99:UInt8),104,111,105,99,101].toArray⟩:ByteArray).size=6:=rfl;rw[hz]at e;omega
    ·rename_i h2
     rw[if_neg h2];split at h
     ·rename_i h3
      rw[if_pos h3];obtain⟨a,n,b⟩:=gG f _ _ h;obtain⟨c,d⟩:=yT a;obtain⟨_,e⟩:=fM c;rw[iK h3]at e;refine⟨h0',n,?_⟩;have hw:∀ y:Svc,wx { x with services:=x.services++[y] }=wx x+wl (Au y):=λy=>by
       unfold wx;simp only;rw[lS];omega
      rw[hw]at b;have hz:(⟨[(115:UInt8),101,114,118,105,99,101].toArray⟩:ByteArray).size=7:=rfl;rw[hz]at e;omega
     ·rename_i h3
      rw[if_neg h3];split at h
      ·rename_i h4
       rw[if_pos h4];obtain⟨a,n,b⟩:=gG f _ _ h;obtain⟨c,d⟩:=Fa a;obtain⟨_,e⟩:=fM c;rw[iK h4]at e;refine⟨h0',n,?_⟩;have hw:∀ y:Sag,wx { x with sagas:=x.sagas++[y] }=wx x+wl (pq y):=λy=>by
        unfold wx;simp only;rw[lS];omega
       rw[hw]at b;have hz:(⟨[(115:UInt8),97,103,97].toArray⟩:ByteArray).size=4:=rfl;rw[hz]at e;omega
      ·rename_i h4
       rw[if_neg h4];obtain⟨a,n,b⟩:=gG f _ _ h;obtain⟨_,e⟩:=fM a;exact⟨h0',n,by omega⟩
def uj(x:Sch):Nat:=(bT.size+1)+((x.name.size+1)+((aK.size+1)+wx x))
theorem AO{s:St}(h:(schema s).2.2=false):uj (schema s).1+wt (schema s).2.1<=wt s.1:=by
 unfold schema at h ⊢;dsimp only at h ⊢;obtain⟨a,n,b⟩:=gG _ _ _ h;obtain⟨c,d⟩:=dG a;obtain⟨e,g⟩:=eP c;obtain⟨k,l⟩:=dG e;unfold uj;rw[n];have hz:wx ⟨(name (want s bT)).1,[],[],[]⟩=0:=rfl;rw[hz]at b;simp only at b ⊢;omega
def Ap(s:ByteArray):Nat->List Tk.Tok->Prop
 |_,[]=>True
 |e,t::l=>(e<=t.at_/\0<t.text.size/\t.at_+t.text.size<=s.size)/\Ap s (t.at_+t.text.size) l
theorem Ap.mono{s:ByteArray}{e e':Nat}{l:List Tk.Tok}(h:Ap s e l)(he:e'<=e):Ap s e' l:=by
 cases l with
 |nil=>trivial
 |cons t l=>exact⟨⟨xM he h.1.1,h.1.2⟩,h.2⟩
theorem yu(d:Nat)(s:ByteArray):∀(f k:Nat)(acc:List Tk.Tok),(Tk.scan d s f k acc).2.2=0->∃ rest,(Tk.scan d s f k acc).1=acc++rest/\Ap s k rest
 |0,k,acc,_=>⟨[],by simp[Tk.scan],trivial⟩
 |f+1,k,acc,h=>by
  by_cases h1:k<s.size
  ·by_cases h2:(Tk.aH d s k).2=0
   ·rw[Tk.scan_ok h1 h2]at h ⊢
    obtain⟨rest,e,ha⟩:=yu d s f _ _ h;refine⟨(Tk.aH d s k).1::rest,by rw[e];simp,⟨?_,?_⟩⟩
    ·have hk:=Tk.nV h1 h2
     rw[Tk.zi];exact⟨xB _,by omega,hk.2⟩
    ·rw[Tk.zi]
     exact ha.mono (Tk.lF _ _ _)
   ·rw[Tk.nR h1 h2]at h
    exact absurd h h2
  ·rw[Tk.iY h1]
   exact⟨[],by simp,trivial⟩
theorem KR{s:ByteArray}(h:(Tk.all s).2.2=0):Ap s 0 (Tk.all s).1:=by
 unfold Tk.all at h ⊢;split at h
 ·cases h
 ·rename_i hn
  rw[if_neg hn];obtain⟨rest,e,ha⟩:=yu 3 s _ _ _ h;rw[e,yI];exact ha.mono (Nat.zero_le _)
theorem vT{s:ByteArray}:∀(l:List Tk.Tok)(e:Nat),Ap s e l->e<=s.size->wt l<=2 * (s.size - e)
 |[],e,_,_=>Nat.zero_le _
 |t::l,e,h,he=>by
  obtain⟨⟨h1,h2,h3⟩,h5⟩:=h;have:=vT l _ h5 (by omega);rw[oH];omega
theorem Dz{s:ByteArray}(h:(parse s).2.2=0):uj (parse s).1<=2 * s.size:=by
 unfold parse whole at h ⊢;by_cases h0:(Tk.all s).2.2≠0
 ·rw[if_pos h0]at h
  exact absurd h h0
 ·rw[if_neg h0]at h ⊢
  have hap:=KR (s:=s) (by omega);have hw:=vT _ _ hap (Nat.zero_le _);have hs:=AO (s:=((Tk.all s).1,false));generalize(schema ((Tk.all s).1,false))=R at h hs ⊢;obtain⟨x,r,b⟩:=R;cases r with
  |cons t q=>simp only at h;cases h
  |nil =>
   cases b with
   |true=>simp only[if_true]at h;cases h
   |false =>
    have:=hs rfl;simp only at this ⊢;show uj x<=_
    omega
end Qm
namespace Qm
open Id Prn
theorem vw{α:Type}{g:α->List ByteArray}:∀{l:List α}{a:α},a∈l->wl (g a)<=wl (l.flatMap g)
 |b::l,a,h=>by
  rw[yJ,eG];rcases List.mem_cons.1 h with rfl|h
  ·omega
  ·have:=vw (g:=g) h
   omega
theorem vC{α:Type}{g:α->List ByteArray}(h:∀ a,1<=wl (g a)):∀ l:List α,l.length<=wl (l.flatMap g)
 |[]=>Nat.zero_le _
 |a::l=>by
  rw[yJ,eG,xJ];have h1:=h a;have h2:=vC h l;omega
theorem MV:∀{l:List ByteArray}{w:ByteArray},w∈l->w.size+1<=wl l
 |b::l,w,h=>by
  rw[aA];rcases List.mem_cons.1 h with rfl|h
  ·omega
  ·have:=MV h
   omega
theorem MW:∀ l:List ByteArray,l.length<=wl l
 |[]=>Nat.zero_le _
 |a::l=>by
  rw[aA,xJ];have:=MW l;omega
theorem size_empty{t:ByteArray}(h:t.toList.isEmpty=true):t.size=0:=by
 have e2:t.toList=ByteArray.empty.toList:=by rw[List.isEmpty_iff.1 h];decide +kernel
 rw[Tk.text_eq e2];rfl
theorem OG{s:ByteArray}(h:(parse s).2.2≠0):(parse s).1=Sch.zero:=by
 unfold parse whole at *;by_cases h1:(Tk.all s).2.2≠0
 ·rw[if_pos h1]
 ·rw[if_neg h1]at h ⊢
  split
  ·rename_i he
   simp only[he]at h;split
   ·rfl
   ·rename_i hb
    rw[if_neg hb]at h;exact absurd rfl h
  ·rfl
theorem OH{s:ByteArray}(hs:s.size<=5000):Chk.DU (parse s).1:=by
 by_cases h:(parse s).2.2=0
 case neg =>
  have hz:(parse s).1=Sch.zero:=OG h;rw[hz];exact⟨by decide,by decide,by decide,by decide,λr hr=>(by cases hr),λv hv=>(by cases hv),λg hg=>(by cases hg)⟩
 have hw:=Dz h;generalize(parse s).1=x at hw;have hx:wx x+x.name.size<=10000:=by unfold uj at hw;omega
 unfold wx at hx;have hR:∀ r:Rec,wl (yX r)=((if r.choice then fF else fE).size+1)+((r.name.size+1)+((aN.size+1)+wl (r.fields.flatMap zL))):=λr=>by unfold yX;rw[aA,aA,aA]
 have hV:∀ v:Svc,wl (Au v)=(dW.size+1)+((v.name.size+1)+((aN.size+1)+wl (v.methods.flatMap gZ))):=λv=>by unfold Au;rw[aA,aA,aA]
 have hG:∀ g:Sag,wl (pq g)=(iR.size+1)+((g.name.size+1)+((eH.size+1)+((g.arg.size+1)+((dK.size+1)+((aN.size+1)+wl (g.steps.flatMap nM)))))):=λg=>by unfold pq;rw[aA,aA,aA,aA,aA,aA]
 have hF:∀ f:Fld,wl (zL f)=(f.name.size+1)+((gu.size+1)+(wl (f.type.map sN)+wl [aK])):=λf=>by unfold zL;rw[aA,aA,eG]
 have hM:∀ m:Mth,m.name.size+m.arg.size+m.effect.size+m.undo.size+1<=wl (gZ m):=λm=>by
  unfold gZ;rw[aA,aA,aA,aA,aA,aA,aA,eG];have hu:m.undo.size<=wl (kM m):=by
   unfold kM;by_cases he:m.undo.toList.isEmpty=true
   ·rw[if_pos he]
    have:m.undo.size=0:=size_empty he;omega
   ·rw[if_neg he,aA,aA,fH]
    omega
  omega
 have hP:∀ p:Stp,p.service.size+p.method.size+1<=wl (nM p):=λp=>by
  unfold nM;rw[aA,aA,aA,aA,aA,aA,aA,fH];omega
 have l1:=vC (g:=yX) (λr=>by rw[hR];omega) x.records;have l2:=vC (g:=Au) (λv=>by rw[hV];omega) x.services;have l3:=vC (g:=pq) (λg=>by rw[hG];omega) x.sagas;refine⟨by omega,by omega,by omega,by omega,λr hr=>?_,λv hv=>?_,λg hg=>?_⟩
 ·have h1:=vw (g:=yX) hr
  rw[hR]at h1;have h2:=vC (g:=zL) (λf=>by rw[hF];omega) r.fields;refine⟨by omega,by omega,λf hf=>?_⟩;have h3:=vw (g:=zL) hf;rw[hF]at h3;have h4:=MW (f.type.map sN);rw[List.length_map]at h4;refine⟨by omega,by omega,λt ht=>?_⟩;have h5:=MV (List.mem_map_of_mem (f:=sN) ht);have h6:(sN t).size=t.name.size:=rfl;omega
 ·have h1:=vw (g:=Au) hv
  rw[hV]at h1;have h2:=vC (g:=gZ) (λm=>by have:=hM m;omega) v.methods;refine⟨by omega,by omega,λm hm=>?_⟩;have h3:=vw (g:=gZ) hm;have h4:=hM m;exact⟨by omega,by omega,by omega,by omega⟩
 ·have h1:=vw (g:=pq) hg
  rw[hG]at h1;have h2:=vC (g:=nM) (λp=>by have:=hP p;omega) g.steps;refine⟨by omega,by omega,by omega,λp hp=>?_⟩;have h3:=vw (g:=nM) hp;have h4:=hP p;exact⟨by omega,by omega⟩
end Qm
namespace Top
open Id Prn
def wt(l:List Tk.Tok):Nat:=2 * (l.map λt=>t.text.size+1).sum
def wl(l:List ByteArray):Nat:=(l.map λt=>t.size+1).sum
theorem oH(t:Tk.Tok)(l:List Tk.Tok):wt (t::l)=2 * (t.text.size+1)+wt l:=by unfold wt;simp;omega
theorem aA(t:ByteArray)(l:List ByteArray):wl (t::l)=(t.size+1)+wl l:=by unfold wl;simp
theorem fH:wl []=0:=rfl
theorem eG(a b:List ByteArray):wl (a++b)=wl a+wl b:=by unfold wl;simp
theorem qL{s:St}{x:ByteArray}(h:is s x=true):s.2=false/\wt s.1=2 * (x.size+1)+wt s.1.tail:=by
 obtain⟨l,b⟩:=s;unfold is at h;simp only[xX,Bool.not_eq_true']at h;refine⟨h.1,?_⟩;cases l with
 |nil=>cases h.2
 |cons t r =>
  have h2:=h.2;simp only[xX,beq_iff_eq]at h2;show wt (t::r)=_+wt r
  rw[oH,Tk.text_eq h2.2]
theorem dG{s:St}{x:ByteArray}(h:(want s x).2=false):s.2=false/\wt s.1=2 * (x.size+1)+wt (want s x).1:=by
 unfold want at h ⊢;split at h
 ·rename_i hi
  rw[if_pos hi];exact qL hi
 ·cases h
theorem vF{s:St}{k:Nat}{p:Tk.Tok->Bool}(h:(one s k p).2.2=false):s.2=false/\wt s.1=2 * ((one s k p).1.text.size+1)+wt (one s k p).2.1:=by
 obtain⟨l,b⟩:=s;cases l with
 |nil=>unfold one at h;cases h
 |cons t r =>
  cases b with
  |true=>unfold one at h;cases h
  |false =>
   unfold one at h ⊢;by_cases hc:t.kind=k/\p t=true
   ·simp only[hc,and_self,if_true]
    exact⟨trivial,oH t r⟩
   ·simp only[hc,if_false]at h
    cases h
theorem Jq{s:St}{k:Nat}{p:Tk.Tok->Bool}(h:(one s k p).2.2=false):p (one s k p).1=true:=by
 obtain⟨l,b⟩:=s;cases l with
 |nil=>unfold one at h;cases h
 |cons t r =>
  cases b with
  |true=>unfold one at h;cases h
  |false =>
   unfold one at h ⊢;by_cases hc:t.kind=k/\p t=true
   ·simp only[hc,and_self,if_true]
   ·simp only[hc,if_false]at h
    cases h
theorem eP{s:St}(h:(name s).2.2=false):s.2=false/\wt s.1=2 * ((name s).1.size+1)+wt (name s).2.1:=vF h
theorem Ju{s:St}(h:(num s).2.2=false):s.2=false/\2+wt (num s).2.1<=wt s.1:=by
 obtain⟨a,b⟩:=vF h;refine⟨a,?_⟩;have:wt (num s).2.1=wt (one s 2 (λ_=>true)).2.1:=rfl;omega
theorem fM{ws:List ByteArray}{s:St}(h:(words ws s).2.2=false):s.2=false/\wt s.1=2 * ((words ws s).1.size+1)+wt (words ws s).2.1:=vF h
theorem vg{ws:List ByteArray}{s:St}(h:(words ws s).2.2=false):∃ w∈ws,(words ws s).1=w:=by
 have h1:=Jq h;unfold among at h1;rw[List.any_eq_true]at h1;obtain⟨w,hw,he⟩:=h1;have h2:(one s 1 λt=>ws.any λx=>t.text.toList==x.toList).1.text.toList=w.toList:=by simpa using he
 exact⟨w,hw,Tk.text_eq h2⟩
theorem iK{a:ByteArray}{l:List UInt8}(h:a.toList=l):a=⟨l.toArray⟩:=by
 refine Tk.text_eq ?_;rw[h,ByteArray.toList_eq]
theorem wK{a:ByteArray}(h:endW a≠0):bK ⟨endW a,⟨#[]⟩⟩=a:=by
 unfold endW at h ⊢;split
 ·rename_i h1;rw[iK h1];rfl
 ·rename_i h1
  rw[if_neg h1]at h;split
  ·rename_i h2;rw[iK h2];rfl
  ·rename_i h2
   rw[if_neg h2]at h;split
   ·rename_i h3;rw[iK h3];rfl
   ·rename_i h3
    rw[if_neg h3]at h;split
    ·rename_i h4;rw[iK h4];rfl
    ·rename_i h4
     rw[if_neg h4]at h;exact absurd rfl h
theorem RU(a:ByteArray):bK (⟨7,a⟩:Srt)=a:=rfl
theorem nN:∀(f:Nat)(s:St)(acc:List Srt),(bG f s acc).2.2=false->s.2=false/\wl ((bG f s acc).1.map bK)+wt (bG f s acc).2.1<=wt s.1+wl (acc.map bK)
 |0,s,acc,h=>⟨h,by show wl []+wt s.1<=_;rw[fH];omega⟩
 |f+1,s,acc,h=>by
  unfold bG at h ⊢;by_cases h0:s.2=true
  ·rw[if_pos h0]at h;rw[h0]at h;cases h
  ·have h0':s.2=false:=by simpa using h0
   rw[if_neg h0]at h ⊢;by_cases h1:is s iD=true
   ·rw[if_pos h1]at h ⊢
    obtain⟨_,b⟩:=nN f _ _ h;obtain⟨_,c⟩:=qL h1;rw[List.map_append,eG]at b;have e:wl (([⟨5,⟨#[]⟩⟩]:List Srt).map bK)=iD.size+1:=rfl;rw[e]at b;exact⟨h0',by simp only at b;omega⟩
   ·rw[if_neg h1]at h ⊢
    by_cases h2:is s jM=true
    ·rw[if_pos h2]at h ⊢
     obtain⟨_,b⟩:=nN f _ _ h;obtain⟨_,c⟩:=qL h2;rw[List.map_append,eG]at b;have e:wl (([⟨6,⟨#[]⟩⟩]:List Srt).map bK)=jM.size+1:=rfl;rw[e]at b;exact⟨h0',by simp only at b;omega⟩
    ·rw[if_neg h2]at h ⊢
     by_cases h3:ends s=true
     ·rw[if_pos h3]at h ⊢
      refine⟨h0',?_⟩;obtain⟨l,bb⟩:=s;cases l with
      |nil=>cases h3
      |cons t r =>
       unfold ends at h3;simp only[xX,Bool.not_eq_true',xG]at h3;show wl ((acc++[(⟨endW t.text,⟨#[]⟩⟩:Srt)]).map bK)+wt r<=wt (t::r)+_
       rw[List.map_append,eG,oH];show wl (acc.map bK)+wl [bK (⟨endW t.text,⟨#[]⟩⟩:Srt)]+_<=_
       rw[wK h3.2,aA,fH];omega
     ·rw[if_neg h3]at h ⊢
      obtain⟨_,b⟩:=eP h;refine⟨h0',?_⟩;rw[List.map_append,eG];show wl (acc.map bK)+wl [bK (⟨7,(name s).1⟩:Srt)]+_<=_
      rw[RU,aA,fH];show _+wt (name s).2.1<=_
      omega
theorem Dq{s:St}(h:(sorts s).2.2=false):s.2=false/\wl ((sorts s).1.map bK)+wt (sorts s).2.1<=wt s.1:=nN _ _ _ h
theorem DN{s:St}(h:(field s).2.2=false):s.2=false/\wl (iP (field s).1)+wt (field s).2.1<=wt s.1:=by
 unfold field at h ⊢;obtain⟨a,e1⟩:=dG h;obtain⟨b,e2⟩:=Dq a;obtain⟨c,e3⟩:=dG b;obtain⟨d,e4⟩:=eP c;refine⟨d,?_⟩;unfold iP;rw[aA,aA,eG,aA,fH];simp only at e1 e2 e3 e4 ⊢;omega
theorem vS{s:St}(h:(arg s).2.2=false):s.2=false/\wt s.1=2 * (eH.size+1)+2 * ((arg s).1.size+1)+2 * (dK.size+1)+wt (arg s).2.1:=by
 unfold arg at h ⊢;obtain⟨a,e1⟩:=dG h;obtain⟨b,e2⟩:=eP a;obtain⟨c,e3⟩:=dG b;refine⟨c,?_⟩;simp only at e1 e2 e3 ⊢;omega
def nM(p:Stp):List ByteArray:=[wDo,p.service,jU,p.method,wAt,⟨#[48]⟩,aK]
def pq(g:Sag):List ByteArray:=iR::g.name::eH::g.arg::dK::aN::(g.steps.flatMap nM++[aJ])
theorem EY{s:St}(h:(Id.step s).2.2=false):s.2=false/\wl (nM (Id.step s).1)+wt (Id.step s).2.1<=wt s.1:=by
 unfold Id.step at h ⊢;dsimp only at h ⊢;obtain⟨a,e1⟩:=dG h;obtain⟨b,e2⟩:=Ju a;obtain⟨c,e3⟩:=dG b;obtain⟨d,e4⟩:=eP c;obtain⟨d,e5⟩:=dG d;obtain⟨d,e6⟩:=eP d;obtain⟨d,e7⟩:=dG d;refine⟨d,?_⟩;unfold nM;rw[aA,aA,aA,aA,aA,aA,aA,fH];have:(⟨#[48]⟩:ByteArray).size=1:=rfl;simp only at e1 e2 e3 e4 e5 e6 e7 ⊢;omega
theorem vK{a:ByteArray}(h:∃ w∈[eX,dB],a=w):bK ⟨endW a,⟨#[]⟩⟩=a:=by
 obtain⟨w,hw,rfl⟩:=h;refine wK ?_;simp only[yH,List.not_mem_nil,or_false]at hw;rcases hw with rfl|rfl<;>decide +kernel
theorem BD{s:St}(h:(Id.method s).2.2=false):s.2=false/\wl (gZ (Id.method s).1)+wt (Id.method s).2.1<=wt s.1:=by
 unfold Id.method at h ⊢;dsimp only at h ⊢;obtain⟨a0,ea⟩:=dG h;by_cases ht:(take (words [eX,dB] (want (arg (name (words [dJ,dH,dI] s).2).2).2 dA)).2 bU).1=true
 ·rw[if_pos ht]at a0 ea ⊢
  obtain⟨b0,eb⟩:=eP a0;unfold take at ht;split at ht
  ·rename_i hi
   have htk:take (words [eX,dB] (want (arg (name (words [dJ,dH,dI] s).2).2).2 dA)).2 bU=(true,((words [eX,dB] (want (arg (name (words [dJ,dH,dI] s).2).2).2 dA)).2.1.tail,(words [eX,dB] (want (arg (name (words [dJ,dH,dI] s).2).2).2 dA)).2.2)):=by unfold take;rw[if_pos hi]
   rw[htk]at b0 eb ea ⊢;obtain⟨c0,ec⟩:=qL hi;have hr:=vK (vg c0);obtain⟨d0,ed⟩:=fM c0;obtain⟨e0,ee⟩:=dG d0;obtain⟨f0,ef⟩:=vS e0;obtain⟨g0,eg⟩:=eP f0;obtain⟨k0,ek⟩:=fM g0;refine⟨k0,?_⟩;unfold gZ kM;simp only[hr];have hu:∀ u:ByteArray,wl (if u.toList.isEmpty=true then[]else[bU,u])<=(bU.size+1)+(u.size+1):=λu=>by
    split
    ·rw[fH];omega
    ·rw[aA,aA,fH];omega
   have hu':=hu (name ((words [eX,dB] (want (arg (name (words [dJ,dH,dI] s).2).2).2 dA)).2.1.tail,(words [eX,dB] (want (arg (name (words [dJ,dH,dI] s).2).2).2 dA)).2.2)).1;rw[aA,aA,aA,aA,aA,aA,aA,eG,aA,fH];simp only at ea eb ec ed ee ef eg ek hu' ⊢;omega
  ·cases ht
 ·rw[if_neg ht]at a0 ea ⊢
  have htk:(take (words [eX,dB] (want (arg (name (words [dJ,dH,dI] s).2).2).2 dA)).2 bU).2=(words [eX,dB] (want (arg (name (words [dJ,dH,dI] s).2).2).2 dA)).2:=by
   unfold take at ht ⊢;split
   ·rename_i hi
    rw[if_pos hi]at ht;exact absurd rfl ht
   ·rfl
  simp only[htk]at a0 ea ⊢;have hr:=vK (vg a0);obtain⟨d0,ed⟩:=fM a0;obtain⟨e0,ee⟩:=dG d0;obtain⟨f0,ef⟩:=vS e0;obtain⟨g0,eg⟩:=eP f0;obtain⟨k0,ek⟩:=fM g0;refine⟨k0,?_⟩;unfold gZ kM;have hz:(⟨#[]⟩:ByteArray).toList.isEmpty=true:=by decide +kernel
  simp only[hr,hz,if_true];rw[aA,aA,aA,aA,aA,aA,aA,eG,aA,fH];omega
theorem qE{α:Type}{read:St->α × St}{g:α->List ByteArray}(hr:∀ s,(read s).2.2=false->s.2=false/\wl (g (read s).1)+wt (read s).2.1<=wt s.1) :
  ∀(f:Nat)(s:St)(acc:List α),(aU read f s acc).2.2=false->s.2=false/\wl ((aU read f s acc).1.flatMap g)+wt (aU read f s acc).2.1<=wt s.1+wl (acc.flatMap g)
 |0,s,acc,h=>⟨h,by show wl (acc.flatMap g)+wt s.1<=_;omega⟩
 |f+1,s,acc,h=>by
  unfold aU at h ⊢;by_cases h0:s.2=true
  ·rw[if_pos h0]at h;rw[h0]at h;cases h
  ·have h0':s.2=false:=by simpa using h0
   rw[if_neg h0]at h ⊢;by_cases h1:is s aJ=true
   ·rw[if_pos h1]at h ⊢
    obtain⟨_,c⟩:=qL h1;exact⟨h0',by simp only;omega⟩
   ·rw[if_neg h1]at h ⊢
    obtain⟨a,b⟩:=qE hr f _ _ h;obtain⟨_,c⟩:=hr s a;rw[if_neg (by rw[a];simp)]at b h ⊢;rw[List.flatMap_append,eG]at b;simp only[yJ,List.flatMap_nil,List.append_nil]at b;exact⟨h0',by omega⟩
theorem nH{α:Type}{read:St->α × St}{g:α->List ByteArray}(hr:∀ s,(read s).2.2=false->s.2=false/\wl (g (read s).1)+wt (read s).2.1<=wt s.1){s:St}(h:(within read s).2.2=false) :
  s.2=false/\wl ((within read s).1.flatMap g)+wt (within read s).2.1+2 * (aN.size+1)<=wt s.1:=by
 unfold within at h ⊢;obtain⟨a,b⟩:=qE hr _ _ _ h;obtain⟨c,d⟩:=dG a;have e:wl (([]:List α).flatMap g)=0:=rfl;rw[e]at b;exact⟨c,by omega⟩
theorem sW{c:Bool}{s:St}(h:(record c s).2.2=false):s.2=false/\wl (iZ (record c s).1)+wt (record c s).2.1<=wt s.1+8:=by
 unfold record at h ⊢;obtain⟨a,e1⟩:=nH (g:=iP) (λs h=>DN h) h;obtain⟨b,e2⟩:=eP a;refine⟨b,?_⟩;unfold iZ;have hc:(if c=true then fF else fE).size=6:=by cases c<;>rfl
 have h1:aN.size=1:=rfl;have h2:aJ.size=1:=rfl;rw[aA,aA,aA,eG,aA,fH];simp only at e1 e2 hc ⊢;omega
theorem yT{s:St}(h:(service s).2.2=false):s.2=false/\wl (jO (service s).1)+wt (service s).2.1<=wt s.1+8:=by
 unfold service at h ⊢;obtain⟨a,e1⟩:=nH (g:=gZ) (λs h=>BD h) h;obtain⟨b,e2⟩:=eP a;refine⟨b,?_⟩;unfold jO;have hc:dW.size=7:=rfl;have h1:aN.size=1:=rfl;have h2:aJ.size=1:=rfl;rw[aA,aA,aA,eG,aA,fH];simp only at e1 e2 hc ⊢;omega
theorem Fa{s:St}(h:(saga s).2.2=false):s.2=false/\wl (pq (saga s).1)+wt (saga s).2.1<=wt s.1+5:=by
 unfold saga at h ⊢;obtain⟨a,e1⟩:=nH (g:=nM) (λs h=>EY h) h;obtain⟨b,e2⟩:=vS a;obtain⟨c,e3⟩:=eP b;refine⟨c,?_⟩;unfold pq;have hc:iR.size=4:=rfl;have h1:aN.size=1:=rfl;have h2:aJ.size=1:=rfl;rw[aA,aA,aA,aA,aA,aA,eG,aA,fH];simp only at e1 e2 e3 hc ⊢;omega
def wx(x:Sch):Nat:=wl (x.records.flatMap iZ)+(wl (x.services.flatMap jO)+wl (x.sagas.flatMap pq))
theorem lS{α:Type}(g:α->List ByteArray)(l:List α)(a:α):wl ((l++[a]).flatMap g)=wl (l.flatMap g)+wl (g a):=by
 rw[List.flatMap_append,eG];simp only[yJ,List.flatMap_nil,List.append_nil]
theorem gG:∀(f:Nat)(s:St)(x:Sch),(aF f s x).2.2=false->s.2=false/\(aF f s x).1.name=x.name/\wx (aF f s x).1+wt (aF f s x).2.1<=wt s.1+wx x
 |0,s,x,h=>⟨h,rfl,by show wx x+wt s.1<=_;omega⟩
 |f+1,s,x,h=>by
  unfold aF at h ⊢;by_cases h0:s.2=true∨s.1=[]
  ·rw[if_pos h0]at h ⊢
   exact⟨h,rfl,by simp only;omega⟩
  ·have h0':s.2=false:=by
    cases hb:s.2
    ·rfl
    ·exact absurd (.inl hb) h0
   rw[if_neg h0]at h ⊢;split at h
   ·rename_i h1
    rw[if_pos h1];obtain⟨a,n,b⟩:=gG f _ _ h;obtain⟨c,d⟩:=sW a;obtain⟨_,e⟩:=fM c;rw[iK h1]at e;refine⟨h0',n,?_⟩;have hw:∀ y:Rec,wx { x with records:=x.records++[y] }=wx x+wl (iZ y):=λy=>by
     unfold wx;simp only;rw[lS];omega
    rw[hw]at b;have hz:(⟨[(114:UInt8),101,99,111,114,100].toArray⟩:ByteArray).size=6:=rfl;rw[hz]at e;omega
   ·rename_i h1
    rw[if_neg h1];split at h
    ·rename_i h2
     rw[if_pos h2];obtain⟨a,n,b⟩:=gG f _ _ h;obtain⟨c,d⟩:=sW a;obtain⟨_,e⟩:=fM c;rw[iK h2]at e;refine⟨h0',n,?_⟩;have hw:∀ y:Rec,wx { x with records:=x.records++[y] }=wx x+wl (iZ y):=λy=>by
      unfold wx;simp only;rw[lS];omega
     rw[hw]at b;have hz:(⟨[(99:UInt8),104,111,105,99,101].toArray⟩:ByteArray).size=6:=rfl;rw[hz]at e;omega
    ·rename_i h2
     rw[if_neg h2];split at h
     ·rename_i h3
      rw[if_pos h3];obtain⟨a,n,b⟩:=gG f _ _ h;obtain⟨c,d⟩:=yT a;obtain⟨_,e⟩:=fM c;rw[iK h3]at e;refine⟨h0',n,?_⟩;have hw:∀ y:Svc,wx { x with services:=x.services++[y] }=wx x+wl (jO y):=λy=>by
       unfold wx;simp only;rw[lS];omega
      rw[hw]at b;have hz:(⟨[(115:UInt8),101,114,118,105,99,101].toArray⟩:ByteArray).size=7:=rfl;rw[hz]at e;omega
     ·rename_i h3
      rw[if_neg h3];split at h
      ·rename_i h4
       rw[if_pos h4];obtain⟨a,n,b⟩:=gG f _ _ h;obtain⟨c,d⟩:=Fa a;obtain⟨_,e⟩:=fM c;rw[iK h4]at e;refine⟨h0',n,?_⟩;have hw:∀ y:Sag,wx { x with sagas:=x.sagas++[y] }=wx x+wl (pq y):=λy=>by
        unfold wx;simp only;rw[lS];omega
       rw[hw]at b;have hz:(⟨[(115:UInt8),97,103,97].toArray⟩:ByteArray).size=4:=rfl;rw[hz]at e;omega
      ·rename_i h4
       rw[if_neg h4];obtain⟨a,n,b⟩:=gG f _ _ h;obtain⟨_,e⟩:=fM a;exact⟨h0',n,by omega⟩
def uj(x:Sch):Nat:=(bT.size+1)+((x.name.size+1)+((aK.size+1)+wx x))
theorem AO{s:St}(h:(schema s).2.2=false):uj (schema s).1+wt (schema s).2.1<=wt s.1:=by
 unfold schema at h ⊢;dsimp only at h ⊢;obtain⟨a,n,b⟩:=gG _ _ _ h;obtain⟨c,d⟩:=dG a;obtain⟨e,g⟩:=eP c;obtain⟨k,l⟩:=dG e;unfold uj;rw[n];have hz:wx ⟨(name (want s bT)).1,[],[],[]⟩=0:=rfl;rw[hz]at b;simp only at b ⊢;omega
def Ap(s:ByteArray):Nat->List Tk.Tok->Prop
 |_,[]=>True
 |e,t::l=>(e<=t.at_/\0<t.text.size/\t.at_+t.text.size<=s.size)/\Ap s (t.at_+t.text.size) l
theorem Ap.mono{s:ByteArray}{e e':Nat}{l:List Tk.Tok}(h:Ap s e l)(he:e'<=e):Ap s e' l:=by
 cases l with
 |nil=>trivial
 |cons t l=>exact⟨⟨xM he h.1.1,h.1.2⟩,h.2⟩
theorem yu(d:Nat)(s:ByteArray):∀(f k:Nat)(acc:List Tk.Tok),(Tk.scan d s f k acc).2.2=0->∃ rest,(Tk.scan d s f k acc).1=acc++rest/\Ap s k rest
 |0,k,acc,_=>⟨[],by simp[Tk.scan],trivial⟩
 |f+1,k,acc,h=>by
  by_cases h1:k<s.size
  ·by_cases h2:(Tk.aH d s k).2=0
   ·rw[Tk.scan_ok h1 h2]at h ⊢
    obtain⟨rest,e,ha⟩:=yu d s f _ _ h;refine⟨(Tk.aH d s k).1::rest,by rw[e];simp,⟨?_,?_⟩⟩
    ·have hk:=Tk.nV h1 h2
     rw[Tk.zi];exact⟨xB _,by omega,hk.2⟩
    ·rw[Tk.zi]
     exact ha.mono (Tk.lF _ _ _)
   ·rw[Tk.nR h1 h2]at h
    exact absurd h h2
  ·rw[Tk.iY h1]
   exact⟨[],by simp,trivial⟩
theorem KR{s:ByteArray}(h:(Tk.all s).2.2=0):Ap s 0 (Tk.all s).1:=by
 unfold Tk.all at h ⊢;split at h
 ·cases h
 ·rename_i hn
  rw[if_neg hn];obtain⟨rest,e,ha⟩:=yu 3 s _ _ _ h;rw[e,yI];exact ha.mono (Nat.zero_le _)
theorem vT{s:ByteArray}:∀(l:List Tk.Tok)(e:Nat),Ap s e l->e<=s.size->wt l<=4 * (s.size - e)
 |[],e,_,_=>Nat.zero_le _
 |t::l,e,h,he=>by
  obtain⟨⟨h1,h2,h3⟩,h5⟩:=h;have:=vT l _ h5 (by omega);rw[oH];omega
theorem Dz{s:ByteArray}(h:(parse s).2.2=0):uj (parse s).1<=4 * s.size:=by
 unfold parse whole at h ⊢;by_cases h0:(Tk.all s).2.2≠0
 ·rw[if_pos h0]at h
  exact absurd h h0
 ·rw[if_neg h0]at h ⊢
  have hap:=KR (s:=s) (by omega);have hw:=vT _ _ hap (Nat.zero_le _);have hs:=AO (s:=((Tk.all s).1,false));generalize(schema ((Tk.all s).1,false))=R at h hs ⊢;obtain⟨x,r,b⟩:=R;cases r with
  |cons t q=>simp only at h;cases h
  |nil =>
   cases b with
   |true=>simp only[if_true]at h;cases h
   |false =>
    have:=hs rfl;simp only at this ⊢;show uj x<=_
    omega
end Top
namespace Top
open Id Prn Chk
theorem Z5:∀ l:List ByteArray,(jl l).length<=wl l
 |[]=>xB _
 |w::l=>by
  have h:∀ l:List ByteArray,(l.flatMap λu=>32::u.data.toList).length=wl l:=λl=>by
   induction l with
   |nil=>rfl
   |cons u l ih =>
    rw[yJ,xI,ih,aA];have:u.data.toList.length=u.size:=by simp
    simp
  unfold jl;rw[xI,h,aA];have:w.data.toList.length=w.size:=by simp
  omega
theorem Xg:∀ n:Nat,n<100->(wQ n).size<=2:=by decide +kernel
theorem WI{p:Stp}(h0:0<=p.at_)(h1:p.at_<100):wl (mZ p)<=2 * wl (nM p):=by
 have h2:=Xg p.at_.toNat (by omega);rw[Int.toNat_of_nonneg h0]at h2;unfold mZ nM;simp only[aA,fH];have:(⟨#[48]⟩:ByteArray).size=1:=rfl;omega
theorem DL{α:Type}{f g:α->List ByteArray}:∀(l:List α),(∀ a∈l,wl (f a)<=2 * wl (g a))->wl (l.flatMap f)<=2 * wl (l.flatMap g)
 |[],_=>Nat.zero_le _
 |a::l,h=>by
  rw[yJ,yJ,eG,eG];have h1:=h a (by simp);have h2:=DL l λb hb=>h b (by simp[hb])
  omega
theorem WL{g:Sag}(h:∀ p∈g.steps,0<=p.at_/\p.at_<100):wl (kV g)<=2 * wl (pq g):=by
 have h1:=DL (f:=mZ) (g:=nM) g.steps λp hp=>WI (h p hp).1 (h p hp).2
 unfold kV pq;simp only[aA,eG,fH];omega
theorem WJ{x:Sch}(hR:Right x):wl (iW x)<=2 * uj x:=by
 have h1:=DL (f:=kV) (g:=pq) x.sagas λg hg=>WL λp hp=>Gf hR hg p hp
 unfold iW uj wx;simp only[aA,eG];omega
theorem short{s:ByteArray}(h:(parse s).2.2=0)(hs:s.size<=5000)(hR:Right (parse s).1):(jn (iW (parse s).1)).size<=65536:=by
 have h1:=Dz h;have h2:=WJ hR;have h3:=Z5 (iW (parse s).1);rw[Nv];omega
theorem WG{s:ByteArray}(h:(parse s).2.2=0)(hs:s.size<=5000)(hc:(check (parse s).1).2=0):text (parse s).1=(jn (iW (parse s).1),0):=by
 have h1:=short h hs (qp hc);unfold text;rw[if_neg (by omega),if_neg (by omega)]
end Top
section
open Go.BigFrame Go.RowKit
namespace Top
open Id Chk
def VY:ByteArray:=⟨#[109,111,100,117,108,101,32,109,59,32,114,101,99,111,114,100,32,79,32,123,32,97,99,99,111,117,110,116,58,32,116,101,120,116,59,32,97,109,111,117,110,116,58,32,105,110,116,59,32,125,32,115,101,114,118,105,99,101,32,83,32,123,32,103,105,118,101,32,116,40,79,41,32,45,62,32,105,110,116,32,117,110,100,111,32,117,59,32,116,97,107,101,32,117,40,79,41,32,45,62,32,110,111,110,101,59,32,125,32,115,97,103,97,32,103,40,79,41,32,123,32,100,111,32,83,46,116,32,97,116,32,49,59,32,125]⟩
def oR:List Rec:=[⟨⟨#[79]⟩,false,[⟨⟨#[97,99,99,111,117,110,116]⟩,[⟨4,⟨#[]⟩⟩]⟩,⟨⟨#[97,109,111,117,110,116]⟩,[⟨3,⟨#[]⟩⟩]⟩]⟩]
def oV:List Svc:=[⟨⟨#[83]⟩,[⟨⟨#[116]⟩,⟨#[79]⟩,3,⟨#[103,105,118,101]⟩,⟨#[117]⟩⟩,⟨⟨#[117]⟩,⟨#[79]⟩,1,⟨#[116,97,107,101]⟩,⟨#[]⟩⟩]⟩]
def oS:Sch:=⟨⟨#[109]⟩,oR,oV,[⟨⟨#[103]⟩,⟨#[79]⟩,[⟨⟨#[83]⟩,⟨#[116]⟩,1⟩]⟩]⟩
theorem Xe:parse VY=(oS,0,0):=by kernel_rfl
theorem RH:run 132 (kY oS) none=none:=by
 have h:yR oR ⟨#[79]⟩=true:=XO (r:=oR[0]) (by simp[oR]) (by decide +kernel);unfold kY o8 oS;show run 132 [(yR oR ⟨#[79]⟩,⟨#[79]⟩)] none=none
 rw[h];rfl
theorem Xf:check oS=(⟨#[]⟩,0):=by
 unfold check dX;rw[RH];rw[show run 120 (namesT oS) none=none by kernel_rfl,show run 135 (kL oS) none=none by kernel_rfl,show run 130 (ou oS) none=none by kernel_rfl,show run 131 (nI oS) none=none by kernel_rfl,show run 134 (lU oS) none=none by kernel_rfl,show run 133 (qG oS) none=none by kernel_rfl,show run 240 (sU oS) none=none by kernel_rfl,show run 241 (qI oS) none=none by kernel_rfl,show run 133 (uF oS) none=none by kernel_rfl];rfl
theorem Yr:Fine oS:=by
 refine⟨(by decide:(1:Nat)<=1000),(by decide:(1:Nat)<=1000),(by decide:(1:Nat)<=1000),(by decide:(1:Nat)<=1000),?_,?_,?_⟩
 ·show ∀ r∈oR,_
  unfold oR;simp;decide
 ·show ∀ v∈oV,_
  unfold oV;simp;decide
 ·intro g hg
  have hg:g∈[(⟨⟨#[103]⟩,⟨#[79]⟩,[⟨⟨#[83]⟩,⟨#[116]⟩,1⟩]⟩:Sag)]:=hg;rw[List.mem_singleton]at hg;subst hg;refine⟨(by decide:(1:Nat)<=1000),(by decide:(1:Nat)<=99),(by decide:(1:Nat)<=1000),λp hp=>?_⟩;have hp:p∈[(⟨⟨#[83]⟩,⟨#[116]⟩,1⟩:Stp)]:=hp;rw[List.mem_singleton]at hp;subst hp;exact⟨(by decide:(1:Nat)<=1000),(by decide:(1:Nat)<=1000)⟩
theorem Xd:∃ p:Nat,Prn.print oS=(p,0)/\p≠0:=by
 have ht:Prn.text oS=(Prn.jn (Prn.iW oS),0):=by
  unfold Prn.text;rw[Xf,if_neg (show ¬((⟨#[]⟩:ByteArray),0).2≠0 by simp),if_neg (by decide +kernel)]
 refine⟨Sm.print (Prn.jn (Prn.iW oS)).data.toList,?_,by decide +kernel⟩;unfold Prn.print;rw[ht,if_neg (show ¬(Prn.jn (Prn.iW oS),0).2≠0 by simp)]
end Top
theorem I5(w:World)(hk:Tk.KW w):Calls Tryz.prog 12 #[] w λe w'=>e=.returned (.bool true)/\Below w.heap.size w w':=by
 have HK:=hid hk;clear hk;obtain⟨P,HPR,hp0⟩:=Top.Xd;have HPR:=hid HPR;go_enter Tryz.func12,Tryz.ntmps12;go_wp2_with fail;refine(yZ Top.VY (by decide) _ HK.out).mono ?_;rintro e w1⟨v,rfl,hb1,hsv⟩;rw[Top.Xe]at hsv ⊢;have HB1:=hid hb1;have HS1:=hid (Id.aY.weak (Id.BR _) hsv:Id.aY w1 none v Top.oS);obtain⟨A1,n1,c1,A2,n2,c2,A3,n3,c3,rfl,-,-,hs3⟩:=hsv;have hn3:n3=1:=by obtain⟨_,_,e,_⟩:=ah.slice hs3;injection e
 subst hn3;clear hb1 hs3;simp only;go_upto_region 2 with(fail)
 refine ak (λW2 hW2=>?_);obtain⟨hb2,hq2,-⟩:=ay hW2;clear hW2;have HB2:=hid (HB1.out.trans (hb2.mono HB1.out.size));have HS2:=hid (Id.aY.below hb2 HS1.out);have HQ2:=hid hq2;obtain⟨⟨q0,q1,q2,q3⟩,-⟩:=hq2.k4;clear hb2 hq2;go_wp2_with fail;refine(zf _ Top.oS Top.Yr _ (HK.out.below HB2.out) HS2.out).mono ?_;rintro e w3⟨rfl,hb3⟩;rw[HPR.out];have HB3:=hid (HB2.out.trans (hb3.mono HB2.out.size));have HQ3:=hid (HQ2.out.below hb3 HQ2.out.lt);clear q0 q1 q2 q3 hb3;obtain⟨⟨q0,q1,q2,q3⟩,-⟩:=HQ3.out.k4;have hpn:((P:Int) != 0)=true:=by rw[bne_iff_ne];omega
 simp only;go_wp2_with fail;go_ret;exact⟨rfl,HB3.out⟩
end
section
open Go.RowKit
theorem mX{w W:World}(h:Below w.heap.size w W)(q n:Nat):Below w.heap.size w ((W.drewN q).drewN n):=below_drewN (below_drewN h q) n
theorem L6(x0 y0:ByteArray)(ar br:List Id.Mth)(va vb:Value)(w:World)(ha:ah w none 180 5 Id.dh va ar)(hb:ah w none 180 5 Id.dh vb br) :
  Calls Tryz.prog 56 #[.agg #[.string x0,va],.agg #[.string y0,vb]] w λe w'=>e=.returned (.bool (Id.lI ⟨x0,ar⟩ ⟨y0,br⟩))/\Below w.heap.size w w':=by
 obtain⟨R,HR⟩:∃ R,Hid (Id.lI (⟨x0,ar⟩:Id.Svc) ⟨y0,br⟩=R):=⟨_,hid rfl⟩;rw[HR.out];obtain⟨A,ca,rfl,ha1,ha2,_⟩:=ah.slice ha;obtain⟨B,cb,rfl,hb1,hb2,_⟩:=ah.slice hb;have Ha:=hid ha;have Hb:=hid hb;obtain⟨n,hn⟩:∃ n,n=ar.length:=⟨_,rfl⟩;obtain⟨m,hm⟩:∃ m,m=br.length:=⟨_,rfl⟩;rw[<-hn]at Ha ha1 ⊢;rw[<-hm]at Hb hb1 ⊢;have hnm:n<=9223372036854775807:=by omega
 have hmm:m<=9223372036854775807:=by omega
 have HNA:=hid hn;have HNB:=hid hm;clear ha hb ha1 ha2 hb1 hb2 hn hm;cases h0:(x0.toList==y0.toList)
 case false =>
  have HE:Hid (R=false):=hid (by rw[<-HR.out];simp[Id.lI,h0]);go_enter Tryz.func56,Tryz.ntmps56;go_wp2_with fail;go_ret;exact⟨(by first|(rw[HE.out];done)|(rw[HE.out];rfl)),((Below.refl _ _).alloc (xB _) _).alloc (by simp) _⟩
 by_cases hl:n=m
 case neg =>
  have HE:Hid (R=false):=hid (by rw[<-HR.out];simp[Id.lI,Id.jZ ar br (by rw[<-HNA.out,<-HNB.out];exact hl)]);have hli:((n:Int) != (m:Int))=true:=by rw[bne_iff_ne];omega
  clear hl;go_enter Tryz.func56,Tryz.ntmps56;go_wp2_with fail;go_ret;exact⟨(by first|(rw[HE.out];done)|(rw[HE.out];rfl)),((Below.refl _ _).alloc (xB _) _).alloc (by simp) _⟩
 subst hl;have HR0:Hid (R=Id.bD Id.qc ar br):=hid (by rw[<-HR.out];simp[Id.lI,h0]);have hB:=((Below.refl w.heap.size w).alloc (xB _) (.cells #[.string x0,.slice A n ca] 101)).alloc (by simp) (.cells #[.string y0,.slice B n cb] 101);have hqx:=(Bk.new w 101 #[.string x0,.slice A n ca]).alloc (.cells #[.string y0,.slice B n cb] 101);have hqy:=Bk.new (w.alloc (.cells #[.string x0,.slice A n ca] 101)) 101 #[.string y0,.slice B n cb];rw[World.size_alloc]at hqy;have Ha1:=hid (ah.below Ha.out hB Id.dh.kp);have Hb1:=hid (ah.below Hb.out hB Id.dh.kp);have HB:=hid hB;clear hB Ha Hb;go_enter Tryz.func56,Tryz.ntmps56;go_upto_region 3 with(fail)
 generalize((w.alloc (.cells #[.string x0,.slice A n ca] 101)).alloc (.cells #[.string y0,.slice B n cb] 101))=W at *;obtain⟨⟨cx0,cx1⟩,_⟩:=hqx.k2;obtain⟨⟨cy0,cy1⟩,_⟩:=hqy.k2;clear hqx hqy;go_wp2_with fail;go_loopw [5] (λi wr=>∃ k q:Nat,k<=n/\i=.int .i64 k/\Hid (R=Id.bD Id.qc (ar.drop k) (br.drop k))/\Hid (wr=W.drewN q)) (λi _=>n - (intOf i).toNat)
 case atStart=>exact⟨0,0,by omega,rfl,HR0,hid rfl⟩
 case round =>
  obtain⟨k,q,hk,rfl,HK,HW⟩:=hrel;obtain rfl:=HW.out;by_cases hlt:k<n
  case neg =>
   obtain rfl:k=n:=by omega
   have HE:Hid (R=true):=hid (by rw[HK.out,Id.lM (by rw[HNA.out];exact xB _) (by rw[HNB.out];exact xB _)]);go_wp2_with fail;go_ret;exact⟨(by first|(rw[HE.out];done)|(rw[HE.out];rfl)),below_drewN HB.out q⟩
  have hka:k<ar.length:=by rw[<-HNA.out];exact hlt
  have hkb:k<br.length:=by rw[<-HNB.out];exact hlt
  obtain⟨ag,ao,acs,rfl,_,ea,hca⟩:=Ha1.out.get hka (by omega);obtain⟨bg,bo,bcs,rfl,_,eb,hcb⟩:=Hb1.out.get hkb (by omega);have HD:=HK.out;rw[Id.lK hka hkb]at HD;generalize ar[k]=x at *;generalize br[k]=y at *;obtain⟨e0,e1,e2,e3,e4⟩:=x;obtain⟨g0,g1,g2,g3,g4⟩:=y;unfold Id.dh Id.Mth.cells at ea eb;subst ea eb;have a0:=hca 0 _ rfl;have b0:=hcb 0 _ rfl;have a1:=hca 1 _ rfl;have b1:=hcb 1 _ rfl;have a2:=hca 2 _ rfl;have b2:=hcb 2 _ rfl;have a3:=hca 3 _ rfl;have b3:=hcb 3 _ rfl;have a4:=hca 4 _ rfl;have b4:=hcb 4 _ rfl;simp only[xK]at a0 b0;have i0:(0:Int)<=(k:Int):=by omega
  have i1:(k:Int)<(n:Int):=by omega
  have HD2:=hid HD;clear hca hcb HD HW HK hka hkb;cases f0:(e0.toList==g0.toList)
  case false =>
   have HE:Hid (R=false):=hid (by rw[HD2.out];simp[Id.qc,f0]);go_wp2_with fail;go_quiet (fail);go_wp2_with fail;go_ret;exact⟨(by first|(rw[HE.out];done)|(rw[HE.out];rfl)),mX HB.out _ _⟩
  cases f1:(e1.toList==g1.toList)
  case false =>
   have HE:Hid (R=false):=hid (by rw[HD2.out];simp[Id.qc,f0,f1]);go_wp2_with fail;go_quiet (fail);go_wp2_with fail;go_ret;exact⟨(by first|(rw[HE.out];done)|(rw[HE.out];rfl)),mX HB.out _ _⟩
  by_cases f2:e2=g2
  case neg =>
   have HE:Hid (R=false):=hid (by rw[HD2.out];simp[Id.qc,f0,f1,f2]);have hki:((e2:Int)==(g2:Int))=false:=by rw[xG];omega
   clear f2;go_wp2_with fail;go_quiet (fail);go_wp2_with fail;go_ret;exact⟨(by first|(rw[HE.out];done)|(rw[HE.out];rfl)),mX HB.out _ _⟩
  subst f2;cases f3:(e3.toList==g3.toList)
  case false =>
   have HE:Hid (R=false):=hid (by rw[HD2.out];simp[Id.qc,f0,f1,f3]);go_wp2_with fail;go_quiet (fail);go_wp2_with fail;go_ret;exact⟨(by first|(rw[HE.out];done)|(rw[HE.out];rfl)),mX HB.out _ _⟩
  cases f4:(e4.toList==g4.toList)
  case false =>
   have HE:Hid (R=false):=hid (by rw[HD2.out];simp[Id.qc,f0,f1,f3,f4]);go_wp2_with fail;go_quiet (fail);go_wp2_with fail;go_ret;exact⟨(by first|(rw[HE.out];done)|(rw[HE.out];rfl)),mX HB.out _ _⟩
  have HE:Hid (R=Id.bD Id.qc (ar.drop (k+1)) (br.drop (k+1))):=hid (by rw[HD2.out];simp[Id.qc,f0,f1,f3,f4]);go_wp2_with fail;go_quiet (fail);go_wp2_with fail;go_roundw
  case rel=>exact⟨k+1,_,by omega,by go_num,HE,hid rfl⟩
  case measure=>simp[intOf];omega
theorem L8(x0 x1 y0 y1:ByteArray)(ar br:List Id.Stp)(va vb:Value)(w:World)(ha:ah w none 184 3 Id.eu va ar)(hb:ah w none 184 3 Id.eu vb br) :
  Calls Tryz.prog 57 #[.agg #[.string x0,.string x1,va],.agg #[.string y0,.string y1,vb]] w λe w'=>e=.returned (.bool (Id.jT ⟨x0,x1,ar⟩ ⟨y0,y1,br⟩))/\Below w.heap.size w w':=by
 obtain⟨R,HR⟩:∃ R,Hid (Id.jT (⟨x0,x1,ar⟩:Id.Sag) ⟨y0,y1,br⟩=R):=⟨_,hid rfl⟩;rw[HR.out];obtain⟨A,ca,rfl,ha1,ha2,_⟩:=ah.slice ha;obtain⟨B,cb,rfl,hb1,hb2,_⟩:=ah.slice hb;have Ha:=hid ha;have Hb:=hid hb;obtain⟨n,hn⟩:∃ n,n=ar.length:=⟨_,rfl⟩;obtain⟨m,hm⟩:∃ m,m=br.length:=⟨_,rfl⟩;rw[<-hn]at Ha ha1 ⊢;rw[<-hm]at Hb hb1 ⊢;have hnm:n<=9223372036854775807:=by omega
 have hmm:m<=9223372036854775807:=by omega
 have HNA:=hid hn;have HNB:=hid hm;clear ha hb ha1 ha2 hb1 hb2 hn hm;cases h0:(x0.toList==y0.toList)
 case false =>
  have HE:Hid (R=false):=hid (by rw[<-HR.out];simp[Id.jT,h0]);go_enter Tryz.func57,Tryz.ntmps57;go_wp2_with fail;go_ret;exact⟨(by first|(rw[HE.out];done)|(rw[HE.out];rfl)),((Below.refl _ _).alloc (xB _) _).alloc (by simp) _⟩
 cases h1:(x1.toList==y1.toList)
 case false =>
  have HE:Hid (R=false):=hid (by rw[<-HR.out];simp[Id.jT,h1]);go_enter Tryz.func57,Tryz.ntmps57;go_wp2_with fail;go_ret;exact⟨(by first|(rw[HE.out];done)|(rw[HE.out];rfl)),((Below.refl _ _).alloc (xB _) _).alloc (by simp) _⟩
 by_cases hl:n=m
 case neg =>
  have HE:Hid (R=false):=hid (by rw[<-HR.out];simp[Id.jT,Id.jZ ar br (by rw[<-HNA.out,<-HNB.out];exact hl)]);have hli:((n:Int) != (m:Int))=true:=by rw[bne_iff_ne];omega
  clear hl;go_enter Tryz.func57,Tryz.ntmps57;go_wp2_with fail;go_ret;exact⟨(by first|(rw[HE.out];done)|(rw[HE.out];rfl)),((Below.refl _ _).alloc (xB _) _).alloc (by simp) _⟩
 subst hl;have HR0:Hid (R=Id.bD Id.rQ ar br):=hid (by rw[<-HR.out];simp[Id.jT,h0,h1]);have hB:=((Below.refl w.heap.size w).alloc (xB _) (.cells #[.string x0,.string x1,.slice A n ca] 105)).alloc (by simp) (.cells #[.string y0,.string y1,.slice B n cb] 105);have hqx:=(Bk.new w 105 #[.string x0,.string x1,.slice A n ca]).alloc (.cells #[.string y0,.string y1,.slice B n cb] 105);have hqy:=Bk.new (w.alloc (.cells #[.string x0,.string x1,.slice A n ca] 105)) 105 #[.string y0,.string y1,.slice B n cb];rw[World.size_alloc]at hqy;have Ha1:=hid (ah.below Ha.out hB Id.eu.kp);have Hb1:=hid (ah.below Hb.out hB Id.eu.kp);have HB:=hid hB;clear hB Ha Hb;go_enter Tryz.func57,Tryz.ntmps57;go_upto_region 3 with(fail)
 generalize((w.alloc (.cells #[.string x0,.string x1,.slice A n ca] 105)).alloc (.cells #[.string y0,.string y1,.slice B n cb] 105))=W at *;obtain⟨⟨cx0,cx1,cx2⟩,_⟩:=hqx.k3;obtain⟨⟨cy0,cy1,cy2⟩,_⟩:=hqy.k3;clear hqx hqy;go_wp2_with fail;go_loopw [5] (λi wr=>∃ k q:Nat,k<=n/\i=.int .i64 k/\Hid (R=Id.bD Id.rQ (ar.drop k) (br.drop k))/\Hid (wr=W.drewN q)) (λi _=>n - (intOf i).toNat)
 case atStart=>exact⟨0,0,by omega,rfl,HR0,hid rfl⟩
 case round =>
  obtain⟨k,q,hk,rfl,HK,HW⟩:=hrel;obtain rfl:=HW.out;by_cases hlt:k<n
  case neg =>
   obtain rfl:k=n:=by omega
   have HE:Hid (R=true):=hid (by rw[HK.out,Id.lM (by rw[HNA.out];exact xB _) (by rw[HNB.out];exact xB _)]);go_wp2_with fail;go_ret;exact⟨(by first|(rw[HE.out];done)|(rw[HE.out];rfl)),below_drewN HB.out q⟩
  have hka:k<ar.length:=by rw[<-HNA.out];exact hlt
  have hkb:k<br.length:=by rw[<-HNB.out];exact hlt
  obtain⟨ag,ao,acs,rfl,_,ea,hca⟩:=Ha1.out.get hka (by omega);obtain⟨bg,bo,bcs,rfl,_,eb,hcb⟩:=Hb1.out.get hkb (by omega);have HD:=HK.out;rw[Id.lK hka hkb]at HD;generalize ar[k]=x at *;generalize br[k]=y at *;obtain⟨e0,e1,e2⟩:=x;obtain⟨g0,g1,g2⟩:=y;unfold Id.eu Id.Stp.cells at ea eb;subst ea eb;have a0:=hca 0 _ rfl;have b0:=hcb 0 _ rfl;have a1:=hca 1 _ rfl;have b1:=hcb 1 _ rfl;have a2:=hca 2 _ rfl;have b2:=hcb 2 _ rfl;simp only[xK]at a0 b0;have i0:(0:Int)<=(k:Int):=by omega
  have i1:(k:Int)<(n:Int):=by omega
  have HD2:=hid HD;clear hca hcb HD HW HK hka hkb;cases f0:(e0.toList==g0.toList)
  case false =>
   have HE:Hid (R=false):=hid (by rw[HD2.out];simp[Id.rQ,f0]);go_wp2_with fail;go_quiet (fail);go_wp2_with fail;go_ret;exact⟨(by first|(rw[HE.out];done)|(rw[HE.out];rfl)),mX HB.out _ _⟩
  cases f1:(e1.toList==g1.toList)
  case false =>
   have HE:Hid (R=false):=hid (by rw[HD2.out];simp[Id.rQ,f0,f1]);go_wp2_with fail;go_quiet (fail);go_wp2_with fail;go_ret;exact⟨(by first|(rw[HE.out];done)|(rw[HE.out];rfl)),mX HB.out _ _⟩
  by_cases f2:e2=g2
  case neg =>
   have HE:Hid (R=false):=hid (by rw[HD2.out];simp[Id.rQ,f0,f1,f2]);have hki:((e2:Int)==(g2:Int))=false:=by rw[xG];omega
   clear f2;go_wp2_with fail;go_quiet (fail);go_wp2_with fail;go_ret;exact⟨(by first|(rw[HE.out];done)|(rw[HE.out];rfl)),mX HB.out _ _⟩
  subst f2;have HE:Hid (R=Id.bD Id.rQ (ar.drop (k+1)) (br.drop (k+1))):=hid (by rw[HD2.out];simp[Id.rQ,f0,f1]);go_wp2_with fail;go_quiet (fail);go_wp2_with fail;go_roundw
  case rel=>exact⟨k+1,_,by omega,by go_num,HE,hid rfl⟩
  case measure=>simp[intOf];omega
theorem L9(x0 y0:ByteArray)(x1:Bool)(y1:Bool)(ar br:List Id.Fld)(va vb:Value)(w:World)(ha:Id.iO w none va ar)(hb:Id.iO w none vb br) :
  Calls Tryz.prog 55 #[.agg #[.string x0,.bool x1,va],.agg #[.string y0,.bool y1,vb]] w λe w'=>e=.returned (.bool (Id.oL ⟨x0,x1,ar⟩ ⟨y0,y1,br⟩))/\Below w.heap.size w w':=by
 obtain⟨R,HR⟩:∃ R,Hid (Id.oL (⟨x0,x1,ar⟩:Id.Rec) ⟨y0,y1,br⟩=R):=⟨_,hid rfl⟩;rw[HR.out];obtain⟨A,ca,rfl,ha1,ha2,_⟩:=ah.slice ha;obtain⟨B,cb,rfl,hb1,hb2,_⟩:=ah.slice hb;have Ha:=hid ha;have Hb:=hid hb;obtain⟨n,hn⟩:∃ n,n=ar.length:=⟨_,rfl⟩;obtain⟨m,hm⟩:∃ m,m=br.length:=⟨_,rfl⟩;rw[<-hn]at Ha ha1 ⊢;rw[<-hm]at Hb hb1 ⊢;have hnm:n<=9223372036854775807:=by omega
 have hmm:m<=9223372036854775807:=by omega
 have HNA:=hid hn;have HNB:=hid hm;clear ha hb ha1 ha2 hb1 hb2 hn hm;cases h0:(x0.toList==y0.toList)
 case false =>
  have HE:Hid (R=false):=hid (by rw[<-HR.out];simp[Id.oL,h0]);go_enter Tryz.func55,Tryz.ntmps55;go_wp2_with fail;go_ret;exact⟨(by first|(rw[HE.out];done)|(rw[HE.out];rfl)),((Below.refl _ _).alloc (xB _) _).alloc (by simp) _⟩
 cases h1:(x1==y1)
 case false =>
  have HE:Hid (R=false):=hid (by rw[<-HR.out];simp[Id.oL,h1]);have h1b:(x1 != y1)=true:=by rw[bne,h1];rfl
  go_enter Tryz.func55,Tryz.ntmps55;go_wp2_with fail;go_ret;exact⟨(by first|(rw[HE.out];done)|(rw[HE.out];rfl)),((Below.refl _ _).alloc (xB _) _).alloc (by simp) _⟩
 have h1b:(x1 != y1)=false:=by rw[bne,h1];rfl
 by_cases hl:n=m
 case neg =>
  have HE:Hid (R=false):=hid (by rw[<-HR.out];simp[Id.oL,Id.jZ ar br (by rw[<-HNA.out,<-HNB.out];exact hl)]);have hli:((n:Int) != (m:Int))=true:=by rw[bne_iff_ne];omega
  clear hl;go_enter Tryz.func55,Tryz.ntmps55;go_wp2_with fail;go_ret;exact⟨(by first|(rw[HE.out];done)|(rw[HE.out];rfl)),((Below.refl _ _).alloc (xB _) _).alloc (by simp) _⟩
 subst hl;have HR0:Hid (R=Id.bD Id.uO ar br):=hid (by rw[<-HR.out];simp[Id.oL,h0,h1]);have hB:=((Below.refl w.heap.size w).alloc (xB _) (.cells #[.string x0,.bool x1,.slice A n ca] 42)).alloc (by simp) (.cells #[.string y0,.bool y1,.slice B n cb] 42);have hqx:=(Bk.new w 42 #[.string x0,.bool x1,.slice A n ca]).alloc (.cells #[.string y0,.bool y1,.slice B n cb] 42);have hqy:=Bk.new (w.alloc (.cells #[.string x0,.bool x1,.slice A n ca] 42)) 42 #[.string y0,.bool y1,.slice B n cb];rw[World.size_alloc]at hqy;have Ha1:=hid (ah.below Ha.out hB (Id.dR.below hB));have Hb1:=hid (ah.below Hb.out hB (Id.dR.below hB));have HB:=hid hB;clear hB Ha Hb;go_enter Tryz.func55,Tryz.ntmps55;go_upto_region 3 with(fail)
 generalize((w.alloc (.cells #[.string x0,.bool x1,.slice A n ca] 42)).alloc (.cells #[.string y0,.bool y1,.slice B n cb] 42))=W at *;obtain⟨⟨cx0,cx1,cx2⟩,_⟩:=hqx.k3;obtain⟨⟨cy0,cy1,cy2⟩,_⟩:=hqy.k3;clear hqx hqy;go_wp2_with fail;go_loopw [5] (λi wr=>∃ k q:Nat,k<=n/\i=.int .i64 k/\Hid (R=Id.bD Id.uO (ar.drop k) (br.drop k))/\Hid (wr=W.drewN q)) (λi _=>n - (intOf i).toNat)
 case atStart=>exact⟨0,0,by omega,rfl,HR0,hid rfl⟩
 case round =>
  obtain⟨k,q,hk,rfl,HK,HW⟩:=hrel;obtain rfl:=HW.out;by_cases hlt:k<n
  case neg =>
   obtain rfl:k=n:=by omega
   have HE:Hid (R=true):=hid (by rw[HK.out,Id.lM (by rw[HNA.out];exact xB _) (by rw[HNB.out];exact xB _)]);go_wp2_with fail;go_ret;exact⟨(by first|(rw[HE.out];done)|(rw[HE.out];rfl)),below_drewN HB.out q⟩
  have hka:k<ar.length:=by rw[<-HNA.out];exact hlt
  have hkb:k<br.length:=by rw[<-HNB.out];exact hlt
  obtain⟨ag,ao,acs,rfl,_,ea,hca⟩:=Ha1.out.get hka (by omega);obtain⟨bg,bo,bcs,rfl,_,eb,hcb⟩:=Hb1.out.get hkb (by omega);have HD:=HK.out;rw[Id.lK hka hkb]at HD;generalize ar[k]=x at *;generalize br[k]=y at *;obtain⟨e0,et⟩:=x;obtain⟨g0,gt⟩:=y;obtain⟨ua,ea,hsa⟩:=ea;obtain⟨ub,eb,hsb⟩:=eb;simp only at ea eb hsa hsb;subst ea eb;obtain⟨A5,n5,c5,rfl⟩:=ah.is hsa;obtain⟨A6,n6,c6,rfl⟩:=ah.is hsb;have a0:=hca 0 _ rfl;have a1:=hca 1 _ rfl;have b0:=hcb 0 _ rfl;have b1:=hcb 1 _ rfl;simp only[xK]at a0 b0;have i0:(0:Int)<=(k:Int):=by omega
  have i1:(k:Int)<(n:Int):=by omega
  have HD2:=hid HD;have HC:Hid (∀ j:Nat,Calls Tryz.prog 119 #[.slice A5 n5 c5,.slice A6 n6 c6] ((W.drewN q).drewN j) λe w'=>e=.returned (.bool (Id.bD Id.oJ et gt))/\∃ p,w'=(W.drewN q).drewN p):=hid (λj=>Ti j (Ad _ _ et gt _ (ah.mono hsa (λ_ _ h=>h) (λ_ _ h=>h)) (ah.mono hsb (λ_ _ h=>h) (λ_ _ h=>h))));have HCW:Hid (∀ j:Nat,Calls Tryz.prog 119 #[.slice A5 n5 c5,.slice A6 n6 c6] (W.drewN (q+j)) λe w'=>e=.returned (.bool (Id.bD Id.oJ et gt))/\∃ p,w'=W.drewN (q+p)):=hid (λj=>(Ad _ _ et gt (W.drewN (q+j)) (ah.mono hsa (λ_ _ h=>h) (λ_ _ h=>h)) (ah.mono hsb (λ_ _ h=>h) (λ_ _ h=>h))).mono λ_ _ ⟨he,p,hp⟩=>⟨he,j+p,by rw[hp,World.drewN_drewN,Nat.add_assoc]⟩);clear hca hcb HD HW HK hka hkb hsa hsb;cases f0:(e0.toList==g0.toList)
  ·have HE:Hid (R=false):=hid (by rw[HD2.out];simp[Id.uO,f0])
   go_wp2_with fail;go_quiet (fail);go_wp2_with fail;go_ret;exact⟨(by first|(rw[HE.out];done)|(rw[HE.out];rfl)),mX HB.out _ _⟩
  obtain⟨sb,hs⟩:∃ sb,Id.bD Id.oJ et gt=sb:=⟨_,rfl⟩;rw[hs]at HC HCW;have HS:=hid hs;clear hs;cases sb
  ·have HE:Hid (R=false):=hid (by rw[HD2.out];simp[Id.uO,f0,HS.out])
   go_wp2_with fail;go_quiet ((first|exact HCW.out _|exact HC.out _));go_wp2_with fail;go_ret;exact⟨(by first|(rw[HE.out];done)|(rw[HE.out];rfl)),by first|exact mX HB.out _ _|exact below_drewN HB.out _⟩
  ·have HE:Hid (R=Id.bD Id.uO (ar.drop (k+1)) (br.drop (k+1))):=hid (by rw[HD2.out];simp[Id.uO,f0,HS.out])
   go_wp2_with fail;go_quiet ((first|exact HCW.out _|exact HC.out _));go_wp2_with fail;go_roundw
   case rel=>exact⟨k+1,_,by omega,by go_num,HE,hid rfl⟩
   case measure=>simp[intOf];omega
def kU(a b:World):Prop:=∀ p v,a.cell? p=some v->b.cell? p=some v
theorem kU.drew(a:World):kU a a.drew:=λ_ _ h=>h
theorem kU.below{a b c:World}(h:kU a b)(hb:Below b.heap.size b c):kU a c:=λp v hp=>(hb.cell (xH b _ (h p v hp))).trans (h p v hp)
theorem Oi(x y:Id.Sch)(vx vy:Value)(w:World)(hx:Id.aY w none vx x)(hy:Id.aY w none vy y) :
  Calls Tryz.prog 15 #[vx,vy] w λe w'=>e=.returned (.bool (Id.uK x y))/\Below w.heap.size w w':=by
 obtain⟨R,HR⟩:∃ R,Hid (Id.uK x y=R):=⟨_,hid rfl⟩;rw[HR.out];obtain⟨A1,n1,c1,A2,n2,c2,A3,n3,c3,rfl,ra1,ra2,ra3⟩:=hx;obtain⟨B1,m1,d1,B2,m2,d2,B3,m3,d3,rfl,rb1,rb2,rb3⟩:=hy;obtain⟨x0,xr,xv,xg⟩:=x;obtain⟨y0,yr,yv,yg⟩:=y;simp only at ra1 ra2 ra3 rb1 rb2 rb3;have Va:n1=xr.length/\n1<=9223372036854775807:=by obtain⟨_,_,e,h1,h2,_⟩:=ah.slice ra1;injection e with _ e _;subst e;exact⟨rfl,by omega⟩
 have UW:m1=yr.length/\m1<=9223372036854775807:=by obtain⟨_,_,e,h1,h2,_⟩:=ah.slice rb1;injection e with _ e _;subst e;exact⟨rfl,by omega⟩
 have VK:=hid Va.1;have VH:=hid UW.1;have aaD:=Va.2;have aaI:=UW.2;have Ra1:=hid ra1;have Rb1:=hid rb1;clear Va UW ra1 rb1;have UZ:n2=xv.length/\n2<=9223372036854775807:=by obtain⟨_,_,e,h1,h2,_⟩:=ah.slice ra2;injection e with _ e _;subst e;exact⟨rfl,by omega⟩
 have UU:m2=yv.length/\m2<=9223372036854775807:=by obtain⟨_,_,e,h1,h2,_⟩:=ah.slice rb2;injection e with _ e _;subst e;exact⟨rfl,by omega⟩
 have VJ:=hid UZ.1;have VG:=hid UU.1;have aaC:=UZ.2;have aaH:=UU.2;have Ra2:=hid ra2;have Rb2:=hid rb2;clear UZ UU ra2 rb2;have UY:n3=xg.length/\n3<=9223372036854775807:=by obtain⟨_,_,e,h1,h2,_⟩:=ah.slice ra3;injection e with _ e _;subst e;exact⟨rfl,by omega⟩
 have UR:m3=yg.length/\m3<=9223372036854775807:=by obtain⟨_,_,e,h1,h2,_⟩:=ah.slice rb3;injection e with _ e _;subst e;exact⟨rfl,by omega⟩
 have VI:=hid UY.1;have VF:=hid UR.1;have aaB:=UY.2;have aaG:=UR.2;have Ra3:=hid ra3;have Rb3:=hid rb3;clear UY UR ra3 rb3;cases h0:(x0.toList==y0.toList)
 case false =>
  have HE:Hid (R=false):=hid (by rw[<-HR.out];simp[Id.uK,h0]);go_enter Tryz.func15,Tryz.ntmps15;go_wp2_with fail;go_ret;exact⟨(by first|(rw[HE.out];done)|(rw[HE.out];rfl)),((Below.refl _ _).alloc (xB _) _).alloc (by simp) _⟩
 by_cases hl1:n1=m1
 case neg =>
  have HE:Hid (R=false):=hid (by rw[<-HR.out];simp[Id.uK,Id.jZ xr yr (by rw[<-VK.out,<-VH.out];exact hl1)]);have hli:((n1:Int) != (m1:Int))=true:=by rw[bne_iff_ne];omega
  clear hl1;go_enter Tryz.func15,Tryz.ntmps15;go_wp2_with fail;go_ret;exact⟨(by first|(rw[HE.out];done)|(rw[HE.out];rfl)),((Below.refl _ _).alloc (xB _) _).alloc (by simp) _⟩
 subst hl1;by_cases hl2:n2=m2
 case neg =>
  have HE:Hid (R=false):=hid (by rw[<-HR.out];simp[Id.uK,Id.jZ xv yv (by rw[<-VJ.out,<-VG.out];exact hl2)]);have hli:((n2:Int) != (m2:Int))=true:=by rw[bne_iff_ne];omega
  clear hl2;go_enter Tryz.func15,Tryz.ntmps15;go_wp2_with fail;go_ret;exact⟨(by first|(rw[HE.out];done)|(rw[HE.out];rfl)),((Below.refl _ _).alloc (xB _) _).alloc (by simp) _⟩
 subst hl2;by_cases hl3:n3=m3
 case neg =>
  have HE:Hid (R=false):=hid (by rw[<-HR.out];simp[Id.uK,Id.jZ xg yg (by rw[<-VI.out,<-VF.out];exact hl3)]);have hli:((n3:Int) != (m3:Int))=true:=by rw[bne_iff_ne];omega
  clear hl3;go_enter Tryz.func15,Tryz.ntmps15;go_wp2_with fail;go_ret;exact⟨(by first|(rw[HE.out];done)|(rw[HE.out];rfl)),((Below.refl _ _).alloc (xB _) _).alloc (by simp) _⟩
 subst hl3;have HR0:Hid (R=(Id.bD Id.oL xr yr&&Id.bD Id.lI xv yv&&Id.bD Id.jT xg yg)):=hid (by rw[<-HR.out];simp[Id.uK,h0]);have hB:=((Below.refl w.heap.size w).alloc (xB _) (.cells #[.string x0,.slice A1 n1 c1,.slice A2 n2 c2,.slice A3 n3 c3] 28)).alloc (by simp) (.cells #[.string y0,.slice B1 n1 d1,.slice B2 n2 d2,.slice B3 n3 d3] 28);have hqx:=(Bk.new w 28 #[.string x0,.slice A1 n1 c1,.slice A2 n2 c2,.slice A3 n3 c3]).alloc (.cells #[.string y0,.slice B1 n1 d1,.slice B2 n2 d2,.slice B3 n3 d3] 28);have hqy:=Bk.new (w.alloc (.cells #[.string x0,.slice A1 n1 c1,.slice A2 n2 c2,.slice A3 n3 c3] 28)) 28 #[.string y0,.slice B1 n1 d1,.slice B2 n2 d2,.slice B3 n3 d3];rw[World.size_alloc]at hqy;have Ha1:=hid (ah.below Ra1.out hB (Id.iH.below hB));have Hb1:=hid (ah.below Rb1.out hB (Id.iH.below hB));have Ha2:=hid (ah.below Ra2.out hB (Id.jG.below hB));have Hb2:=hid (ah.below Rb2.out hB (Id.jG.below hB));have Ha3:=hid (ah.below Ra3.out hB (Id.jH.below hB));have Hb3:=hid (ah.below Rb3.out hB (Id.jH.below hB));have HB:=hid hB;clear hB Ra1 Rb1 Ra2 Rb2 Ra3 Rb3;go_enter Tryz.func15,Tryz.ntmps15;go_upto_region 3 with(fail)
 have hWz:((w.alloc (.cells #[.string x0,.slice A1 n1 c1,.slice A2 n2 c2,.slice A3 n3 c3] 28)).alloc (.cells #[.string y0,.slice B1 n1 d1,.slice B2 n2 d2,.slice B3 n3 d3] 28)).heap.size=w.heap.size+2:=by simp
 generalize((w.alloc (.cells #[.string x0,.slice A1 n1 c1,.slice A2 n2 c2,.slice A3 n3 c3] 28)).alloc (.cells #[.string y0,.slice B1 n1 d1,.slice B2 n2 d2,.slice B3 n3 d3] 28))=W at *;have HWZ:=hid hWz;clear hWz;have hW0:w.heap.size<=W.heap.size:=by rw[HWZ.out];omega
 have HQX:=hid hqx;have HQY:=hid hqy;clear hqx hqy;go_wp2_with fail;go_loopw [5] (λi wr=>∃ k:Nat,k<=n1/\i=.int .i64 k/\Hid (R=(Id.bD Id.oL (xr.drop k) (yr.drop k)&&Id.bD Id.lI xv yv&&Id.bD Id.jT xg yg))/\Hid (Below W.heap.size W wr)) (λi _=>n1 - (intOf i).toNat)
 case atStart=>exact⟨0,by omega,rfl,HR0,hid (Below.refl _ _)⟩
 case round =>
  obtain⟨k,hk,rfl,HK,HBW⟩:=hrel;obtain⟨W0,rfl⟩:∃ W',W'=wr:=⟨_,rfl⟩;obtain⟨⟨p0,p1,p2,p3⟩,_⟩:=(HQX.out.below HBW.out HQX.out.lt).k4;obtain⟨⟨z0,z1,z2,z3⟩,_⟩:=(HQY.out.below HBW.out HQY.out.lt).k4;by_cases hlt:k<n1
  case pos =>
   have hka:k<xr.length:=by rw[<-VK.out];exact hlt
   have hkb:k<yr.length:=by rw[<-VH.out];exact hlt
   have haw:=ah.below Ha1.out HBW.out (Id.iH.below HBW.out);have hbw:=ah.below Hb1.out HBW.out (Id.iH.below HBW.out);obtain⟨ag,ao,acs,rfl,_,⟨ua,ea,hsa⟩,hca⟩:=haw.get hka (by omega);obtain⟨bg,bo,bcs,rfl,_,⟨ub,eb,hsb⟩,hcb⟩:=hbw.get hkb (by omega);have HD:=HK.out;rw[Id.lK hka hkb]at HD;generalize xr[k]=x at *;generalize yr[k]=y at *;obtain⟨e0,e1,et⟩:=x;obtain⟨g0,g1,gt⟩:=y;simp only at ea eb hsa hsb;subst ea eb;have a0:=hca 0 _ rfl;have b0:=hcb 0 _ rfl;have a1:=hca 1 _ rfl;have b1:=hcb 1 _ rfl;have a2:=hca 2 _ rfl;have b2:=hcb 2 _ rfl;simp only[xK]at a0 b0;have i0:(0:Int)<=(k:Int):=by omega
   have i1:(k:Int)<(n1:Int):=by omega
   have HD2:=hid HD;have hsd:Below W0.heap.size W0 W0.drew:=(Below.refl _ _).drew;have HC:=hid (L9 e0 g0 e1 g1 et gt ua ub W0.drew (ah.below hsa hsd (Id.dR.below hsd)) (ah.below hsb hsd (Id.dR.below hsd)));have HUA:=hid (ah.is hsa);have HUB:=hid (ah.is hsb);have HP:=hid p1;have HZ:=hid z1;have K0:=hid a0;have L0:=hid b0;have K1:=hid a1;have L1:=hid b1;have K2:=hid a2;have L2:=hid b2;obtain⟨sb,hs⟩:∃ sb,Id.oL (⟨e0,e1,et⟩:Id.Rec) ⟨g0,g1,gt⟩=sb:=⟨_,rfl⟩;rw[hs]at HC HD2;have HS:=hid hs;clear hs hca hcb HD HK hka hkb haw hbw z0 z1 z2 z3;obtain⟨A5,n5,c5,rfl⟩:=HUA.out;obtain⟨A6,n6,c6,rfl⟩:=HUB.out;clear HUA HUB hsa hsb;have hSd:kU W0 W0.drew:=kU.drew _;clear a0 b0;clear a1 b1;clear a2 b2;go_wp2_with fail;clear p0 p1 p2 p3;refine bJ (kU W0) [] (by kernel_rfl) hSd (λhHeld=>?_);(refine aj 0 (v:=?_) rfl (by kernel_rfl) (by kernel_rfl) (by kernel_rfl) (by kernel_rfl) (λ_ _ _ h=>h) (λ_=>by assumption) (by rfl) ?_ ?_;rotate_left;· (intro w;go_simp;try with_reducible rfl);try simp only[Act.put,xA,xE,xC])
   (refine eF 1 (v:=?_) rfl (by kernel_rfl) (by kernel_rfl) (by kernel_rfl) (by kernel_rfl) (λ_ _ _ h=>h) (by assumption) (by rfl) ?_ ?_;rotate_left;· (intro w hSw;have e:=hSw _ _ HP.out;go_simp;try with_reducible rfl);try simp only[Act.put,xA,xE,xC])
   (refine aj 2 (v:=?_) rfl (by kernel_rfl) (by kernel_rfl) (by kernel_rfl) (by kernel_rfl) (λ_ _ _ h=>h) (λ_=>by assumption) (by rfl) ?_ ?_;rotate_left;· (intro w;go_simp;try with_reducible rfl);try simp only[Act.put,xA,xE,xC])
   (refine aj 3 (v:=?_) rfl (by kernel_rfl) (by kernel_rfl) (by kernel_rfl) (by kernel_rfl) (λ_ _ _ h=>h) (λ_=>by assumption) (by rfl) ?_ ?_;rotate_left;· (intro w;go_simp;try with_reducible rfl);try simp only[Act.put,xA,xE,xC])
   (refine eF 4 (v:=?_) rfl (by kernel_rfl) (by kernel_rfl) (by kernel_rfl) (by kernel_rfl) (λ_ _ _ h=>h) (by assumption) (by rfl) ?_ ?_;rotate_left;· (intro w hSw;have e0':=hSw _ _ K0.out;have e1':=hSw _ _ K1.out;have e2':=hSw _ _ K2.out;go_simp;try with_reducible rfl);try simp only[Act.put,xA,xE,xC])
   (refine aj 5 (v:=?_) rfl (by kernel_rfl) (by kernel_rfl) (by kernel_rfl) (by kernel_rfl) (λ_ _ _ h=>h) (λ_=>by assumption) (by rfl) ?_ ?_;rotate_left;· (intro w;go_simp;try with_reducible rfl);try simp only[Act.put,xA,xE,xC])
   (refine eF 6 (v:=?_) rfl (by kernel_rfl) (by kernel_rfl) (by kernel_rfl) (by kernel_rfl) (λ_ _ _ h=>h) (by assumption) (by rfl) ?_ ?_;rotate_left;· (intro w hSw;have e:=hSw _ _ HZ.out;go_simp;try with_reducible rfl);try simp only[Act.put,xA,xE,xC])
   (refine aj 7 (v:=?_) rfl (by kernel_rfl) (by kernel_rfl) (by kernel_rfl) (by kernel_rfl) (λ_ _ _ h=>h) (λ_=>by assumption) (by rfl) ?_ ?_;rotate_left;· (intro w;go_simp;try with_reducible rfl);try simp only[Act.put,xA,xE,xC])
   (refine aj 8 (v:=?_) rfl (by kernel_rfl) (by kernel_rfl) (by kernel_rfl) (by kernel_rfl) (λ_ _ _ h=>h) (λ_=>by assumption) (by rfl) ?_ ?_;rotate_left;· (intro w;go_simp;try with_reducible rfl);try simp only[Act.put,xA,xE,xC])
   (refine eF 9 (v:=?_) rfl (by kernel_rfl) (by kernel_rfl) (by kernel_rfl) (by kernel_rfl) (λ_ _ _ h=>h) (by assumption) (by rfl) ?_ ?_;rotate_left;· (intro w hSw;have e0':=hSw _ _ L0.out;have e1':=hSw _ _ L1.out;have e2':=hSw _ _ L2.out;go_simp;try with_reducible rfl);try simp only[Act.put,xA,xE,xC])
   (refine aB 10 (by kernel_rfl) rfl (λK hK=>?_))
   go_simp;refine(HC.out).mono ?_;rintro e w5⟨rfl,hb5⟩;have hSe:kU W0 w5:=hSd.below hb5;(refine hK.out _ _ (λhnn=>hSe) ?_;clear hK K;try simp only[Act.put,xA,xE,xC])
   (refine aj 11 (v:=?_) rfl (by kernel_rfl) (by kernel_rfl) (by kernel_rfl) (by kernel_rfl) (λ_ _ _ h=>h) (λ_=>by assumption) (by rfl) ?_ ?_;rotate_left;· (intro w;go_simp;try with_reducible rfl);try simp only[Act.put,xA,xE,xC])
   refine dU (by kernel_rfl) ?_ _;refine NoPanic.normal ?_;have HB5:=hid (HBW.out.trans ((below_drewN (Below.refl W.heap.size W0) 1).trans (hb5.mono (by have:=HBW.out.size;simpa using this))));clear hb5 hSd hSe hHeld hsd;cases sb
   ·have HE:Hid (R=false):=hid (by rw[HD2.out];simp)
    go_wp2_with fail;go_ret;exact⟨(by first|(rw[HE.out];done)|(rw[HE.out];rfl)),HB.out.trans (HB5.out.mono hW0)⟩
   ·have HE:Hid (R=(Id.bD Id.oL (xr.drop (k+1)) (yr.drop (k+1))&&Id.bD Id.lI xv yv&&Id.bD Id.jT xg yg)):=hid (by rw[HD2.out];simp)
    go_wp2_with fail;go_roundw
    case rel=>exact⟨k+1,by omega,by go_num,HE,HB5⟩
    case measure=>simp[intOf];omega
  obtain rfl:k=n1:=by omega
  have HRn:Hid (R=(Id.bD Id.lI xv yv&&Id.bD Id.jT xg yg)):=hid (by rw[HK.out,Id.lM (by rw[VK.out];exact xB _) (by rw[VH.out];exact xB _)];simp);clear HK;go_wp2_with fail;go_loopw [6] (λi wr=>∃ k:Nat,k<=n2/\i=.int .i64 k/\Hid (R=(Id.bD Id.lI (xv.drop k) (yv.drop k)&&Id.bD Id.jT xg yg))/\Hid (Below W.heap.size W wr)) (λi _=>n2 - (intOf i).toNat)
  case atStart=>exact⟨0,by omega,rfl,HRn,HBW⟩
  case round =>
   obtain⟨k,hk,rfl,HK,HBW⟩:=hrel;obtain⟨W1,rfl⟩:∃ W',W'=wr:=⟨_,rfl⟩;obtain⟨⟨p0,p1,p2,p3⟩,_⟩:=(HQX.out.below HBW.out HQX.out.lt).k4;obtain⟨⟨z0,z1,z2,z3⟩,_⟩:=(HQY.out.below HBW.out HQY.out.lt).k4;by_cases hlt:k<n2
   case pos =>
    have hka:k<xv.length:=by rw[<-VJ.out];exact hlt
    have hkb:k<yv.length:=by rw[<-VG.out];exact hlt
    have haw:=ah.below Ha2.out HBW.out (Id.jG.below HBW.out);have hbw:=ah.below Hb2.out HBW.out (Id.jG.below HBW.out);obtain⟨ag,ao,acs,rfl,_,⟨ua,ea,hsa⟩,hca⟩:=haw.get hka (by omega);obtain⟨bg,bo,bcs,rfl,_,⟨ub,eb,hsb⟩,hcb⟩:=hbw.get hkb (by omega);have HD:=HK.out;rw[Id.lK hka hkb]at HD;generalize xv[k]=x at *;generalize yv[k]=y at *;obtain⟨e0,et⟩:=x;obtain⟨g0,gt⟩:=y;simp only at ea eb hsa hsb;subst ea eb;have a0:=hca 0 _ rfl;have b0:=hcb 0 _ rfl;have a1:=hca 1 _ rfl;have b1:=hcb 1 _ rfl;simp only[xK]at a0 b0;have i0:(0:Int)<=(k:Int):=by omega
    have i1:(k:Int)<(n2:Int):=by omega
    have HD2:=hid HD;have hsd:Below W1.heap.size W1 W1.drew:=(Below.refl _ _).drew;have HC:=hid (L6 e0 g0 et gt ua ub W1.drew (ah.below hsa hsd Id.dh.kp) (ah.below hsb hsd Id.dh.kp));have HUA:=hid (ah.is hsa);have HUB:=hid (ah.is hsb);have HP:=hid p2;have HZ:=hid z2;have K0:=hid a0;have L0:=hid b0;have K1:=hid a1;have L1:=hid b1;obtain⟨sb,hs⟩:∃ sb,Id.lI (⟨e0,et⟩:Id.Svc) ⟨g0,gt⟩=sb:=⟨_,rfl⟩;rw[hs]at HC HD2;have HS:=hid hs;clear hs hca hcb HD HK hka hkb haw hbw z0 z1 z2 z3;obtain⟨A5,n5,c5,rfl⟩:=HUA.out;obtain⟨A6,n6,c6,rfl⟩:=HUB.out;clear HUA HUB hsa hsb;have hSd:kU W1 W1.drew:=kU.drew _;clear a0 b0;clear a1 b1;go_wp2_with fail;clear p0 p1 p2 p3;refine bJ (kU W1) [] (by kernel_rfl) hSd (λhHeld=>?_);(refine aj 0 (v:=?_) rfl (by kernel_rfl) (by kernel_rfl) (by kernel_rfl) (by kernel_rfl) (λ_ _ _ h=>h) (λ_=>by assumption) (by rfl) ?_ ?_;rotate_left;· (intro w;go_simp;try with_reducible rfl);try simp only[Act.put,xA,xE,xC])
    (refine eF 1 (v:=?_) rfl (by kernel_rfl) (by kernel_rfl) (by kernel_rfl) (by kernel_rfl) (λ_ _ _ h=>h) (by assumption) (by rfl) ?_ ?_;rotate_left;· (intro w hSw;have e:=hSw _ _ HP.out;go_simp;try with_reducible rfl);try simp only[Act.put,xA,xE,xC])
    (refine aj 2 (v:=?_) rfl (by kernel_rfl) (by kernel_rfl) (by kernel_rfl) (by kernel_rfl) (λ_ _ _ h=>h) (λ_=>by assumption) (by rfl) ?_ ?_;rotate_left;· (intro w;go_simp;try with_reducible rfl);try simp only[Act.put,xA,xE,xC])
    (refine aj 3 (v:=?_) rfl (by kernel_rfl) (by kernel_rfl) (by kernel_rfl) (by kernel_rfl) (λ_ _ _ h=>h) (λ_=>by assumption) (by rfl) ?_ ?_;rotate_left;· (intro w;go_simp;try with_reducible rfl);try simp only[Act.put,xA,xE,xC])
    (refine eF 4 (v:=?_) rfl (by kernel_rfl) (by kernel_rfl) (by kernel_rfl) (by kernel_rfl) (λ_ _ _ h=>h) (by assumption) (by rfl) ?_ ?_;rotate_left;· (intro w hSw;have e0':=hSw _ _ K0.out;have e1':=hSw _ _ K1.out;go_simp;try with_reducible rfl);try simp only[Act.put,xA,xE,xC])
    (refine aj 5 (v:=?_) rfl (by kernel_rfl) (by kernel_rfl) (by kernel_rfl) (by kernel_rfl) (λ_ _ _ h=>h) (λ_=>by assumption) (by rfl) ?_ ?_;rotate_left;· (intro w;go_simp;try with_reducible rfl);try simp only[Act.put,xA,xE,xC])
    (refine eF 6 (v:=?_) rfl (by kernel_rfl) (by kernel_rfl) (by kernel_rfl) (by kernel_rfl) (λ_ _ _ h=>h) (by assumption) (by rfl) ?_ ?_;rotate_left;· (intro w hSw;have e:=hSw _ _ HZ.out;go_simp;try with_reducible rfl);try simp only[Act.put,xA,xE,xC])
    (refine aj 7 (v:=?_) rfl (by kernel_rfl) (by kernel_rfl) (by kernel_rfl) (by kernel_rfl) (λ_ _ _ h=>h) (λ_=>by assumption) (by rfl) ?_ ?_;rotate_left;· (intro w;go_simp;try with_reducible rfl);try simp only[Act.put,xA,xE,xC])
    (refine aj 8 (v:=?_) rfl (by kernel_rfl) (by kernel_rfl) (by kernel_rfl) (by kernel_rfl) (λ_ _ _ h=>h) (λ_=>by assumption) (by rfl) ?_ ?_;rotate_left;· (intro w;go_simp;try with_reducible rfl);try simp only[Act.put,xA,xE,xC])
    (refine eF 9 (v:=?_) rfl (by kernel_rfl) (by kernel_rfl) (by kernel_rfl) (by kernel_rfl) (λ_ _ _ h=>h) (by assumption) (by rfl) ?_ ?_;rotate_left;· (intro w hSw;have e0':=hSw _ _ L0.out;have e1':=hSw _ _ L1.out;go_simp;try with_reducible rfl);try simp only[Act.put,xA,xE,xC])
    (refine aB 10 (by kernel_rfl) rfl (λK hK=>?_))
    go_simp;refine(HC.out).mono ?_;rintro e w5⟨rfl,hb5⟩;have hSe:kU W1 w5:=hSd.below hb5;(refine hK.out _ _ (λhnn=>hSe) ?_;clear hK K;try simp only[Act.put,xA,xE,xC])
    (refine aj 11 (v:=?_) rfl (by kernel_rfl) (by kernel_rfl) (by kernel_rfl) (by kernel_rfl) (λ_ _ _ h=>h) (λ_=>by assumption) (by rfl) ?_ ?_;rotate_left;· (intro w;go_simp;try with_reducible rfl);try simp only[Act.put,xA,xE,xC])
    refine dU (by kernel_rfl) ?_ _;refine NoPanic.normal ?_;have HB5:=hid (HBW.out.trans ((below_drewN (Below.refl W.heap.size W1) 1).trans (hb5.mono (by have:=HBW.out.size;simpa using this))));clear hb5 hSd hSe hHeld hsd;cases sb
    ·have HE:Hid (R=false):=hid (by rw[HD2.out];simp)
     go_wp2_with fail;go_ret;exact⟨(by first|(rw[HE.out];done)|(rw[HE.out];rfl)),HB.out.trans (HB5.out.mono hW0)⟩
    ·have HE:Hid (R=(Id.bD Id.lI (xv.drop (k+1)) (yv.drop (k+1))&&Id.bD Id.jT xg yg)):=hid (by rw[HD2.out];simp)
     go_wp2_with fail;go_roundw
     case rel=>exact⟨k+1,by omega,by go_num,HE,HB5⟩
     case measure=>simp[intOf];omega
   obtain rfl:k=n2:=by omega
   have HRn:Hid (R=(Id.bD Id.jT xg yg)):=hid (by rw[HK.out,Id.lM (by rw[VJ.out];exact xB _) (by rw[VG.out];exact xB _)];simp);clear HK;go_wp2_with fail;go_loopw [7] (λi wr=>∃ k:Nat,k<=n3/\i=.int .i64 k/\Hid (R=(Id.bD Id.jT (xg.drop k) (yg.drop k)))/\Hid (Below W.heap.size W wr)) (λi _=>n3 - (intOf i).toNat)
   case atStart=>exact⟨0,by omega,rfl,HRn,HBW⟩
   case round =>
    obtain⟨k,hk,rfl,HK,HBW⟩:=hrel;obtain⟨W2,rfl⟩:∃ W',W'=wr:=⟨_,rfl⟩;obtain⟨⟨p0,p1,p2,p3⟩,_⟩:=(HQX.out.below HBW.out HQX.out.lt).k4;obtain⟨⟨z0,z1,z2,z3⟩,_⟩:=(HQY.out.below HBW.out HQY.out.lt).k4;by_cases hlt:k<n3
    case pos =>
     have hka:k<xg.length:=by rw[<-VI.out];exact hlt
     have hkb:k<yg.length:=by rw[<-VF.out];exact hlt
     have haw:=ah.below Ha3.out HBW.out (Id.jH.below HBW.out);have hbw:=ah.below Hb3.out HBW.out (Id.jH.below HBW.out);obtain⟨ag,ao,acs,rfl,_,⟨ua,ea,hsa⟩,hca⟩:=haw.get hka (by omega);obtain⟨bg,bo,bcs,rfl,_,⟨ub,eb,hsb⟩,hcb⟩:=hbw.get hkb (by omega);have HD:=HK.out;rw[Id.lK hka hkb]at HD;generalize xg[k]=x at *;generalize yg[k]=y at *;obtain⟨e0,e1,et⟩:=x;obtain⟨g0,g1,gt⟩:=y;simp only at ea eb hsa hsb;subst ea eb;have a0:=hca 0 _ rfl;have b0:=hcb 0 _ rfl;have a1:=hca 1 _ rfl;have b1:=hcb 1 _ rfl;have a2:=hca 2 _ rfl;have b2:=hcb 2 _ rfl;simp only[xK]at a0 b0;have i0:(0:Int)<=(k:Int):=by omega
     have i1:(k:Int)<(n3:Int):=by omega
     have HD2:=hid HD;have hsd:Below W2.heap.size W2 W2.drew:=(Below.refl _ _).drew;have HC:=hid (L8 e0 e1 g0 g1 et gt ua ub W2.drew (ah.below hsa hsd Id.eu.kp) (ah.below hsb hsd Id.eu.kp));have HUA:=hid (ah.is hsa);have HUB:=hid (ah.is hsb);have HP:=hid p3;have HZ:=hid z3;have K0:=hid a0;have L0:=hid b0;have K1:=hid a1;have L1:=hid b1;have K2:=hid a2;have L2:=hid b2;obtain⟨sb,hs⟩:∃ sb,Id.jT (⟨e0,e1,et⟩:Id.Sag) ⟨g0,g1,gt⟩=sb:=⟨_,rfl⟩;rw[hs]at HC HD2;have HS:=hid hs;clear hs hca hcb HD HK hka hkb haw hbw z0 z1 z2 z3;obtain⟨A5,n5,c5,rfl⟩:=HUA.out;obtain⟨A6,n6,c6,rfl⟩:=HUB.out;clear HUA HUB hsa hsb;have hSd:kU W2 W2.drew:=kU.drew _;clear a0 b0;clear a1 b1;clear a2 b2;go_wp2_with fail;clear p0 p1 p2 p3;refine bJ (kU W2) [] (by kernel_rfl) hSd (λhHeld=>?_);(refine aj 0 (v:=?_) rfl (by kernel_rfl) (by kernel_rfl) (by kernel_rfl) (by kernel_rfl) (λ_ _ _ h=>h) (λ_=>by assumption) (by rfl) ?_ ?_;rotate_left;· (intro w;go_simp;try with_reducible rfl);try simp only[Act.put,xA,xE,xC])
     (refine eF 1 (v:=?_) rfl (by kernel_rfl) (by kernel_rfl) (by kernel_rfl) (by kernel_rfl) (λ_ _ _ h=>h) (by assumption) (by rfl) ?_ ?_;rotate_left;· (intro w hSw;have e:=hSw _ _ HP.out;go_simp;try with_reducible rfl);try simp only[Act.put,xA,xE,xC])
     (refine aj 2 (v:=?_) rfl (by kernel_rfl) (by kernel_rfl) (by kernel_rfl) (by kernel_rfl) (λ_ _ _ h=>h) (λ_=>by assumption) (by rfl) ?_ ?_;rotate_left;· (intro w;go_simp;try with_reducible rfl);try simp only[Act.put,xA,xE,xC])
     (refine aj 3 (v:=?_) rfl (by kernel_rfl) (by kernel_rfl) (by kernel_rfl) (by kernel_rfl) (λ_ _ _ h=>h) (λ_=>by assumption) (by rfl) ?_ ?_;rotate_left;· (intro w;go_simp;try with_reducible rfl);try simp only[Act.put,xA,xE,xC])
     (refine eF 4 (v:=?_) rfl (by kernel_rfl) (by kernel_rfl) (by kernel_rfl) (by kernel_rfl) (λ_ _ _ h=>h) (by assumption) (by rfl) ?_ ?_;rotate_left;· (intro w hSw;have e0':=hSw _ _ K0.out;have e1':=hSw _ _ K1.out;have e2':=hSw _ _ K2.out;go_simp;try with_reducible rfl);try simp only[Act.put,xA,xE,xC])
     (refine aj 5 (v:=?_) rfl (by kernel_rfl) (by kernel_rfl) (by kernel_rfl) (by kernel_rfl) (λ_ _ _ h=>h) (λ_=>by assumption) (by rfl) ?_ ?_;rotate_left;· (intro w;go_simp;try with_reducible rfl);try simp only[Act.put,xA,xE,xC])
     (refine eF 6 (v:=?_) rfl (by kernel_rfl) (by kernel_rfl) (by kernel_rfl) (by kernel_rfl) (λ_ _ _ h=>h) (by assumption) (by rfl) ?_ ?_;rotate_left;· (intro w hSw;have e:=hSw _ _ HZ.out;go_simp;try with_reducible rfl);try simp only[Act.put,xA,xE,xC])
     (refine aj 7 (v:=?_) rfl (by kernel_rfl) (by kernel_rfl) (by kernel_rfl) (by kernel_rfl) (λ_ _ _ h=>h) (λ_=>by assumption) (by rfl) ?_ ?_;rotate_left;· (intro w;go_simp;try with_reducible rfl);try simp only[Act.put,xA,xE,xC])
     (refine aj 8 (v:=?_) rfl (by kernel_rfl) (by kernel_rfl) (by kernel_rfl) (by kernel_rfl) (λ_ _ _ h=>h) (λ_=>by assumption) (by rfl) ?_ ?_;rotate_left;· (intro w;go_simp;try with_reducible rfl);try simp only[Act.put,xA,xE,xC])
     (refine eF 9 (v:=?_) rfl (by kernel_rfl) (by kernel_rfl) (by kernel_rfl) (by kernel_rfl) (λ_ _ _ h=>h) (by assumption) (by rfl) ?_ ?_;rotate_left;· (intro w hSw;have e0':=hSw _ _ L0.out;have e1':=hSw _ _ L1.out;have e2':=hSw _ _ L2.out;go_simp;try with_reducible rfl);try simp only[Act.put,xA,xE,xC])
     (refine aB 10 (by kernel_rfl) rfl (λK hK=>?_))
     go_simp;refine(HC.out).mono ?_;rintro e w5⟨rfl,hb5⟩;have hSe:kU W2 w5:=hSd.below hb5;(refine hK.out _ _ (λhnn=>hSe) ?_;clear hK K;try simp only[Act.put,xA,xE,xC])
     (refine aj 11 (v:=?_) rfl (by kernel_rfl) (by kernel_rfl) (by kernel_rfl) (by kernel_rfl) (λ_ _ _ h=>h) (λ_=>by assumption) (by rfl) ?_ ?_;rotate_left;· (intro w;go_simp;try with_reducible rfl);try simp only[Act.put,xA,xE,xC])
     refine dU (by kernel_rfl) ?_ _;refine NoPanic.normal ?_;have HB5:=hid (HBW.out.trans ((below_drewN (Below.refl W.heap.size W2) 1).trans (hb5.mono (by have:=HBW.out.size;simpa using this))));clear hb5 hSd hSe hHeld hsd;cases sb
     ·have HE:Hid (R=false):=hid (by rw[HD2.out];simp)
      go_wp2_with fail;go_ret;exact⟨(by first|(rw[HE.out];done)|(rw[HE.out];rfl)),HB.out.trans (HB5.out.mono hW0)⟩
     ·have HE:Hid (R=(Id.bD Id.jT (xg.drop (k+1)) (yg.drop (k+1)))):=hid (by rw[HD2.out];simp)
      go_wp2_with fail;go_roundw
      case rel=>exact⟨k+1,by omega,by go_num,HE,HB5⟩
      case measure=>simp[intOf];omega
    obtain rfl:k=n3:=by omega
    have HE:Hid (R=true):=hid (by rw[HK.out,Id.lM (by rw[VI.out];exact xB _) (by rw[VF.out];exact xB _)]);go_wp2_with fail;go_ret;exact⟨(by first|(rw[HE.out];done)|(rw[HE.out];rfl)),HB.out.trans (HBW.out.mono hW0)⟩
end
section
open Go.BigFrame Go.RowKit
namespace Prn
open Id Chk
theorem QE{x:Sch}{s:ByteArray}(h:text x=(s,0)):Right x/\s=jn (iW x)/\s.size<=65536:=by
 unfold text at h;split at h
 ·next h1=>injection h with _ h2;exact absurd h2 h1
 ·next h1 =>
  split at h
  ·next h2=>injection h with _ h3;cases h3
  ·next h2 =>
   injection h with h3 _
   refine⟨qp (by simpa using h1),h3.symm,?_⟩;rw[<-h3];omega
theorem NT{x:Sch}{s:ByteArray}(h:text x=(s,0)):parse s=(x,0,0):=by
 obtain⟨h1,h2,h3⟩:=QE h;subst h2;exact OI (mP h1) h3
end Prn
namespace Cd
open Id Chk Vl Ev
theorem Ql{s:Sch}{t:List Srt}{v:List Vl.Node}{B:ByteArray}(h:fits s t v=0)(ho:∀ n∈v,OkN n)(hB:B=⟨(gy v).toArray⟩):B=⟨(gy v).toArray⟩/\B.size<=100000/\decP s t B.data.toList=(v,0,0):=by
 obtain⟨_,_,d,h3,h4,h5⟩:=CB h;have h6:=BK v;unfold size at h5;unfold nJ at h6;refine⟨hB,?_,?_⟩
 ·subst hB
  show(gy v).toArray.size<=_
  rw[List.size_toArray];omega
 ·subst hB
  exact Vs h ho
theorem Xu{v:List Vl.Node}{b:ByteArray}(h:gy v=b.data.toList):zQ 0 v=b:=by
 unfold zQ;rw[if_pos rfl,h]
end Cd
end
