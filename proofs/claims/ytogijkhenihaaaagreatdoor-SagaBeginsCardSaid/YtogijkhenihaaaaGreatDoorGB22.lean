import Derived.Test.YtogijkhenihaaaaGreatDoorGB20
import Derived.Test.YtogijkhenihaaaaGreatDoorGB21
set_option linter.all false
set_option maxRecDepth 100000
set_option maxHeartbeats 0
namespace Go.Proofs.YtogijkhenihaaaaGreatDoor
open Lib (hid)
open Go.RowKit
section
open Go.BigFrame
theorem GX(sv:Value)(x:Id.Sch)(hF:Chk.Fine x)(tv:Value)(t:List Id.Srt)(w:World)(hk:Tk.KW w)(hv:Id.ay w none sv x)(ht:Id.bG w none tv t) :
  Calls Tryz.prog 58 #[sv,tv] w λe w'=>e=.returned (.int .i64 (Vl.oK x t))/\Below w.heap.size w w':=by
 obtain⟨R,HR⟩:∃ R,Hid (Vl.oK x t=R):=⟨_,hid rfl⟩;rw[HR.out];unfold Vl.oK at HR;have HF:=hid hF;have HKW:=hid hk;have HV:=hid hv;have HS:=hid ht;obtain⟨A,n,c,rfl⟩:=ah.is ht;have HN:Hid (n=t.length):=hid (by obtain⟨_,_,e,_⟩:=ah.slice ht;injection e);obtain⟨A1,n1,c1,A2,n2,c2,A3,n3,c3,rfl,-,-,-⟩:=hv;clear hF hk ht;go_enter Tryz.func58,Tryz.ntmps58;go_upto_region 1 with(fail)
 refine aj (λV hV=>?_);have HL:=hid (Chk.Lx.start hV);clear hV;obtain⟨⟨q0,q1,q2,q3⟩,-⟩:=HL.out.box.k4;go_wp2_with fail;clear q0 q1 q2 q3;refine(Bc _ x HF.out _ (HKW.out.below HL.out.bel) (HV.out.below HL.out.bel)).mono ?_;rintro e W1⟨rfl,hb⟩;have HL1:=hid (HL.out.below hb);clear hb;obtain⟨⟨cw,ce⟩,HC⟩:∃ c,Hid (Chk.check x=c):=⟨_,hid rfl⟩;rw[HC.out]at HR;rw[HC.out];simp only at HR ⊢;by_cases h0:ce=0
 case neg =>
  have HE:Hid (ce=R):=hid (by rw[<-HR.out,if_pos h0]);have t0:((ce:Int) != 0)=true:=by rw[bne_iff_ne];omega
  have t1:¬(ce:Int)=0:=by omega
  have t2:((ce:Int)==0)=false:=by rw[xG];omega
  go_wp2_with fail;go_ret;exact⟨by rw[<-HE.out];rfl,HL1.out.bel⟩
 subst h0;have hRt:Chk.Right x:=Chk.sF (by rw[HC.out]);have HRT:=hid hRt;have HR2:Hid ((if Chk.right x t=true then 0 else 131)=R):=hid (by rw[<-HR.out];simp only[ne_eq,not_true,if_false]);clear HR HC;simp only[xY];go_wp2_with fail;refine(LV _ t _ (HKW.out.below HL1.out.bel) (ah.below HS.out HL1.out.bel (λ_ _ h=>h))).mono ?_;rintro e W2⟨rfl,hb⟩;have HL2:=hid (HL1.out.below hb);clear hb;obtain⟨T,HT⟩:∃ T,Hid (Prn.sS t=T):=⟨_,hid rfl⟩;have HRR:Hid (Chk.right x t=(!T.toList.isEmpty&&Vl.uT x t)):=hid (by rw[Vl.Gq HRT.out,HT.out]);have HLEN:Hid (T.toList.isEmpty=false->n≠0/\n<=12):=hid (λh=>by rw[HN.out];exact Vl.La (by rw[HT.out];exact h));rw[HT.out];clear HT HL HL1;cases hte:T.toList.isEmpty
 case true =>
  have HE:Hid (131=R):=hid (by rw[<-HR2.out,if_neg (by rw[HRR.out,hte];simp)]);go_wp2_with fail;go_ret;exact⟨by rw[<-HE.out];rfl,HL2.out.bel⟩
 obtain⟨hn0,Uy⟩:=HLEN.out hte;obtain⟨k,rfl⟩:∃ k,n=k+1:=⟨n - 1,by omega⟩;have hka:k<t.length:=by rw[<-HN.out];omega
 obtain⟨g,off,cs,rfl,-,e1,hc⟩:=ah.get HS.out hka (by omega);have hlo:Vl.uT x t=(t[k].kind != 7||(Chk.find x t[k].name).isSome):=by unfold Vl.uT;rw[List.getLast?_eq_getElem?,show t.length - 1=k by rw[<-HN.out];omega,yF hka]
 obtain⟨⟨yk,yn⟩,Hy⟩:∃ y,Hid (t[k]=y):=⟨_,hid rfl⟩;rw[Hy.out]at e1 hlo;unfold Id.gU Id.Srt.cells at e1;subst e1;have HX:Hid ((if(yk != 7||(Chk.find x yn).isSome)=true then 0 else 131)=R):=hid (by rw[<-HR2.out,HRR.out,hte,hlo];rfl);have a0:=hc 0 _ rfl;have a1:=hc 1 _ rfl;simp only[xK]at a0;have hgl:g<w.heap.size:=xH w _ a0;have a0:=(HL2.out.bel.cell hgl).trans a0;have a1:=(HL2.out.bel.cell hgl).trans a1;have HTE:=hid hte;have e5:(((k+1:Nat):Int) - 1)=(k:Int):=by omega
 have e6:((k:Int)+1 - 1)=(k:Int):=by omega
 have ik0:(0:Int)<=(k:Int):=by omega
 have ik1:(k:Int)<((k+1:Nat):Int):=by omega
 have ik2:(k:Int)<(k:Int)+1:=by omega
 clear hc Hy hlo HLEN HR2 HRR hn0;go_upto_region 7 with(fail)
 refine aj (λW3 hW=>?_);obtain⟨hb3,hq3,-⟩:=au hW;clear hW;have HL3:=hid (HL2.out.below hb3);obtain⟨⟨b0,b1⟩,-⟩:=hq3.k2;clear hb3 hq3 a0 a1 HL2 hte;by_cases h7:yk=7
 case neg =>
  have HE:Hid (0=R):=hid (by rw[<-HX.out,if_pos (by rw[show(yk != 7)=true by rw[bne_iff_ne];exact h7];rfl)]);have t0:((yk:Int)==7)=false:=by rw[xG];omega
  have t1:¬(yk:Int)=7:=by omega
  go_wp2_with fail;go_ret;exact⟨by rw[<-HE.out];rfl,HL3.out.bel⟩
 subst h7;simp only[xY]at *;obtain⟨⟨q0,q1,q2,q3⟩,-⟩:=HL3.out.box.k4;go_wp2_with fail;refine(um _ x yn (Vl.AX HF.out) _ (HV.out.below HL3.out.bel)).mono ?_;rintro e W4⟨u,rfl,hb,uu,rfl,hu⟩;obtain⟨A9,n9,c9,rfl⟩:=ah.is hu;have HL4:=hid (HL3.out.below hb);clear hb hu b0 b1 q0 q1 q2 q3;cases hs:(Chk.find x yn).isSome
 case false =>
  have HE:Hid (131=R):=hid (by rw[<-HX.out,if_neg (by rw[hs];decide)]);go_wp2_with fail;go_ret;exact⟨by rw[<-HE.out];rfl,HL4.out.bel.trans (((Below.refl _ _).alloc (xB _) _).mono HL4.out.bel.size)⟩
 have HE:Hid (0=R):=hid (by rw[<-HX.out,if_pos (by rw[hs];rfl)]);go_wp2_with fail;go_ret;exact⟨by rw[<-HE.out];rfl,HL4.out.bel.trans (((Below.refl _ _).alloc (xB _) _).mono HL4.out.bel.size)⟩
namespace Cd
theorem P7{a:Nat}(h:a<18446744073709551616):a ^^^ 18446744073709551615=18446744073709551615 - a:=by
 have h1:(BitVec.ofNat 64 a ^^^ BitVec.allOnes 64)= ~~~(BitVec.ofNat 64 a):=BitVec.xor_allOnes;have h2:=congrArg BitVec.toNat h1;rw[BitVec.toNat_xor,BitVec.toNat_allOnes,BitVec.toNat_not,BitVec.toNat_ofNat,Nat.mod_eq_of_lt (by simpa using h)]at h2;simpa using h2
theorem back_eq{u:Nat}(h:u<18446744073709551616):bits .xor .i64 ((u:Int) / 2) (IntKind.i64.wrap (-IntKind.i64.wrap (bits .and .u64 (u:Int) 1)))=un u:=by
 have e1:bits .and .u64 (u:Int) 1=((u % 2:Nat):Int):=by
  have h:=u64_and_nat u 1 h (by omega);rw[Nat.and_one_is_mod]at h;exact h
 rw[e1];have e2:(u:Int) / 2=((u / 2:Nat):Int):=by omega
 rw[e2];have hu:u / 2<9223372036854775808:=by omega
 unfold un;rcases Nat.mod_two_eq_zero_or_one u with h0|h0
 ·rw[h0,if_pos rfl]
  show IntKind.i64.wrap ((BitVec.ofInt 64 ((u / 2:Nat):Int) ^^^ BitVec.ofInt 64 0).toNat:Int)=_
  rw[BitVec.toNat_xor,ofInt_u64 _ (by omega),show(BitVec.ofInt 64 0).toNat=0 from rfl,Nat.xor_zero];unfold IntKind.wrap;simp[IntKind.bits,IntKind.signed];omega
 ·rw[h0,if_neg (by omega)]
  show IntKind.i64.wrap ((BitVec.ofInt 64 ((u / 2:Nat):Int) ^^^ BitVec.ofInt 64 (-1)).toNat:Int)=_
  rw[BitVec.toNat_xor,ofInt_u64 _ (by omega),show(BitVec.ofInt 64 (-1)).toNat=18446744073709551615 from rfl,P7 (by omega)];unfold IntKind.wrap;simp[IntKind.bits,IntKind.signed];omega
end Cd
theorem Nw(u:Nat)(h2:u<18446744073709551616)(w:World) :
  Calls Tryz.prog 125 #[.int .u64 u] w λe w'=>e=.returned (.int .i64 (Cd.un u))/\w'=w:=by
 have HE:Hid (bits .xor .i64 ((u:Int) / 2) (wrap64 (-wrap64 (bits .and .u64 (u:Int) 1)))=Cd.un u):=hid (by
  have e:∀ n,wrap64 n=IntKind.i64.wrap n:=λn=>by first|(rw[IntKind.wrap_i64];rfl)|(rw[IntKind.wrap_i64];unfold wrap64;rfl)|simp[wrap64,IntKind.wrap,IntKind.bits,IntKind.signed]
  rw[e,e];exact Cd.back_eq h2)
 go_enter Tryz.func125,Tryz.ntmps125;go_wp2_with fail;go_ret;exact⟨by rw[<-HE.out];rfl,rfl⟩
namespace Cd
open Id Chk Vl Ev
structure bn(B g:Nat)(w w':World):Prop where
 os:w'.os=w.os
 tape:w'.tape=w.tape
 output:w'.output=w.output
 size:w.heap.size<=w'.heap.size
 block:∀(i:Nat)(o:Obj),w.heap[i]?=some o->i≠g->(i<B∨∀(cs:Array Value)(fr:Nat × Nat),o≠Obj.cells cs 92 fr)->w'.heap[i]?=some o
theorem bn.refl(B g:Nat)(w:World):bn B g w w:=⟨rfl,rfl,rfl,xB _,λ_ _ h _ _=>h⟩
theorem bn.trans{B g:Nat}{a b c:World}(h:bn B g a b)(k:bn B g b c):bn B g a c:=⟨k.os.trans h.os,k.tape.trans h.tape,k.output.trans h.output,xM h.size k.size,λi o hg hi hn=>k.block i o (h.block i o hg hi hn) hi hn⟩
theorem bn.gb{B g:Nat}{w w':World}(h:w.grownBy w' (some g)):bn B g w w':=⟨h.os,h.tape,h.output,h.size,λi o hg hi _=>(h.block i (Array.getElem?_eq_some_iff.1 hg).1 (by intro e;injection e with e;exact hi e)).trans hg⟩
theorem bn.below{B g:Nat}{w w':World}(h:Below w.heap.size w w'):bn B g w w':=⟨h.os,h.tape,h.output,h.size,λi o hg _ _=>(h.block i (Array.getElem?_eq_some_iff.1 hg).1).trans hg⟩
theorem bn.only{B g:Nat}{w w':World}(hb:Below B w w')(h:Only 92 w w'):bn B g w w':=⟨h.os,h.tape,h.output,h.size,λi o hg _ hn=>by
 rcases hn with hn|hn
 ·exact(hb.block i hn).trans hg
 ·exact h.block i o hg hn⟩
theorem bn.bk{B g i:Nat}{w w':World}{t:TypeId}{cs:Array Value}(h:bn B g w w')(hb:Bk w i t cs)(hi:i≠g)(ht:t≠92):Bk w' i t cs:=h.block i _ hb hi (.inr λcs' fr' e'=>by injection e' with _ e2;exact ht e2)
theorem bn.bel{B g:Nat}{w w':World}(h:bn B g w w')(hg:B<=g)(hB:B<=w.heap.size):Below B w w' :=
 ⟨h.os,h.tape,h.output,h.size,λi hi=>by
  have hl:i<w.heap.size:=Nat.lt_of_lt_of_le hi hB;rw[yD hl];exact h.block i _ (yD hl) (by omega) (.inl hi)⟩
theorem bn.kp{B g base:Nat}{T:List TypeId}{w w':World}{cs:Array Value}(h:bn B g w w')(hg:Bk w g 118 cs)(h1:118 ∉ T)(h2:92 ∉ T):Kp base T w w':=λi cs' t _ ht hi=>h.block i _ hi (by
  rintro rfl;have e:=(show w.heap[i]?=some (.cells cs 118 (0,0))from hg).symm.trans hi;injection e with e
  injection e with _ e
  exact h1 (e ▸ ht)) (.inr λcs'' fr e=>by injection e with _ e;exact h2 (e ▸ ht))
def pan(at_ e:Nat):Ending:=.panicked [{ v:=.iface 114 (.agg #[.int .i64 (at_:Nat),.int .i64 (e:Nat)]),recovered:=false }]
abbrev Ru(q0 q1 q2 q3:Value)(bb:ByteArray)(x:S)(vv:Value):Array Value:=#[q0,q1,q2,q3,.string bb,.int .i64 (x.at_:Nat),vv,.int .i64 (x.sz:Nat)]
structure Rdr(q0 q1 q2 q3:Value)(bb:ByteArray)(w0 w:World)(g:Nat)(x:S)(vv:Value):Prop where
 bel:Below w0.heap.size w0 w
 lo:w0.heap.size<=g
 box:Bk w g 118 (Ru q0 q1 q2 q3 bb x vv)
 row:Vl.bT w (some w0.heap.size) vv x.v
 ha:x.at_<=bb.size
 hv:x.v.length<=4096
 hz:x.sz<=4096
section
variable {q0 q1 q2 q3 vv : Value} {bb : ByteArray} {w0 w w' : World} {g : Nat} {x : S}
theorem I8{b:Nat}{l:List Vl.Node}(h:Vl.bT w (some b) vv l)(hb:Below w.heap.size w w'):Vl.bT w' (some b) vv l:=ah.below (show ah w (some b) 92 4 Vl.x9 vv l from h) hb (λ_ _ h=>h)
theorem Rdr.below(h:Rdr q0 q1 q2 q3 bb w0 w g x vv)(hb:Below w.heap.size w w'):Rdr q0 q1 q2 q3 bb w0 w' g x vv :=
 ⟨h.bel.trans (hb.mono h.bel.size),h.lo,h.box.below hb h.box.lt,I8 h.row hb,h.ha,h.hv,h.hz⟩
theorem zl{b:Nat}{l:List Vl.Node}{cs:Array Value}(h:Vl.bT w (some b) vv l)(hg:Bk w g 118 cs)(j:Nat)(u:Value):Vl.bT (w.setCell ⟨g,j,none⟩ u) (some b) vv l :=
 ah.kp (T:=[92]) (show ah w (some b) 92 4 Vl.x9 vv l from h) (Only.kp (Only.set hg j u) b (by decide)) (xB _) (by decide) (λ_ _ h=>h)
theorem Rdr.at_(h:Rdr q0 q1 q2 q3 bb w0 w g x vv)(p:Nat)(hp:p<=bb.size):Rdr q0 q1 q2 q3 bb w0 (w.setCell ⟨g,5,none⟩ (.int .i64 (p:Nat))) g ⟨p,x.v,x.sz⟩ vv :=
 ⟨h.bel.setCell (p:=⟨g,5,none⟩) h.lo _,h.lo,h.box.aA 5 _,zl h.row h.box 5 _,hp,h.hv,h.hz⟩
theorem Rdr.Eb(h:Rdr q0 q1 q2 q3 bb w0 w g x vv)(z:Nat)(hz:z<=4096):Rdr q0 q1 q2 q3 bb w0 (w.setCell ⟨g,7,none⟩ (.int .i64 (z:Nat))) g ⟨x.at_,x.v,z⟩ vv :=
 ⟨h.bel.setCell (p:=⟨g,7,none⟩) h.lo _,h.lo,h.box.aA 7 _,zl h.row h.box 7 _,h.ha,h.hv,hz⟩
theorem Rdr.drew(h:Rdr q0 q1 q2 q3 bb w0 w g x vv):Rdr q0 q1 q2 q3 bb w0 w.drew g x vv:=h.below (Below.drew (Below.refl _ _))
theorem Rdr.Oe(h:Rdr q0 q1 q2 q3 bb w0 w g x vv){w':World}{v':Value}{l:List Vl.Node}(hb:Below w0.heap.size w w')(ho:Only 92 w w')(hr:Vl.bT w' (some w0.heap.size) v' l)(hl:l.length<=4096) :
  Rdr q0 q1 q2 q3 bb w0 (w'.setCell ⟨g,6,none⟩ v') g ⟨x.at_,l,x.sz⟩ v':=by
 have hbx:=ho.bk h.box (by decide);exact⟨(h.bel.trans hb).setCell (p:=⟨g,6,none⟩) h.lo _,h.lo,hbx.aA 6 _,zl hr hbx 6 _,h.ha,hl,h.hz⟩
def Sts(B g:Nat)(w:World)(tv:Value)(t:List Srt):Prop:=∀ w',bn B g w w'->bG w' none tv t
theorem Sts.now{B:Nat}{tv:Value}{t:List Srt}(h:Sts B g w tv t):bG w none tv t:=h w (bn.refl _ _ _)
theorem Sts.next{B:Nat}{tv:Value}{t:List Srt}(h:Sts B g w tv t)(k:bn B g w w'):Sts B g w' tv t:=λw2 h2=>h w2 (k.trans h2)
theorem Sts.old{tv:Value}{t:List Srt}(h:bG w0 none tv t)(hb:Below w0.heap.size w0 w)(hg:w0.heap.size<=g):Sts w0.heap.size g w tv t:=λw' k=>ah.below h (hb.trans (k.bel hg hb.size)) (λ_ _ h=>h)
theorem Sts.own{B b:Nat}{tv:Value}{t:List Srt}{cs:Array Value}(h:bG w (some b) tv t)(hg:Bk w g 118 cs):Sts B g w tv t:=λw' k =>
 ah.mono (ah.kp (T:=[44]) h (k.kp hg (by decide) (by decide)) (xB _) (by decide) (λ_ _ h=>h)) (λ_ _ hr=>hr.weak (Ht _)) (λ_ _ h=>h)
theorem mO{B b:Nat}{u:Value}{l:List Fld}{cs:Array Value}(h:jC w (some b) u l)(k:bn B g w w')(hg:Bk w g 118 cs):jC w' (some b) u l:=by
 have hk:Kp b [176,44] w w':=k.kp hg (by decide) (by decide);refine ah.kp h hk (xB _) (by decide) (λcs x he=>?_);obtain⟨u',e,hs⟩:=he;exact⟨u',e,ah.kp hs hk (xB _) (by decide) (λ_ _ h=>h)⟩
end
end Cd
end
namespace Ev
theorem Si(c:Nat)(hc:c<256):bits .and .u8 (c:Int) 127=((c % 128:Nat):Int):=by
 have h:=u8_and_nat c 127 hc (by omega);have e:∀ z,z<256->z &&& 127=z % 128:=by decide +kernel
 rw[e c hc]at h;exact h
theorem Sj{a c k:Nat}(ha:a<18446744073709551616)(hc:c<256) :
  bits .or .u64 (a:Int) (IntKind.u64.wrap (IntKind.u64.wrap (bits .and .u8 (c:Int) 127) * 2 ^ (7 * k)))=((a ||| (c % 128 * 2 ^ (7 * k) % 18446744073709551616):Nat):Int):=by
 rw[Si c hc];have e1:IntKind.u64.wrap ((c % 128:Nat):Int)=((c % 128:Nat):Int):=by rw[IntKind.wrap_u64];omega
 have e2:IntKind.u64.wrap (((c % 128:Nat):Int) * 2 ^ (7 * k))=((c % 128 * 2 ^ (7 * k) % 18446744073709551616:Nat):Int):=by
  rw[IntKind.wrap_u64,show((2:Int) ^ (7 * k))=((2 ^ (7 * k):Nat):Int)from by rw[Int.natCast_pow];rfl,<-Int.natCast_mul];rfl
 rw[e1,e2];exact u64_or_nat a _ ha (Nat.mod_lt _ (by decide))
end Ev
section
open Go.BigFrame
theorem jy(at_ e:Nat)(w:World):Calls Tryz.prog 122 #[.int .i64 at_,.int .i64 e] w λen w'=>en=Cd.pan at_ e/\w'=w:=by
 go_enter Tryz.func122,Tryz.ntmps122;go_wp2_with fail;exact⟨rfl,rfl,rfl⟩
namespace Cd
open Id Chk Vl Ev
def Pq(k:IntKind)(q0 q1 q2 q3:Value)(bb:ByteArray)(w0 w:World)(g:Nat)(x:S)(vv:Value)(R:Rs (Nat × Nat))(e:Ending)(w':World):Prop:=match R with
 | .ok q=>e=.returned (.int k (q.1:Nat))/\w.grownBy w' (some g)/\Rdr q0 q1 q2 q3 bb w0 w' g ⟨q.2,x.v,x.sz⟩ vv
 | .error p=>e=pan p.1 p.2/\Below w0.heap.size w0 w'
def wR(b:List UInt8)(p:Nat):Rs (Nat × Nat):=if p<b.length then .ok ((b.getD p 0).toNat,p+1)else .error (b.length,160)
end Cd
theorem FN(q0 q1 q2 q3:Value)(bb:ByteArray)(w0 w:World)(g:Nat)(x:Cd.S)(vv:Value)(hb:bb.size<=1000000)(hr:Cd.Rdr q0 q1 q2 q3 bb w0 w g x vv) :
  Calls Tryz.prog 178 #[.pointer (some ⟨g,0,none⟩)] w λe w'=>Cd.Pq .u8 q0 q1 q2 q3 bb w0 w g x vv (Cd.wR bb.data.toList x.at_) e w':=by
 obtain⟨R,HR⟩:∃ R,Hid (Cd.wR bb.data.toList x.at_=R):=⟨_,hid rfl⟩;rw[HR.out];have HRD:=hid hr;obtain⟨p,v,z⟩:=x;obtain⟨⟨c0,c1,c2,c3,c4,c5,c6,c7⟩,f0,f1,f2,f3,f4,f5,f6,f7⟩:=hr.box.k8;have hp:p<=bb.size:=hr.ha;have ip0:(0:Int)<=(p:Int):=by omega
 simp only at c5 c7;unfold Cd.wR at HR;have hbl:bb.data.toList.length=bb.size:=by simp
 clear hr;by_cases hlt:p<bb.size
 case neg =>
  have HE:Hid (R=.error (bb.size,160)):=hid (by rw[<-HR.out,if_neg (by rw[hbl];exact hlt),hbl]);have h1:(bb.size:Int)<=(p:Int):=by omega
  have h2:bb.size<=p:=by omega
  obtain rfl:=HE.out;clear HR hbl HE;go_enter Tryz.func178,Tryz.ntmps178;go_wp2_with fail;go_quiet (fail);go_wp2_with fail;refine(jy bb.size 160 _).mono ?_;rintro e w1⟨rfl,rfl⟩;unfold Cd.pan;go_wp2_with fail;exact⟨rfl,rfl,below_drewN HRD.out.bel nq⟩
 have HE:Hid (R=.ok ((bb.data.toList.getD p 0).toNat,p+1)):=hid (by rw[<-HR.out,if_pos (by rw[hbl];exact hlt)]);have h1:¬(bb.size:Int)<=(p:Int):=by omega
 have h2:¬bb.size<=p:=by omega
 have h3:IntKind.i64.wrap ((p:Int)+1)=(p:Int)+1:=by rw[IntKind.wrap_i64];omega
 have h4:(p:Int)+1 - 1=(p:Int):=by omega
 have h5:(p:Int)<(bb.size:Int):=by omega
 have HBY:=hid (Sm.getD_byte bb p hlt);obtain rfl:=HE.out;clear HR hbl HE;go_enter Tryz.func178,Tryz.ntmps178;go_wp2_with fail;go_quiet (fail);go_upto_region 4 with(fail)
 refine aj (λV hV=>?_);have hrV:Cd.Rdr q0 q1 q2 q3 bb w0 V g ⟨p+1,v,z⟩ vv:=by
  have h:=(HRD.out.below (below_drewN (Below.refl _ _) nq)).at_ (p+1) (by omega);rw[hV];exact h
 have hgV:w.grownBy V (some g):=by rw[hV];exact oP (pO (below_drewN (Below.refl _ _) nq) _) (.inl rfl) _
 clear hV c0 c1 c2 c3 c4 c5 c6 c7 f0 f1 f2 f3 f4 f5 f6 f7 HRD;have HRV:=hid hrV;have HGV:=hid hgV;obtain⟨⟨c0,c1,c2,c3,c4,c5,c6,c7⟩,-⟩:=hrV.box.k8;simp only at c5;have h6:(((p+1:Nat):Int))=(p:Int)+1:=by omega
 rw[h6]at c5;clear hrV hgV;go_quiet (fail);go_wp2_with fail;go_ret;refine⟨?_,OU HGV.out _,HRV.out.below (below_drewN (Below.refl _ _) _)⟩;rfl
namespace Cd
open Ev
theorem MK{l:List UInt8}{i:Nat}(h10:i<10)(hi:i<l.length){c:Nat}(hc:(l.getD i 0).toNat=c)(h:¬(i=9/\1<c))(h2:128<=c):nmF l (10 - i) i=nmF l (10 - (i+1)) (i+1):=by
 obtain⟨f,hf⟩:∃ f,10 - i=f+1:=⟨9 - i,by omega⟩;rw[hf,nmF,if_pos hi,hc,if_neg h,if_neg (by omega),show 10 - (i+1)=f by omega]
theorem Ik{l:List UInt8}{i:Nat}(h10:i<10)(hi:i<l.length){c:Nat}(hc:(l.getD i 0).toNat=c)(h:i=9/\1<c):nmF l (10 - i) i=.error true:=by
 obtain⟨f,hf⟩:∃ f,10 - i=f+1:=⟨9 - i,by omega⟩;rw[hf,nmF,if_pos hi,hc,if_pos h]
theorem Fh{l:List UInt8}{i:Nat}(h10:i<10)(hi:i<l.length){c:Nat}(hc:(l.getD i 0).toNat=c)(h:c=0/\0<i):nmF l (10 - i) i=.error true:=by
 obtain⟨f,hf⟩:∃ f,10 - i=f+1:=⟨9 - i,by omega⟩;rw[hf,nmF,if_pos hi,hc,if_neg (by omega),if_pos (by omega),if_pos h]
theorem Ij{l:List UInt8}{i:Nat}(h10:i<10)(hi:i<l.length){c:Nat}(hc:(l.getD i 0).toNat=c)(h:¬(i=9/\1<c))(h1:c<128)(h2:¬(c=0/\0<i)):nmF l (10 - i) i=.ok (acc l (i+1),i+1):=by
 obtain⟨f,hf⟩:∃ f,10 - i=f+1:=⟨9 - i,by omega⟩;rw[hf,nmF,if_pos hi,hc,if_neg h,if_pos h1,if_neg h2]
theorem Ii{l:List UInt8}{i:Nat}(h10:i<10)(hi:¬i<l.length):nmF l (10 - i) i=.error false:=by
 obtain⟨f,hf⟩:∃ f,10 - i=f+1:=⟨9 - i,by omega⟩;rw[hf,nmF,if_neg hi]
theorem Ie{b:List UInt8}{p u j:Nat}(h:nmF (b.drop p) 10 0=.ok (u,j)):num b p=.ok (u,p+j):=by unfold num;rw[h]
theorem pG{b:List UInt8}{p:Nat}(h:nmF (b.drop p) 10 0=.error true):num b p=.error (p,162):=by unfold num;rw[h]
theorem Ig{b:List UInt8}{p:Nat}(h:nmF (b.drop p) 10 0=.error false):num b p=.error (b.length,160):=by unfold num;rw[h]
end Cd
theorem FW(q0 q1 q2 q3:Value)(bb:ByteArray)(w0 w:World)(g:Nat)(x:Cd.S)(vv:Value)(hb:bb.size<=1000000)(hr:Cd.Rdr q0 q1 q2 q3 bb w0 w g x vv) :
  Calls Tryz.prog 124 #[.pointer (some ⟨g,0,none⟩)] w λe w'=>Cd.Pq .i64 q0 q1 q2 q3 bb w0 w g x vv (Cd.bit bb.data.toList x.at_) e w':=by
 obtain⟨R,HR⟩:∃ R,Hid (Cd.bit bb.data.toList x.at_=R):=⟨_,hid rfl⟩;rw[HR.out];have HRD:=hid hr;obtain⟨p,v,z⟩:=x;obtain⟨⟨c0,c1,c2,c3,c4,c5,c6,c7⟩,-⟩:=hr.box.k8;simp only at c5 c7;unfold Cd.bit at HR;clear hr;go_enter Tryz.func124,Tryz.ntmps124;go_wp2_with fail;obtain⟨O,HO⟩:∃ O,Hid (Cd.wR bb.data.toList p=O):=⟨_,hid rfl⟩;refine(FN q0 q1 q2 q3 bb w0 w g ⟨p,v,z⟩ vv hb HRD.out).mono ?_;try simp only
 rw[HO.out];have HO2:=HO.out;unfold Cd.wR at HO2;have HO3:=hid HO2;clear HO2;by_cases hlt:p<bb.data.toList.length
 case neg =>
  have e1:O=.error (bb.data.toList.length,160):=by rw[<-HO3.out,if_neg hlt]
  have e2:R=.error (bb.data.toList.length,160):=by rw[<-HR.out,if_neg hlt]
  subst e1 e2;rintro e w1⟨rfl,hb1⟩;unfold Cd.pan;go_wp2_with fail;exact⟨rfl,rfl,hb1⟩
 have HRR:Hid ((if 1<(bb.data.toList.getD p 0).toNat then(.error (p,162):Cd.Rs (Nat × Nat))else .ok ((bb.data.toList.getD p 0).toNat,p+1))=R):=hid (by rw[<-HR.out,if_pos hlt]);have e1:O=.ok ((bb.data.toList.getD p 0).toNat,p+1):=by rw[<-HO3.out,if_pos hlt]
 subst e1;have hc8:=(bb.data.toList.getD p 0).toNat_lt;generalize(bb.data.toList.getD p 0).toNat=cc at *;clear HR HO3 HO;rintro e w1⟨rfl,hg1,hr1⟩;simp only at hr1 ⊢;have HG1:=hid hg1;have HR1:=hid hr1;clear hg1 hr1 HRD c0 c1 c2 c3 c4 c5 c6 c7;by_cases h1:1<cc
 case pos =>
  have e2:R=.error (p,162):=by rw[<-HRR.out,if_pos h1]
  subst e2;go_wp2_with fail;refine(jy p 162 _).mono ?_;rintro e w2⟨rfl,rfl⟩;unfold Cd.pan;go_wp2_with fail;exact⟨rfl,rfl,HR1.out.bel⟩
 have e2:R=.ok (cc,p+1):=by rw[<-HRR.out,if_neg h1]
 subst e2;go_wp2_with fail;go_ret;exact⟨rfl,HG1.out,HR1.out⟩
theorem qw(q0 q1 q2 q3:Value)(bb:ByteArray)(w0 w:World)(g:Nat)(x:Cd.S)(vv:Value)(hb:bb.size<=1000000)(hr:Cd.Rdr q0 q1 q2 q3 bb w0 w g x vv) :
  Calls Tryz.prog 126 #[.pointer (some ⟨g,0,none⟩)] w λe w'=>Cd.Pq .u64 q0 q1 q2 q3 bb w0 w g x vv (Cd.num bb.data.toList x.at_) e w':=by
 obtain⟨R,HR⟩:∃ R,Hid (Cd.num bb.data.toList x.at_=R):=⟨_,hid rfl⟩;rw[HR.out];have HRD:=hid hr;obtain⟨p,v,z⟩:=x;have hp:p<=bb.size:=hr.ha;obtain⟨⟨c0,c1,c2,c3,c4,c5,c6,c7⟩,-⟩:=hr.box.k8;simp only at c5 c7 HR;clear hr;obtain⟨L,HL⟩:∃ L,Hid (bb.data.toList.drop p=L):=⟨_,hid rfl⟩;have hLl:L.length=bb.size - p:=by rw[<-HL.out,List.length_drop];simp
 have HLL:=hid hLl;clear hLl;go_enter Tryz.func126,Tryz.ntmps126;go_wp2_with fail;go_loopw [4,5] (λu i wr=>∃ k:Nat,k<10/\p+k<=bb.size/\i=.int .i64 k/\u=.int .u64 (Ev.acc L k)/\Hid (Cd.nmF L 10 0=Cd.nmF L (10 - k) k)/\Hid (w.grownBy wr (some g))/\Hid (Cd.Rdr q0 q1 q2 q3 bb w0 wr g ⟨p+k,v,z⟩ vv)) (λ_ i _=>10 - (intOf i).toNat)
 case atStart=>exact⟨0,by omega,by omega,rfl,rfl,hid rfl,hid (nG _ _),HRD⟩
 case round =>
  obtain⟨k,h10,hpk,rfl,rfl,HF,HG,HRW⟩:=hrel;obtain⟨W,rfl⟩:∃ w',w'=wr:=⟨_,rfl⟩;clear c0 c1 c2 c3 c4 c5 c6 c7 HRD;obtain⟨O,HO⟩:∃ O,Hid (Cd.wR bb.data.toList (p+k)=O):=⟨_,hid rfl⟩;go_wp2_with fail;refine(FN q0 q1 q2 q3 bb w0 W g ⟨p+k,v,z⟩ vv hb HRW.out).mono ?_;try simp only
  rw[HO.out];have hbl:bb.data.toList.length=bb.size:=by simp
  have HGD:Hid (bb.data.toList.getD (p+k) 0=L.getD k 0):=hid (by rw[<-HL.out,yG,yG,List.getElem?_drop]);by_cases hlt:k<L.length
  case neg =>
   have hn:¬p+k<bb.data.toList.length:=by have:=HLL.out;omega
   have e1:O=.error (bb.data.toList.length,160):=by rw[<-HO.out];unfold Cd.wR;rw[if_neg hn]
   have e2:R=.error (bb.data.toList.length,160):=by rw[<-HR.out];exact Cd.Ig (by rw[HL.out,HF.out];exact Cd.Ii h10 hlt)
   subst e1 e2;rintro e w1⟨rfl,hb1⟩;unfold Cd.pan;go_wp2_with fail;exact⟨rfl,rfl,hb1⟩
  have hn:p+k<bb.data.toList.length:=by have:=HLL.out;omega
  have hcc:=(L.getD k 0).toNat_lt;obtain⟨c,HC⟩:∃ c,Hid ((L.getD k 0).toNat=c):=⟨_,hid rfl⟩;rw[HC.out]at hcc;have e1:O=.ok (c,p+k+1):=by rw[<-HO.out];unfold Cd.wR;rw[if_pos hn,HGD.out,HC.out]
  subst e1;have hal:=Ev.N7 L k;have HA:=hid (Ev.Sj (k:=k) hal hcc);have HAS:Hid (Ev.acc L (k+1)=Ev.acc L k ||| (c % 128 * 2 ^ (7 * k) % 18446744073709551616)):=hid (by rw[<-HC.out];rfl);have HBAD:=hid (Cd.Ik h10 hlt HC.out);have qZ:=hid (Cd.Fh h10 hlt HC.out);have sO:=hid (Cd.Ij h10 hlt HC.out);have HGO:=hid (Cd.MK h10 hlt HC.out);clear HO HGD hn;rintro e w1⟨rfl,hg1,hr1⟩;simp only at hr1 ⊢;have HG1:=hid (vO HG.out hg1);have HR1:=hid hr1;clear hg1 hr1 HRW;by_cases h9:k=9/\1<c
  case pos =>
   have e2:R=.error (p,162):=by rw[<-HR.out];exact Cd.pG (by rw[HL.out,HF.out];exact HBAD.out h9)
   obtain⟨rfl,hc1⟩:=h9;subst e2;go_wp2_with fail;refine(jy p 162 _).mono ?_;rintro e w2⟨rfl,rfl⟩;unfold Cd.pan;go_wp2_with fail;exact⟨rfl,rfl,HR1.out.bel⟩
  have hc256:c<256:=by simpa using hcc
  have hwk:IntKind.i64.wrap (7 * (k:Int))=7 * (k:Int):=by rw[IntKind.wrap_i64];omega
  have hk0:(0:Int)<=7 * (k:Int):=by omega
  have HW1:Hid (IntKind.i64.wrap ((k:Int)+1)=(k:Int)+1):=hid (by rw[IntKind.wrap_i64];omega);by_cases h128:c<128
  case neg =>
   have h98:¬((k:Int)=9)∨¬(1<(c:Int)):=by omega
   have hk9:k<9:=by omega
   have hi9:¬(k:Int)=9:=by omega
   have hi9':((k:Int)==9)=false:=beq_eq_false_iff_ne.2 hi9;have hi1:¬(c:Int)<128:=by omega
   have HF2:=HGO.out h9 (by omega);have HF3:=hid HF2;clear HF2 HBAD qZ sO HGO HC hcc;go_wp2_with fail;go_roundw
   case rel=>exact⟨k+1,by omega,by have:=HR1.out.ha;simp only at this;omega,by go_num,by rw[HAS.out,<-HA.out],hid (by rw[HF.out,HF3.out]),HG1,HR1⟩
   case measure=>simp[intOf];omega
  have hi1:(c:Int)<128:=by omega
  by_cases hz:c=0/\0<k
  case pos =>
   have e2:R=.error (p,162):=by rw[<-HR.out];exact Cd.pG (by rw[HL.out,HF.out];exact qZ.out hz)
   obtain⟨rfl,hk1⟩:=hz;have hi9:(0:Int)<(k:Int):=by omega
   subst e2;clear HBAD qZ sO HGO HC hcc h9;simp only[xY]at *;go_wp2_with fail;all_goals
    refine(jy p 162 _).mono ?_;rintro e w2⟨rfl,rfl⟩;unfold Cd.pan;go_wp2_with fail;exact⟨rfl,rfl,HR1.out.bel⟩
  have e2:R=.ok (Ev.acc L (k+1),p+(k+1)):=by rw[<-HR.out];exact Cd.Ie (by rw[HL.out,HF.out];exact sO.out h9 h128 hz)
  subst e2;clear HBAD qZ sO HGO HC hcc;by_cases hk9:k=9
  case neg =>
   have hi9:¬(k:Int)=9:=by omega
   go_wp2_with fail;all_goals
    go_ret;refine⟨?_,HG1.out,HR1.out⟩;first
     |(rw[HAS.out,<-HA.out];rfl)
     |(obtain rfl:c=0:=(by assumption);rw[HAS.out,<-HA.out];rfl)
  subst hk9;have e9:((2:Int) ^ (7 * 9))=9223372036854775808:=by decide +kernel
  have h:=HA.out;rw[e9]at h;have HA9:=hid h;have hz9:¬c=0:=by omega
  have hc1:¬1<c:=by omega
  clear h e9 hwk hk0 HW1;go_wp2_with fail;go_ret;refine⟨?_,HG1.out,HR1.out⟩;show Ending.returned (Value.int .u64 (bits .or .u64 (Ev.acc L 9:Nat) (IntKind.u64.wrap (IntKind.u64.wrap (bits .and .u8 (c:Nat) 127) * 9223372036854775808))))=_
  rw[HA9.out,HAS.out]
theorem sV{P:Program}{ops:Array Oper}{o:Oper}{a:Act}{w:World}{K:Act->World->Prop}{Q:Exit->Act->World->Prop}{H:Prop}(hgd:o.guard=none)(s y:Operand)(t:TypeId)
  (ho:o.op=.call { callee:=.builtin .append,args:=#[s,y],argTypes:=#[t,t] })
  (base:Nat) (e:TypeId) (z:Value) (size bytes:Nat) (ht:P.underlying t=some (.slice e)) (hi:(P.info? e).map (λi=>(i.zero,i.size,i.bytes))=some (some z,size,bytes)) (hzs:z.cells.size=size) (hpos:0<size)
  {α:Type} (E:World->List Value->α->Prop) (v:Value) (l:List α) (hs:a.eval s=v) (hown:ah w (some base) e size E v l)
  (cs:List Value) (hcs:cs.length=size) (g:Nat) (hx:a.eval y=.slice (some ⟨g,0,none⟩) 1 1) (hg0:Bk w g e cs.toArray) (h1:∀ u∈cs,u.oneCell'=true)
  (h63:l.length+1<=maxLen) (hbytes:(l.length+1) * bytes<=140737488355328) (hbase:base<=w.heap.size)
  (h:∀ A n c w',(∀ x,(∀ cs x,E w cs x->E w' cs x)->E w' cs x->ah w' (some base) e size E (.slice A n c) (l++[x]))->Below base w w'->Only e w w'->w.grownBy w' v.ownBlock->K (a.put o.dst (.slice A n c)) w') :
  if Region.wanted o (yielded ops a.tmps)=true then Oper.wp P o a w K Q else H:=by
 obtain⟨css,k1,k2,k3,k4⟩:=hown;obtain⟨i,hi0,hz0,hz1,hz2⟩:=info_parts hi;have hown:w.ownsRow base e size v l.length css.flatten:=k3;refine step_append_lies _ hgd s y t ho base e i z size bytes ht hi0 hz0 hz1 hz2 hzs hpos v l.length css.flatten hs hown ⟨g,0,none⟩ 1 1 cs hx (by rw[hcs];omega) (λj u hu=>?_) h1 (by omega) h63 hbytes hbase w.heap.size rfl ?_
 ·have e':((⟨g,0,none⟩:Addr).add j)=⟨g,j,none⟩:=by simp[Addr.add];omega
  rw[e',hg0.cell j];simpa using hu
 intro g' cap w' hown' hg hat _;exact h _ _ _ w' (λx hE hx'=>ah.snoc k1 k2 (λi a b=>hE _ _ (k4 i a b)) hcs hx' hown') ((Below.refl base w).grown hg hbase (λk hk=>(hown.lt k hk).1)) (Only.row hg hown) hg
theorem Cd.yj:(Tryz.prog.info? 92).map (λi=>(i.zero,i.size,i.bytes))=some (some (.agg #[.int .u8 0,.int .i64 0,.string ⟨#[]⟩,.int .i64 0]),4,40):=by kernel_rfl
namespace Cd
open Id Chk Vl Ev
theorem LY{w:World}{b:Nat}{vv:Value}{l:List Vl.Node}(h:Vl.bT w (some b) vv l)(k:Nat)(hk:vv.ownBlock=some k):k<w.heap.size:=by
 obtain⟨css,k1,k2,k3,k4⟩:=h;exact((show w.ownsRow b 92 4 vv l.length css.flatten from k3).lt k hk).2
structure Po(q0 q1 q2 q3:Value)(bb:ByteArray)(w0 w:World)(g:Nat)(x:S)(w':World):Prop where
 only:bn w0.heap.size g w w'
 rdr:∃ vv',Rdr q0 q1 q2 q3 bb w0 w' g x vv'
end Cd
theorem pU(q0 q1 q2 q3:Value)(bb:ByteArray)(w0 w:World)(g rb:Nat)(x:Cd.S)(vv:Value)(nd:Vl.Node)(hr:Cd.Rdr q0 q1 q2 q3 bb w0 w g x vv)(hrb:Bk w rb 116 #[.pointer (some ⟨g,0,none⟩)])(hx:x.v.length<4096) :
  Calls Tryz.prog 123 #[.agg #[.int .u8 nd.kind,.int .i64 nd.int,.string nd.text,.int .i64 nd.kids],.pointer (some ⟨rb,0,none⟩)] w λe w'=>e=.returned (.tuple #[])/\Cd.Po q0 q1 q2 q3 bb w0 w g ⟨x.at_,x.v++[nd],x.sz⟩ w':=by
 have HRD:=hid hr;have HRB:=hid hrb;obtain⟨p,v,z⟩:=x;obtain⟨k0,k1,k2,k3⟩:=nd;simp only at hx ⊢;have HX:=hid hx;have HVO:Hid (∀ k,vv.ownBlock=some k->k<w.heap.size):=hid (Cd.LY hr.row);clear hr hrb hx;go_enter Tryz.func123,Tryz.ntmps123;go_upto_region 1 with(fail)
 refine aj (λV hV=>?_);obtain⟨hb,hq,hVs⟩:=au hV;clear hV;have HR1:=hid (HRD.out.below hb);have HO1:Hid (Cd.bn w0.heap.size g w V):=hid (Cd.bn.below hb);have HB1:=hid (HRB.out.below hb HRB.out.lt);have HQ1:=hid hq;have HVS:=hid hVs;clear hb hq hVs HRD HRB;refine aO (λw'=>Bk w' rb 116 #[.pointer (some ⟨g,0,none⟩)]/\Bk w' g 118 #[q0,q1,q2,q3,.string bb,.int .i64 (p:Nat),vv,.int .i64 (z:Nat)]/\Bk w' w.heap.size 92 #[.int .u8 k0,.int .i64 k1,.string k2,.int .i64 k3]) [10] (by kernel_rfl) ⟨HB1.out.drew,HR1.out.box.drew,HQ1.out.drew⟩ (λhHeld=>?_);(refine Lst.takeN 10 0 (v:=?_) rfl (by kernel_rfl) (λ_ _ _ h=>h) (by assumption) (by rfl) ?_ ?_;rotate_left;· (intro w hSw;obtain⟨e0,e1⟩:=(Bk.k1 hSw.1);go_simp;try with_reducible rfl);try simp only[Act.put,xA,xE,xC])
 (refine Lst.takeN 10 1 (v:=?_) rfl (by kernel_rfl) (λ_ _ _ h=>h) (by assumption) (by rfl) ?_ ?_;rotate_left;· (intro w hSw;obtain⟨e0,e1⟩:=(Bk.k1 hSw.1);go_simp;try with_reducible rfl);try simp only[Act.put,xA,xE,xC])
 (refine aG 2 (v:=?_) rfl (by kernel_rfl) (λ_ _ _ h=>h) (λ_=>by assumption) (by rfl) ?_ ?_;rotate_left;· (intro w;go_simp;try with_reducible rfl);try simp only[Act.put,xA,xE,xC])
 (refine aG 3 (v:=?_) rfl (by kernel_rfl) (λ_ _ _ h=>h) (λ_=>by assumption) (by rfl) ?_ ?_;rotate_left;· (intro w;go_simp;try with_reducible rfl);try simp only[Act.put,xA,xE,xC])
 (refine Lst.takeN 10 4 (v:=?_) rfl (by kernel_rfl) (λ_ _ _ h=>h) (by assumption) (by rfl) ?_ ?_;rotate_left;· (intro w hSw;obtain⟨e0,e1,e2,e3,e4,e5,e6,e7⟩:=(Bk.k8 hSw.2.1).1;go_simp;try with_reducible rfl);try simp only[Act.put,xA,xE,xC])
 (refine Lst.takeN 10 5 (v:=?_) rfl (by kernel_rfl) (λ_ _ _ h=>h) (by assumption) (by rfl) ?_ ?_;rotate_left;· (intro w hSw;obtain⟨e0,e1,e2,e3⟩:=(Bk.k4 hSw.2.2).1;go_simp;try with_reducible rfl);try simp only[Act.put,xA,xE,xC])
 have hr2:=HR1.out.drew;have ho2:Cd.bn w0.heap.size g w V.drew:=HO1.out.trans (Cd.bn.below ((Below.refl _ _).drew));have hs2:w.heap.size<V.drew.heap.size:=hHeld.2.2.lt;generalize V.drew=X at *;clear HR1 HO1 HB1 HQ1 HVS;have HR2:=hid hr2;have HO2:=hid ho2;have HS2:=hid hs2;have HH:=hid hHeld;clear hr2 ho2 hs2 hHeld;(refine aB 6 (by kernel_rfl) rfl (λK hK=>?_))
 go_simp;have hB:Below X.heap.size X (X.alloc (.cells #[.int .u8 k0,.int .i64 k1,.string k2,.int .i64 k3] 92)):=(Below.refl _ _).alloc (xB _) _;have hq:Bk (X.alloc (.cells #[.int .u8 k0,.int .i64 k1,.string k2,.int .i64 k3] 92)) X.heap.size 92 #[.int .u8 k0,.int .i64 k1,.string k2,.int .i64 k3]:=Bk.new X _ _;have HR3:=hid (HR2.out.below hB);have HO3:=hid (HO2.out.trans (Cd.bn.below hB));have HH3:=hid (And.intro (HH.out.1.below hB HH.out.1.lt) (And.intro (HH.out.2.1.below hB HH.out.2.1.lt) (HH.out.2.2.below hB HH.out.2.2.lt)));have HQ:=hid hq;have hX:=hB.size;generalize X.alloc (.cells #[.int .u8 k0,.int .i64 k1,.string k2,.int .i64 k3] 92)=Y at *;clear hB hq;(refine hK.out _ _ (λhnn=>HH3.out) ?_;clear hK K;try simp only[Act.put,xA,xE,xC])
 (refine aB 7 (by kernel_rfl) rfl (λK hK=>?_))
 refine sV rfl _ _ _ rfl w0.heap.size 92 _ 4 40 Tryz.underlying23 Cd.yj rfl (by decide) Vl.x9 vv v rfl HR3.out.row [.int .u8 k0,.int .i64 k1,.string k2,.int .i64 k3] rfl X.heap.size rfl HQ.out (by simp[Value.oneCell']) (by unfold maxLen;have:=HX.out;omega) (by have:=HX.out;omega) HR3.out.bel.size ?_;intro A6 n6 c6 Z hrow hb3 ho3 hg3;have hHeld:=And.intro (ho3.bk HH3.out.1 (by decide)) (And.intro (ho3.bk HH3.out.2.1 (by decide)) (HH3.out.2.2.grown hg3 (λe=>Nat.lt_irrefl _ (HVO.out _ e.symm))));have hR4:=HR3.out.Oe (l:=v++[(⟨k0,k1,k2,k3⟩:Vl.Node)]) (v':=.slice A6 n6 c6) hb3 ho3 (show Vl.bT Z (some w0.heap.size) (.slice A6 n6 c6) (v++[(⟨k0,k1,k2,k3⟩:Vl.Node)])from hrow (⟨k0,k1,k2,k3⟩:Vl.Node) (λ_ _ h=>h) rfl) (by rw[xI];have:=HX.out;simp only[xJ,xO];omega);have hO4:Cd.bn w0.heap.size g w (Z.setCell ⟨g,6,none⟩ (.slice A6 n6 c6)):=(HO3.out.trans (Cd.bn.only hb3 ho3)).trans (Cd.bn.gb (oP (nG _ _) (.inl rfl) _));have HR4:=hid hR4;have HO4:=hid hO4;clear hR4 hO4 hrow hb3 ho3 hg3;(refine hK.out _ _ (λhnn=>hHeld) ?_;clear hK K;try simp only[Act.put,xA,xE,xC])
 (refine aG 8 (v:=?_) rfl (by kernel_rfl) (λ_ _ _ h=>h) (λ_=>by assumption) (by rfl) ?_ ?_;rotate_left;· (intro w;go_simp;try with_reducible rfl);try simp only[Act.put,xA,xE,xC])
 (refine aG 9 (v:=?_) rfl (by kernel_rfl) (λ_ _ _ h=>h) (λ_=>by assumption) (by rfl) ?_ ?_;rotate_left;· (intro w;go_simp;try with_reducible rfl);try simp only[Act.put,xA,xE,xC])
 obtain⟨⟨d0,d1,d2,d3,d4,d5,d6,d7⟩,f0,f1,f2,f3,f4,f5,f6,f7⟩:=(Bk.k8 hHeld.2.1);(refine aB 10 (by kernel_rfl) rfl (λK hK=>?_))
 go_simp;(refine hK.out _ _ (λhnn=>absurd hnn (by decide)) ?_;clear hK K;try simp only[Act.put,xA,xE,xC])
 refine aV (by kernel_rfl) ?_ _;refine NoPanic.normal ?_;go_wp2_with fail;go_end0;exact⟨rfl,HO4.out,_,HR4.out⟩
end
