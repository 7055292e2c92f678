import Derived.Test.YtogijkhenihaaaaGreatDoorGB07
set_option linter.all false
set_option maxRecDepth 100000
set_option maxHeartbeats 0
namespace Go.Proofs.YtogijkhenihaaaaGreatDoor
open Lib (hid)
open Go.BigFrame Go.RowKit
structure Onl(a b:TypeId)(w w':World):Prop where
 os:w'.os=w.os
 tape:w'.tape=w.tape
 output:w'.output=w.output
 size:w.heap.size<=w'.heap.size
 block:∀(g:Nat)(o:Obj),w.heap[g]?=some o->(∀(cs:Array Value)(fr:Nat × Nat),o≠Obj.cells cs a fr)->(∀(cs:Array Value)(fr:Nat × Nat),o≠Obj.cells cs b fr)->w'.heap[g]?=some o
theorem Onl.refl(a b:TypeId)(w:World):Onl a b w w:=⟨rfl,rfl,rfl,xB _,λ_ _ h _ _=>h⟩
theorem Onl.trans{a b:TypeId}{w w' w'':World}(h:Onl a b w w')(k:Onl a b w' w''):Onl a b w w'':=⟨k.os.trans h.os,k.tape.trans h.tape,k.output.trans h.output,xM h.size k.size,λg o hg h1 h2=>k.block g o (h.block g o hg h1 h2) h1 h2⟩
theorem Onl.left{a b:TypeId}{w w':World}(h:Only a w w'):Onl a b w w':=⟨h.os,h.tape,h.output,h.size,λg o hg h1 _=>h.block g o hg h1⟩
theorem Onl.right{a b:TypeId}{w w':World}(h:Only b w w'):Onl a b w w':=⟨h.os,h.tape,h.output,h.size,λg o hg _ h2=>h.block g o hg h2⟩
theorem Onl.below{a b:TypeId}{w w':World}(h:Below w.heap.size w w'):Onl a b w w':=Onl.left (Only.below h)
theorem Onl.bk{a b:TypeId}{w w':World}(h:Onl a b w w'){g:Nat}{t:TypeId}{cs:Array Value}(hg:Bk w g t cs)(h1:t≠a)(h2:t≠b):Bk w' g t cs :=
 h.block g _ hg (λcs' fr' e'=>by injection e' with _ e2;exact h1 e2) (λcs' fr' e'=>by injection e' with _ e2;exact h2 e2)
namespace Prn
open Id
abbrev On(w w':World):Prop:=Onl 9 96 w w'
structure Wr(w:World)(base b:Nat)(L:List ByteArray):Prop where
 lo:base<=b
 hi:base<=w.heap.size
 at_:∃ v,Bk w b 96 #[v]/\fH w (some base) v L
theorem Wr.below{w w':World}{base b:Nat}{L:List ByteArray}(h:Wr w base b L)(hb:Below w.heap.size w w'):Wr w' base b L :=
 let⟨v,h1,h2⟩:=h.at_
 ⟨h.lo,xM h.hi hb.size,v,h1.below hb h1.lt,ah.below h2 hb (λ_ _ h=>h)⟩
structure Put(w0 w:World)(b:Nat)(L M:List ByteArray)(w':World):Prop where
 wr:Wr w' w0.heap.size b (L++M)
 bel:Below w0.heap.size w0 w'
 on:On w w'
end Prn
theorem zD:96≠9:=by decide
theorem GI(l:List ByteArray):(l.map λx=>[Value.string x]).flatten=l.map Value.string:=by
 induction l with
 |nil=>rfl
 |cons a l ih=>simp only[List.map_cons,List.flatten_cons,ih,List.singleton_append]
theorem Et{W W1:World}{l:List ByteArray}(h:W1=W.alloc (.cells (l.map Value.string).toArray 9))(hl:l.length<=9223372036854775807):fH W1 (some W.heap.size) (.slice (some ⟨W.heap.size,0,none⟩) l.length l.length) l:=by
 subst h;refine⟨l.map λx=>[.string x],by simp,λcs hcs=>?_,?_,λi h h'=>?_⟩
 ·obtain⟨x,_,rfl⟩:=List.mem_map.1 hcs
  rfl
 ·show World.ownsRow _ _ _ _ _ _ _
  rw[GI];refine⟨by simp,.inr ⟨W.heap.size,l.length,(l.map Value.string).toArray,rfl,xB _,heap_alloc_new W _,xB _,by simpa[maxLen]using hl,by simp,?_⟩⟩;rw[Nat.mul_one];simp only[List.toList_toArray];rw[yE (by simp)]
 ·show _=_
  simp
theorem CW(b:Nat)(L M:List ByteArray)(v:Value)(w0 w:World)(hb:Below w0.heap.size w0 w)(hw:Prn.Wr w w0.heap.size b L)(hv:fH w (some w0.heap.size) v M)(hl:L.length+M.length<=8000000000000) :
  Calls Tryz.prog 49 #[.pointer (some ⟨b,0,none⟩),v] w λe w'=>e=.returned (.tuple #[])/\Prn.Put w0 w b L M w':=by
 obtain⟨hlo,hhi,v0,hk,hr⟩:=hw;obtain⟨A,m,c,rfl⟩:=ah.is hv;obtain⟨c0,f0⟩:=hk.k1;have HB:=hid hb;have HK:=hid hk;have HR:=hid hr;have HV:=hid hv;clear hb hk hr hv;go_enter Tryz.func49,Tryz.ntmps49;go_wp2_with(at_builtin;go_must(refine wB rfl _ _ _ rfl w0.heap.size 9 _ 1 16 Tryz.underlying94 oI rfl (by decide) o8 v0 L rfl HR.out A m c M rfl HV.out (λcs x h u hu=>by unfold o8 at h;subst h;simp at hu;subst hu;rfl) (λw' _ cs x h=>h) (by simp only[maxLen];omega) (by omega) hhi ?_);intro v2 w2 hrow2 hb2 ho2 hg2;obtain⟨A2,n2,c2,rfl⟩:=ah.is hrow2;have HR2:=hid hrow2;have HB2:=hid (HB.out.trans hb2);have HO2:=hid ho2;have hk2:=ho2.bk HK.out zD;have HK2:=hid hk2;obtain⟨d0,e0⟩:=hk2.k1;clear hrow2 hb2 ho2 hg2 hk2);refine bodyPost_end (results_none rfl _ _ _) rfl ?_;have hon:Only 96 w2 (w2.setCell ⟨b,0,none⟩ (.slice A2 n2 c2)):=Only.set HK2.out 0 _;have hst:Prn.On w (w2.setCell ⟨b,0,none⟩ (.slice A2 n2 c2)):=(Onl.left HO2.out).trans (Onl.right hon);have hrow:fH (w2.setCell ⟨b,0,none⟩ (.slice A2 n2 c2)) (some w0.heap.size) (.slice A2 n2 c2) (L++M):=ah.kp HR2.out (hon.kp w0.heap.size (T:=[9]) (by decide)) (xB _) (by decide) (λ_ _ h=>h);exact⟨rfl,⟨hlo,by have:=HO2.out.size;simp;omega,.slice A2 n2 c2,HK2.out.aA 0 _,hrow⟩,HB2.out.setCell (p:=⟨b,0,none⟩) hlo _,hst⟩
namespace Prn
section
variable {w0 w w1 w2 : World} {b : Nat} {L M N : List ByteArray}
theorem Put.start(hb:Below w0.heap.size w0 w)(hw:Wr w w0.heap.size b L):Put w0 w b L [] w:=⟨by rw[List.append_nil];exact hw,hb,Onl.refl _ _ _⟩
theorem Put.below(h:Put w0 w b L M w1)(hb:Below w1.heap.size w1 w2):Put w0 w b L M w2:=⟨h.wr.below hb,h.bel.trans (hb.mono h.bel.size),h.on.trans (Onl.below hb)⟩
theorem Put.step(h:Put w0 w b L M w1)(k:Put w0 w1 b (L++M) N w2):Put w0 w b L (M++N) w2:=⟨by rw[<-xU];exact k.wr,k.bel,h.on.trans k.on⟩
theorem Put.cast(h:Put w0 w b L M w1)(e:M=N):Put w0 w b L N w1:=e ▸ h
end
theorem jS{α β:Type}(f:α->List β){l:List α}{k:Nat}(h:k<l.length):((l.take k).flatMap f).length+(f l[k]).length<=(l.flatMap f).length:=by
 have e:l.flatMap f=(l.take k).flatMap f++(f l[k]++(l.drop (k+1)).flatMap f):=by
  rw[<-yJ,<-xQ h,<-List.flatMap_append,List.take_append_drop]
 rw[e];simp
theorem lX{α β:Type}(f:α->List β){l:List α}{k:Nat}(h:k<l.length):(l.take (k+1)).flatMap f=(l.take k).flatMap f++f l[k]:=by
 rw[List.take_succ_eq_append_getElem h,List.flatMap_append];simp
theorem Ir(l:List ByteArray):Lib.join (l.map (·.data.toList)) (⟨#[32]⟩:ByteArray).data.toList=jl l:=by
 cases l with
 |nil=>rfl
 |cons a l =>
  rw[List.map_cons,Lib.join_cons];show _++_=_++_
  congr 1
  unfold Lib.joinTail;induction l with
  |nil=>rfl
  |cons b l ih=>rw[List.map_cons,List.map_cons,List.flatten_cons,ih,yJ];rfl
end Prn
theorem fB(b:Nat)(L xs:List ByteArray)(n:Nat)(cs:Array Value)(hn:xs.length=n)(hc:(xs.map Value.string).toArray=cs)(w0 w W:World)(M:List ByteArray)(h:Prn.Put w0 w b L M W)(hl:L.length+M.length+xs.length<=8000000000000) :
  Calls Tryz.prog 49 #[.pointer (some ⟨b,0,none⟩),.slice (some ⟨W.heap.size,0,none⟩) n n] (W.alloc (.cells cs 9)) λe w'=>e=.returned (.tuple #[])/\Prn.Put w0 w b L (M++xs) w':=by
 subst hn hc;have h1:=h.below (w2:=W.alloc (.cells (xs.map Value.string).toArray 9)) ((Below.refl _ _).alloc (xB _) _);have hrow:=Et (W:=W) (l:=xs) rfl (by omega);have hbs:=h.bel.size;refine(CW b (L++M) xs _ w0 _ h1.bel h1.wr (ah.mono hrow (λ_ _ hr=>hr.weak (λb' e'=>⟨_,rfl,by injection e' with e';omega⟩)) (λ_ _ h=>h)) (by rw[xI];omega)).mono ?_;exact λe w' ⟨h2,h3⟩=>⟨h2,h1.step h3⟩
theorem Am(b:Nat)(L:List ByteArray)(base:Nat)(w:World)(hw:Prn.Wr w base b L)(hl:L.length<=8000000000000)(hj:(Prn.jl L).length<=140737488355328) :
  Calls Tryz.prog 53 #[.pointer (some ⟨b,0,none⟩)] w λe w'=>e=.returned (.string (Prn.jn L))/\Below w.heap.size w w':=by
 obtain⟨-,-,v0,hk,hr⟩:=hw;obtain⟨A,c,rfl,hnc,hcm,hA⟩:=ah.slice hr;obtain⟨c0,f0⟩:=hk.k1;have HJ:Hid ((⟨(Lib.join (L.map (·.data.toList)) (⟨#[32]⟩:ByteArray).data.toList).toArray⟩:ByteArray)=Prn.jn L):=hid (by rw[Prn.Ir];rfl);have HR:=hid hr;have HL:=hid hj;have HNC:=hid hnc;have HLL:=hid hl;clear hr hk hj hnc hl;cases L with
 |nil =>
  go_enter Tryz.func53,Tryz.ntmps53;go_wp2_with fail;refine(Tryz.strings_Join_none A c ⟨#[32]⟩ w).mono ?_;rintro e w'⟨rfl,rfl⟩;go_wp2_with fail;go_ret;exact⟨rfl,Below.refl _ _⟩
 |cons x L =>
  obtain⟨g,off,cs,rfl,-,e1,hc⟩:=ah.get HR.out (i:=0) (by simp) (by omega);unfold o8 at e1;subst e1;have hg:g<w.heap.size:=xH w _ (hc 0 _ rfl);have hcells:∀(j:Nat) y,(x::L)[j]?=some y->w.cell? ⟨g,off+j,none⟩=some (.string y):=λj y hj=>by
   obtain⟨hlt,rfl⟩:=List.getElem?_eq_some_iff.1 hj;obtain⟨g',off',cs',e',-,e1,hc'⟩:=ah.get HR.out hlt (by omega);injection e' with e'
   injection e' with e2 e3
   subst e2 e3;unfold o8 at e1;subst e1;have:=hc' 0 _ rfl;simpa using this
  have HC:=hid hcells;clear hc hcells;generalize hn:(x::L).length=n at *;have HN:=hid hn;clear hn;have hcall:=Tryz.strings_Join g off c (x::L) ⟨#[32]⟩ w HC.out hg (by rw[HN.out];have:=HLL.out;omega) (by rw[HN.out];exact HNC.out) (by rw[Prn.Ir];exact HL.out);rw[HN.out,HJ.out]at hcall;have Tt:=hid hcall;clear hcall;go_enter Tryz.func53,Tryz.ntmps53;go_wp2_with fail;refine Tt.out.mono ?_;rintro e w'⟨rfl,hb⟩;go_wp2_with fail;go_ret;exact⟨rfl,hb⟩
theorem ql(b:Nat)(L:List ByteArray)(t:List Id.Srt)(tv:Value)(w0 w:World)(hb:Below w0.heap.size w0 w)(hw:Prn.Wr w w0.heap.size b L)(hs:∀ w',Below w0.heap.size w0 w'->Prn.On w w'->Id.bG w' none tv t)(hl:L.length+t.length<=8000000000000) :
  Calls Tryz.prog 117 #[.pointer (some ⟨b,0,none⟩),tv] w λe w'=>e=.returned (.tuple #[])/\Prn.Put w0 w b L (t.map Prn.bH) w':=by
 have ht:=hs w hb (Onl.refl _ _ _);obtain⟨A,n,c,rfl⟩:=ah.is ht;have HN:Hid (n=t.length):=hid (by obtain⟨_,_,e,_⟩:=ah.slice ht;injection e);have hm:n<=9223372036854775807:=by obtain⟨_,_,e,_,_⟩:=ah.slice ht;injection e;omega
 have HS:=hid hs;have HP0:=hid (Prn.Put.start hb hw);have hln:L.length+n<=8000000000000:=by rw[HN.out];exact hl
 clear hs ht hb hw hl;go_enter Tryz.func117,Tryz.ntmps117;go_wp2_with fail;go_loopw [8] (λi wr=>∃(k:Nat),k<=n/\i=.int .i64 k/\Hid (Prn.Put w0 w b L ((t.take k).map Prn.bH) wr)) (λi _=>n - (intOf i).toNat)
 case atStart=>exact⟨0,by omega,rfl,HP0⟩
 case round =>
  clear HP0;obtain⟨k,hk,rfl,HP⟩:=hrel;obtain⟨V,rfl⟩:∃ w',w'=wr:=⟨_,rfl⟩;have ik0:(0:Int)<=(k:Int):=by omega
  by_cases hlt:k<n
  case neg =>
   have HPx:Hid (Prn.Put w0 w b L (t.map Prn.bH) V):=hid (by have h:=HP.out;rw[yE (by have:=HN.out;omega)]at h;exact h);go_wp2_with fail;exact bodyPost_end (results_none rfl _ _ _) rfl ⟨rfl,HPx.out⟩
  have hka:k<t.length:=by rw[<-HN.out];exact hlt
  obtain⟨g,off,cs,rfl,-,e1,hc⟩:=ah.get (HS.out V HP.out.bel HP.out.on) hka (by omega);obtain⟨⟨xk,xn⟩,Hx⟩:∃ y,Hid (t[k]=y):=⟨_,hid rfl⟩;rw[Hx.out]at e1;unfold Id.gU Id.Srt.cells at e1;subst e1;have a0:=hc 0 _ rfl;have a1:=hc 1 _ rfl;simp only[xK]at a0;have hgl:g<V.heap.size:=xH V _ a0;have qP:¬g=V.heap.size:=by omega
  have ik1:(k:Int)<(n:Int):=by omega
  have HTK:Hid ((t.take (k+1)).map Prn.bH=(t.take k).map Prn.bH++[Prn.bH ⟨xk,xn⟩]):=hid (by rw[List.take_succ_eq_append_getElem hka,List.map_append,Hx.out];rfl);have hml:((t.take k).map Prn.bH).length<=k:=by simp only[List.length_map,List.length_take];omega
  clear hc Hx hka;go_upto_region 3 with(fail)
  refine aj (λV1 hW=>?_);obtain⟨hbx,hqx,-⟩:=au hW;have HP1:=hid (HP.out.below hbx);have Ue:=hid hqx;clear hW hbx hqx HP a0 a1;obtain⟨⟨b0,b1⟩,-⟩:=Ue.out.k2;by_cases h1:xk=1
  case pos =>
   subst h1;go_wp2_with fail;refine(fB b L [Id.kH] 1 #[.string Id.kH] rfl rfl w0 w _ ((t.take k).map Prn.bH) HP1.out (by simp only[xJ,xO];omega)).mono ?_;rintro e V2⟨rfl,hp⟩;have HP2:=hid hp;clear hp;have HP3:Hid (Prn.Put w0 w b L ((t.take (k+1)).map Prn.bH) V2):=hid (HP2.out.cast (by rw[HTK.out];rfl));clear HP2;go_wp2_with fail;go_roundw
   case rel=>exact⟨k+1,by omega,by go_num,HP3⟩
   case measure=>simp[intOf]<;>omega
  have t1:((xk:Int)==1)=false:=by rw[xG];omega
  by_cases h2:xk=2
  case pos =>
   subst h2;go_wp2_with fail;refine(fB b L [Prn.DZ] 1 #[.string Prn.DZ] rfl rfl w0 w _ ((t.take k).map Prn.bH) HP1.out (by simp only[xJ,xO];omega)).mono ?_;rintro e V2⟨rfl,hp⟩;have HP2:=hid hp;clear hp;have HP3:Hid (Prn.Put w0 w b L ((t.take (k+1)).map Prn.bH) V2):=hid (HP2.out.cast (by rw[HTK.out];rfl));clear HP2;go_wp2_with fail;go_roundw
   case rel=>exact⟨k+1,by omega,by go_num,HP3⟩
   case measure=>simp[intOf]<;>omega
  have t2:((xk:Int)==2)=false:=by rw[xG];omega
  by_cases h3:xk=3
  case pos =>
   subst h3;go_wp2_with fail;refine(fB b L [Id.nJ] 1 #[.string Id.nJ] rfl rfl w0 w _ ((t.take k).map Prn.bH) HP1.out (by simp only[xJ,xO];omega)).mono ?_;rintro e V2⟨rfl,hp⟩;have HP2:=hid hp;clear hp;have HP3:Hid (Prn.Put w0 w b L ((t.take (k+1)).map Prn.bH) V2):=hid (HP2.out.cast (by rw[HTK.out];rfl));clear HP2;go_wp2_with fail;go_roundw
   case rel=>exact⟨k+1,by omega,by go_num,HP3⟩
   case measure=>simp[intOf]<;>omega
  have t3:((xk:Int)==3)=false:=by rw[xG];omega
  by_cases h4:xk=4
  case pos =>
   subst h4;go_wp2_with fail;refine(fB b L [Prn.wText] 1 #[.string Prn.wText] rfl rfl w0 w _ ((t.take k).map Prn.bH) HP1.out (by simp only[xJ,xO];omega)).mono ?_;rintro e V2⟨rfl,hp⟩;have HP2:=hid hp;clear hp;have HP3:Hid (Prn.Put w0 w b L ((t.take (k+1)).map Prn.bH) V2):=hid (HP2.out.cast (by rw[HTK.out];rfl));clear HP2;go_wp2_with fail;go_roundw
   case rel=>exact⟨k+1,by omega,by go_num,HP3⟩
   case measure=>simp[intOf]<;>omega
  have t4:((xk:Int)==4)=false:=by rw[xG];omega
  by_cases h5:xk=5
  case pos =>
   subst h5;go_wp2_with fail;refine(fB b L [Id.mY] 1 #[.string Id.mY] rfl rfl w0 w _ ((t.take k).map Prn.bH) HP1.out (by simp only[xJ,xO];omega)).mono ?_;rintro e V2⟨rfl,hp⟩;have HP2:=hid hp;clear hp;have HP3:Hid (Prn.Put w0 w b L ((t.take (k+1)).map Prn.bH) V2):=hid (HP2.out.cast (by rw[HTK.out];rfl));clear HP2;go_wp2_with fail;go_roundw
   case rel=>exact⟨k+1,by omega,by go_num,HP3⟩
   case measure=>simp[intOf]<;>omega
  have t5:((xk:Int)==5)=false:=by rw[xG];omega
  by_cases h6:xk=6
  case pos =>
   subst h6;go_wp2_with fail;refine(fB b L [Id.oZ] 1 #[.string Id.oZ] rfl rfl w0 w _ ((t.take k).map Prn.bH) HP1.out (by simp only[xJ,xO];omega)).mono ?_;rintro e V2⟨rfl,hp⟩;have HP2:=hid hp;clear hp;have HP3:Hid (Prn.Put w0 w b L ((t.take (k+1)).map Prn.bH) V2):=hid (HP2.out.cast (by rw[HTK.out];rfl));clear HP2;go_wp2_with fail;go_roundw
   case rel=>exact⟨k+1,by omega,by go_num,HP3⟩
   case measure=>simp[intOf]<;>omega
  have t6:((xk:Int)==6)=false:=by rw[xG];omega
  have HWX:Hid (Prn.bH ⟨xk,xn⟩=xn):=hid (by unfold Prn.bH;simp only[h1,h2,h3,h4,h5,h6,if_false]);clear h1 h2 h3 h4 h5 h6;go_wp2_with fail;refine(fB b L [xn] 1 #[.string xn] rfl rfl w0 w _ ((t.take k).map Prn.bH) HP1.out (by simp only[xJ,xO];omega)).mono ?_;rintro e V2⟨rfl,hp⟩;have HP2:=hid hp;clear hp;have HP3:Hid (Prn.Put w0 w b L ((t.take (k+1)).map Prn.bH) V2):=hid (HP2.out.cast (by rw[HTK.out,HWX.out]));clear HP2;go_wp2_with fail;go_roundw
  case rel=>exact⟨k+1,by omega,by go_num,HP3⟩
  case measure=>simp[intOf]<;>omega
theorem Ll{w:World}{g k:Nat}(h:Bk w g 44 #[.int .u8 k,.string ⟨#[]⟩]):Id.bG w none (.slice (some ⟨g,0,none⟩) 1 1) [⟨k,⟨#[]⟩⟩]:=by
 refine⟨[[.int .u8 k,.string ⟨#[]⟩]],rfl,λcs hcs=>?_,⟨rfl,_,_,rfl,xB _,by decide,λe=>(by cases e),λ_=>⟨g,0,rfl,λj u hu=>?_⟩⟩,λi h1 h2=>?_⟩
 ·rw[List.mem_singleton.1 hcs];rfl
 ·rw[Nat.zero_add,h.cell j]
  simpa using hu
 ·have:i=0:=by simpa using h1
  subst this;rfl
