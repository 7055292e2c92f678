import Derived.Test.YtogijkhenihaaaaGreatDoorGT06
set_option linter.all false
set_option maxRecDepth 100000
set_option maxHeartbeats 0
namespace Go.Proofs.YtogijkhenihaaaaGreatDoor
open Lib (hid)
section
open Go.BigFrame Go.RowKit
structure Onl(a b:TypeId)(w w':World):Prop where
 os:w'.os=w.os
 tape:w'.tape=w.tape
 output:w'.output=w.output
 size:w.heap.size<=w'.heap.size
 block:∀(g:Nat)(o:Obj),w.heap[g]?=some o->(∀(cs:Array Value)(fr:Nat × Nat),o≠Obj.cells cs a fr)->(∀(cs:Array Value)(fr:Nat × Nat),o≠Obj.cells cs b fr)->w'.heap[g]?=some o
theorem Onl.refl(a b:TypeId)(w:World):Onl a b w w:=⟨rfl,rfl,rfl,xB _,λ_ _ h _ _=>h⟩
theorem Onl.trans{a b:TypeId}{w w' w'':World}(h:Onl a b w w')(k:Onl a b w' w''):Onl a b w w'':=⟨k.os.trans h.os,k.tape.trans h.tape,k.output.trans h.output,xM h.size k.size,λg o hg h1 h2=>k.block g o (h.block g o hg h1 h2) h1 h2⟩
theorem Onl.left{a b:TypeId}{w w':World}(h:Only a w w'):Onl a b w w':=⟨h.os,h.tape,h.output,h.size,λg o hg h1 _=>h.block g o hg h1⟩
theorem Onl.right{a b:TypeId}{w w':World}(h:Only b w w'):Onl a b w w':=⟨h.os,h.tape,h.output,h.size,λg o hg _ h2=>h.block g o hg h2⟩
theorem Onl.below{a b:TypeId}{w w':World}(h:Below w.heap.size w w'):Onl a b w w':=Onl.left (Only.below h)
theorem Onl.bk{a b:TypeId}{w w':World}(h:Onl a b w w'){g:Nat}{t:TypeId}{cs:Array Value}(hg:Bk w g t cs)(h1:t≠a)(h2:t≠b):Bk w' g t cs :=
 h.block g _ hg (λcs' fr' e'=>by injection e' with _ e2;exact h1 e2) (λcs' fr' e'=>by injection e' with _ e2;exact h2 e2)
namespace Prn
open Id
abbrev On(w w':World):Prop:=Onl 9 96 w w'
structure Wr(w:World)(base b:Nat)(L:List ByteArray):Prop where
 lo:base<=b
 hi:base<=w.heap.size
 at_:∃ v,Bk w b 96 #[v]/\Ip w (some base) v L
theorem Wr.below{w w':World}{base b:Nat}{L:List ByteArray}(h:Wr w base b L)(hb:Below w.heap.size w w'):Wr w' base b L :=
 let⟨v,h1,h2⟩:=h.at_
 ⟨h.lo,xM h.hi hb.size,v,h1.below hb h1.lt,ah.below h2 hb (λ_ _ h=>h)⟩
structure Put(w0 w:World)(b:Nat)(L M:List ByteArray)(w':World):Prop where
 wr:Wr w' w0.heap.size b (L++M)
 bel:Below w0.heap.size w0 w'
 on:On w w'
end Prn
theorem D8:96≠9:=by decide
theorem Md(l:List ByteArray):(l.map λx=>[Value.string x]).flatten=l.map Value.string:=by
 induction l with
 |nil=>rfl
 |cons a l ih=>simp only[List.map_cons,List.flatten_cons,ih,List.singleton_append]
theorem I7{W W1:World}{l:List ByteArray}(h:W1=W.alloc (.cells (l.map Value.string).toArray 9))(hl:l.length<=9223372036854775807):Ip W1 (some W.heap.size) (.slice (some ⟨W.heap.size,0,none⟩) l.length l.length) l:=by
 subst h;refine⟨l.map λx=>[.string x],by simp,λcs hcs=>?_,?_,λi h h'=>?_⟩
 ·obtain⟨x,_,rfl⟩:=List.mem_map.1 hcs
  rfl
 ·show World.ownsRow _ _ _ _ _ _ _
  rw[Md];refine⟨by simp,.inr ⟨W.heap.size,l.length,(l.map Value.string).toArray,rfl,xB _,heap_alloc_new W _,xB _,by simpa[maxLen]using hl,by simp,?_⟩⟩;rw[Nat.mul_one];simp only[List.toList_toArray];rw[yE (by simp)]
 ·show _=_
  simp
theorem Gp(b:Nat)(L M:List ByteArray)(v:Value)(w0 w:World)(hb:Below w0.heap.size w0 w)(hw:Prn.Wr w w0.heap.size b L)(hv:Ip w (some w0.heap.size) v M)(hl:L.length+M.length<=8000000000000) :
  Calls Tryz.prog 49 #[.pointer (some ⟨b,0,none⟩),v] w λe w'=>e=.returned (.tuple #[])/\Prn.Put w0 w b L M w':=by
 obtain⟨hlo,hhi,v0,hk,hr⟩:=hw;obtain⟨A,m,c,rfl⟩:=ah.is hv;obtain⟨c0,f0⟩:=hk.k1;have HB:=hid hb;have HK:=hid hk;have HR:=hid hr;have HV:=hid hv;clear hb hk hr hv;go_enter Tryz.func49,Tryz.ntmps49;go_wp2_with(at_builtin;go_must(refine Ah rfl _ _ _ rfl w0.heap.size 9 _ 1 16 Tryz.underlying94 Sv rfl (by decide) KT v0 L rfl HR.out A m c M rfl HV.out (λcs x h u hu=>by unfold KT at h;subst h;simp at hu;subst hu;rfl) (λw' _ cs x h=>h) (by simp only[maxLen];omega) (by omega) hhi ?_);intro v2 w2 hrow2 hb2 ho2 hg2;obtain⟨A2,n2,c2,rfl⟩:=ah.is hrow2;have HR2:=hid hrow2;have HB2:=hid (HB.out.trans hb2);have HO2:=hid ho2;have hk2:=ho2.bk HK.out D8;have HK2:=hid hk2;obtain⟨d0,e0⟩:=hk2.k1;clear hrow2 hb2 ho2 hg2 hk2);refine bodyPost_end (results_none rfl _ _ _) rfl ?_;have hon:Only 96 w2 (w2.setCell ⟨b,0,none⟩ (.slice A2 n2 c2)):=Only.set HK2.out 0 _;have hst:Prn.On w (w2.setCell ⟨b,0,none⟩ (.slice A2 n2 c2)):=(Onl.left HO2.out).trans (Onl.right hon);have hrow:Ip (w2.setCell ⟨b,0,none⟩ (.slice A2 n2 c2)) (some w0.heap.size) (.slice A2 n2 c2) (L++M):=ah.kp HR2.out (hon.kp w0.heap.size (T:=[9]) (by decide)) (xB _) (by decide) (λ_ _ h=>h);exact⟨rfl,⟨hlo,by have:=HO2.out.size;simp;omega,.slice A2 n2 c2,HK2.out.au 0 _,hrow⟩,HB2.out.setCell (p:=⟨b,0,none⟩) hlo _,hst⟩
namespace Prn
section
variable {w0 w w1 w2 : World} {b : Nat} {L M N : List ByteArray}
theorem Put.start(hb:Below w0.heap.size w0 w)(hw:Wr w w0.heap.size b L):Put w0 w b L [] w:=⟨by rw[List.append_nil];exact hw,hb,Onl.refl _ _ _⟩
theorem Put.below(h:Put w0 w b L M w1)(hb:Below w1.heap.size w1 w2):Put w0 w b L M w2:=⟨h.wr.below hb,h.bel.trans (hb.mono h.bel.size),h.on.trans (Onl.below hb)⟩
theorem Put.step(h:Put w0 w b L M w1)(k:Put w0 w1 b (L++M) N w2):Put w0 w b L (M++N) w2:=⟨by rw[<-xU];exact k.wr,k.bel,h.on.trans k.on⟩
theorem Put.cast(h:Put w0 w b L M w1)(e:M=N):Put w0 w b L N w1:=e ▸ h
end
theorem kH{α β:Type}(f:α->List β){l:List α}{k:Nat}(h:k<l.length):((l.take k).flatMap f).length+(f l[k]).length<=(l.flatMap f).length:=by
 have e:l.flatMap f=(l.take k).flatMap f++(f l[k]++(l.drop (k+1)).flatMap f):=by
  rw[<-yJ,<-xQ h,<-List.flatMap_append,List.take_append_drop]
 rw[e];simp
theorem nK{α β:Type}(f:α->List β){l:List α}{k:Nat}(h:k<l.length):(l.take (k+1)).flatMap f=(l.take k).flatMap f++f l[k]:=by
 rw[List.take_succ_eq_append_getElem h,List.flatMap_append];simp
theorem Nw(l:List ByteArray):Lib.join (l.map (·.data.toList)) (⟨#[32]⟩:ByteArray).data.toList=jl l:=by
 cases l with
 |nil=>rfl
 |cons a l =>
  rw[List.map_cons,Lib.join_cons];show _++_=_++_
  congr 1
  unfold Lib.joinTail;induction l with
  |nil=>rfl
  |cons b l ih=>rw[List.map_cons,List.map_cons,List.flatten_cons,ih,yJ];rfl
end Prn
theorem fJ(b:Nat)(L xs:List ByteArray)(n:Nat)(cs:Array Value)(hn:xs.length=n)(hc:(xs.map Value.string).toArray=cs)(w0 w W:World)(M:List ByteArray)(h:Prn.Put w0 w b L M W)(hl:L.length+M.length+xs.length<=8000000000000) :
  Calls Tryz.prog 49 #[.pointer (some ⟨b,0,none⟩),.slice (some ⟨W.heap.size,0,none⟩) n n] (W.alloc (.cells cs 9)) λe w'=>e=.returned (.tuple #[])/\Prn.Put w0 w b L (M++xs) w':=by
 subst hn hc;have h1:=h.below (w2:=W.alloc (.cells (xs.map Value.string).toArray 9)) ((Below.refl _ _).alloc (xB _) _);have hrow:=I7 (W:=W) (l:=xs) rfl (by omega);have hbs:=h.bel.size;refine(Gp b (L++M) xs _ w0 _ h1.bel h1.wr (ah.mono hrow (λ_ _ hr=>hr.weak (λb' e'=>⟨_,rfl,by injection e' with e';omega⟩)) (λ_ _ h=>h)) (by rw[xI];omega)).mono ?_;exact λe w' ⟨h2,h3⟩=>⟨h2,h1.step h3⟩
theorem Eu(b:Nat)(L:List ByteArray)(base:Nat)(w:World)(hw:Prn.Wr w base b L)(hl:L.length<=8000000000000)(hj:(Prn.jl L).length<=140737488355328) :
  Calls Tryz.prog 53 #[.pointer (some ⟨b,0,none⟩)] w λe w'=>e=.returned (.string (Prn.jn L))/\Below w.heap.size w w':=by
 obtain⟨-,-,v0,hk,hr⟩:=hw;obtain⟨A,c,rfl,hnc,hcm,hA⟩:=ah.slice hr;obtain⟨c0,f0⟩:=hk.k1;have HJ:Hid ((⟨(Lib.join (L.map (·.data.toList)) (⟨#[32]⟩:ByteArray).data.toList).toArray⟩:ByteArray)=Prn.jn L):=hid (by rw[Prn.Nw];rfl);have HR:=hid hr;have HL:=hid hj;have HNC:=hid hnc;have HLL:=hid hl;clear hr hk hj hnc hl;cases L with
 |nil =>
  go_enter Tryz.func53,Tryz.ntmps53;go_wp2_with fail;refine(Tryz.strings_Join_none A c ⟨#[32]⟩ w).mono ?_;rintro e w'⟨rfl,rfl⟩;go_wp2_with fail;go_ret;exact⟨rfl,Below.refl _ _⟩
 |cons x L =>
  obtain⟨g,off,cs,rfl,-,e1,hc⟩:=ah.get HR.out (i:=0) (by simp) (by omega);unfold KT at e1;subst e1;have hg:g<w.heap.size:=xH w _ (hc 0 _ rfl);have hcells:∀(j:Nat) y,(x::L)[j]?=some y->w.cell? ⟨g,off+j,none⟩=some (.string y):=λj y hj=>by
   obtain⟨hlt,rfl⟩:=List.getElem?_eq_some_iff.1 hj;obtain⟨g',off',cs',e',-,e1,hc'⟩:=ah.get HR.out hlt (by omega);injection e' with e'
   injection e' with e2 e3
   subst e2 e3;unfold KT at e1;subst e1;have:=hc' 0 _ rfl;simpa using this
  have HC:=hid hcells;clear hc hcells;generalize hn:(x::L).length=n at *;have HN:=hid hn;clear hn;have hcall:=Tryz.strings_Join g off c (x::L) ⟨#[32]⟩ w HC.out hg (by rw[HN.out];have:=HLL.out;omega) (by rw[HN.out];exact HNC.out) (by rw[Prn.Nw];exact HL.out);rw[HN.out,HJ.out]at hcall;have ZA:=hid hcall;clear hcall;go_enter Tryz.func53,Tryz.ntmps53;go_wp2_with fail;refine ZA.out.mono ?_;rintro e w'⟨rfl,hb⟩;go_wp2_with fail;go_ret;exact⟨rfl,hb⟩
theorem rW(b:Nat)(L:List ByteArray)(t:List Id.Srt)(tv:Value)(w0 w:World)(hb:Below w0.heap.size w0 w)(hw:Prn.Wr w w0.heap.size b L)(hs:∀ w',Below w0.heap.size w0 w'->Prn.On w w'->Id.bf w' none tv t)(hl:L.length+t.length<=8000000000000) :
  Calls Tryz.prog 117 #[.pointer (some ⟨b,0,none⟩),tv] w λe w'=>e=.returned (.tuple #[])/\Prn.Put w0 w b L (t.map Prn.bK) w':=by
 have ht:=hs w hb (Onl.refl _ _ _);obtain⟨A,n,c,rfl⟩:=ah.is ht;have HN:Hid (n=t.length):=hid (by obtain⟨_,_,e,_⟩:=ah.slice ht;injection e);have hm:n<=9223372036854775807:=by obtain⟨_,_,e,_,_⟩:=ah.slice ht;injection e;omega
 have HS:=hid hs;have HP0:=hid (Prn.Put.start hb hw);have hln:L.length+n<=8000000000000:=by rw[HN.out];exact hl
 clear hs ht hb hw hl;go_enter Tryz.func117,Tryz.ntmps117;go_wp2_with fail;go_loopw [8] (λi wr=>∃(k:Nat),k<=n/\i=.int .i64 k/\Hid (Prn.Put w0 w b L ((t.take k).map Prn.bK) wr)) (λi _=>n - (intOf i).toNat)
 case atStart=>exact⟨0,by omega,rfl,HP0⟩
 case round =>
  clear HP0;obtain⟨k,hk,rfl,HP⟩:=hrel;obtain⟨V,rfl⟩:∃ w',w'=wr:=⟨_,rfl⟩;have ik0:(0:Int)<=(k:Int):=by omega
  by_cases hlt:k<n
  case neg =>
   have HPx:Hid (Prn.Put w0 w b L (t.map Prn.bK) V):=hid (by have h:=HP.out;rw[yE (by have:=HN.out;omega)]at h;exact h);go_wp2_with fail;exact bodyPost_end (results_none rfl _ _ _) rfl ⟨rfl,HPx.out⟩
  have hka:k<t.length:=by rw[<-HN.out];exact hlt
  obtain⟨g,off,cs,rfl,-,e1,hc⟩:=ah.get (HS.out V HP.out.bel HP.out.on) hka (by omega);obtain⟨⟨xk,xn⟩,Hx⟩:∃ y,Hid (t[k]=y):=⟨_,hid rfl⟩;rw[Hx.out]at e1;unfold Id.dF Id.Srt.cells at e1;subst e1;have a0:=hc 0 _ rfl;have a1:=hc 1 _ rfl;simp only[xK]at a0;have hgl:g<V.heap.size:=xH V _ a0;have wV:¬g=V.heap.size:=by omega
  have ik1:(k:Int)<(n:Int):=by omega
  have HTK:Hid ((t.take (k+1)).map Prn.bK=(t.take k).map Prn.bK++[Prn.bK ⟨xk,xn⟩]):=hid (by rw[List.take_succ_eq_append_getElem hka,List.map_append,Hx.out];rfl);have hml:((t.take k).map Prn.bK).length<=k:=by simp only[List.length_map,List.length_take];omega
  clear hc Hx hka;go_upto_region 3 with(fail)
  refine ak (λV1 hW=>?_);obtain⟨hbx,hqx,-⟩:=ay hW;have HP1:=hid (HP.out.below hbx);have aan:=hid hqx;clear hW hbx hqx HP a0 a1;obtain⟨⟨b0,b1⟩,-⟩:=aan.out.k2;by_cases h1:xk=1
  case pos =>
   subst h1;go_wp2_with fail;refine(fJ b L [Id.dB] 1 #[.string Id.dB] rfl rfl w0 w _ ((t.take k).map Prn.bK) HP1.out (by simp only[xJ,xO];omega)).mono ?_;rintro e V2⟨rfl,hp⟩;have HP2:=hid hp;clear hp;have HP3:Hid (Prn.Put w0 w b L ((t.take (k+1)).map Prn.bK) V2):=hid (HP2.out.cast (by rw[HTK.out];rfl));clear HP2;go_wp2_with fail;go_roundw
   case rel=>exact⟨k+1,by omega,by go_num,HP3⟩
   case measure=>simp[intOf]<;>omega
  have t1:((xk:Int)==1)=false:=by rw[xG];omega
  by_cases h2:xk=2
  case pos =>
   subst h2;go_wp2_with fail;refine(fJ b L [Prn.Ij] 1 #[.string Prn.Ij] rfl rfl w0 w _ ((t.take k).map Prn.bK) HP1.out (by simp only[xJ,xO];omega)).mono ?_;rintro e V2⟨rfl,hp⟩;have HP2:=hid hp;clear hp;have HP3:Hid (Prn.Put w0 w b L ((t.take (k+1)).map Prn.bK) V2):=hid (HP2.out.cast (by rw[HTK.out];rfl));clear HP2;go_wp2_with fail;go_roundw
   case rel=>exact⟨k+1,by omega,by go_num,HP3⟩
   case measure=>simp[intOf]<;>omega
  have t2:((xk:Int)==2)=false:=by rw[xG];omega
  by_cases h3:xk=3
  case pos =>
   subst h3;go_wp2_with fail;refine(fJ b L [Id.eX] 1 #[.string Id.eX] rfl rfl w0 w _ ((t.take k).map Prn.bK) HP1.out (by simp only[xJ,xO];omega)).mono ?_;rintro e V2⟨rfl,hp⟩;have HP2:=hid hp;clear hp;have HP3:Hid (Prn.Put w0 w b L ((t.take (k+1)).map Prn.bK) V2):=hid (HP2.out.cast (by rw[HTK.out];rfl));clear HP2;go_wp2_with fail;go_roundw
   case rel=>exact⟨k+1,by omega,by go_num,HP3⟩
   case measure=>simp[intOf]<;>omega
  have t3:((xk:Int)==3)=false:=by rw[xG];omega
  by_cases h4:xk=4
  case pos =>
   subst h4;go_wp2_with fail;refine(fJ b L [Prn.wText] 1 #[.string Prn.wText] rfl rfl w0 w _ ((t.take k).map Prn.bK) HP1.out (by simp only[xJ,xO];omega)).mono ?_;rintro e V2⟨rfl,hp⟩;have HP2:=hid hp;clear hp;have HP3:Hid (Prn.Put w0 w b L ((t.take (k+1)).map Prn.bK) V2):=hid (HP2.out.cast (by rw[HTK.out];rfl));clear HP2;go_wp2_with fail;go_roundw
   case rel=>exact⟨k+1,by omega,by go_num,HP3⟩
   case measure=>simp[intOf]<;>omega
  have t4:((xk:Int)==4)=false:=by rw[xG];omega
  by_cases h5:xk=5
  case pos =>
   subst h5;go_wp2_with fail;refine(fJ b L [Id.iD] 1 #[.string Id.iD] rfl rfl w0 w _ ((t.take k).map Prn.bK) HP1.out (by simp only[xJ,xO];omega)).mono ?_;rintro e V2⟨rfl,hp⟩;have HP2:=hid hp;clear hp;have HP3:Hid (Prn.Put w0 w b L ((t.take (k+1)).map Prn.bK) V2):=hid (HP2.out.cast (by rw[HTK.out];rfl));clear HP2;go_wp2_with fail;go_roundw
   case rel=>exact⟨k+1,by omega,by go_num,HP3⟩
   case measure=>simp[intOf]<;>omega
  have t5:((xk:Int)==5)=false:=by rw[xG];omega
  by_cases h6:xk=6
  case pos =>
   subst h6;go_wp2_with fail;refine(fJ b L [Id.jM] 1 #[.string Id.jM] rfl rfl w0 w _ ((t.take k).map Prn.bK) HP1.out (by simp only[xJ,xO];omega)).mono ?_;rintro e V2⟨rfl,hp⟩;have HP2:=hid hp;clear hp;have HP3:Hid (Prn.Put w0 w b L ((t.take (k+1)).map Prn.bK) V2):=hid (HP2.out.cast (by rw[HTK.out];rfl));clear HP2;go_wp2_with fail;go_roundw
   case rel=>exact⟨k+1,by omega,by go_num,HP3⟩
   case measure=>simp[intOf]<;>omega
  have t6:((xk:Int)==6)=false:=by rw[xG];omega
  have HWX:Hid (Prn.bK ⟨xk,xn⟩=xn):=hid (by unfold Prn.bK;simp only[h1,h2,h3,h4,h5,h6,if_false]);clear h1 h2 h3 h4 h5 h6;go_wp2_with fail;refine(fJ b L [xn] 1 #[.string xn] rfl rfl w0 w _ ((t.take k).map Prn.bK) HP1.out (by simp only[xJ,xO];omega)).mono ?_;rintro e V2⟨rfl,hp⟩;have HP2:=hid hp;clear hp;have HP3:Hid (Prn.Put w0 w b L ((t.take (k+1)).map Prn.bK) V2):=hid (HP2.out.cast (by rw[HTK.out,HWX.out]));clear HP2;go_wp2_with fail;go_roundw
  case rel=>exact⟨k+1,by omega,by go_num,HP3⟩
  case measure=>simp[intOf]<;>omega
theorem QJ{w:World}{g k:Nat}(h:Bk w g 44 #[.int .u8 k,.string ⟨#[]⟩]):Id.bf w none (.slice (some ⟨g,0,none⟩) 1 1) [⟨k,⟨#[]⟩⟩]:=by
 refine⟨[[.int .u8 k,.string ⟨#[]⟩]],rfl,λcs hcs=>?_,⟨rfl,_,_,rfl,xB _,by decide,λe=>(by cases e),λ_=>⟨g,0,rfl,λj u hu=>?_⟩⟩,λi h1 h2=>?_⟩
 ·rw[List.mem_singleton.1 hcs];rfl
 ·rw[Nat.zero_add,h.cell j]
  simpa using hu
 ·have:i=0:=by simpa using h1
  subst this;rfl
theorem lC(b:Nat)(L xs:List ByteArray)(n:Nat)(cs:Array Value)(hn:xs.length=n)(hc:(xs.map Value.string).toArray=cs)(w0 w W:World)(M:List ByteArray)(h:Prn.Put w0 w b L M W)(hl:L.length+M.length+xs.length<=8000000000000)
  {g:Nat} {T:TypeId} {bx:Array Value} (hq:Bk W g T bx) (h1:T≠9) (h2:T≠96) :
  Calls Tryz.prog 49 #[.pointer (some ⟨b,0,none⟩),.slice (some ⟨W.heap.size,0,none⟩) n n] (W.alloc (.cells cs 9)) λe w'=>e=.returned (.tuple #[])/\Prn.Put w0 w b L (M++xs) w'/\Bk w' g T bx:=by
 subst hn hc;have h1':=h.below (w2:=W.alloc (.cells (xs.map Value.string).toArray 9)) ((Below.refl _ _).alloc (xB _) _);have hrow:=I7 (W:=W) (l:=xs) rfl (by omega);have hbs:=h.bel.size;refine(Gp b (L++M) xs _ w0 _ h1'.bel h1'.wr (ah.mono hrow (λ_ _ hr=>hr.weak (λb' e'=>⟨_,rfl,by injection e' with e';omega⟩)) (λ_ _ h=>h)) (by rw[xI];omega)).mono ?_;exact λe w' ⟨k2,k3⟩=>⟨k2,h1'.step k3,k3.on.bk (hq.alloc _) h1 h2⟩
theorem IZ(b:Nat)(L:List ByteArray)(r:Id.Rec)(u:Value)(w0 w:World)(hb:Below w0.heap.size w0 w)(hw:Prn.Wr w w0.heap.size b L)(hv:Id.iO w0 none u r.fields)(hl:L.length+(Prn.iZ r).length<=8000000000000) :
  Calls Tryz.prog 50 #[.pointer (some ⟨b,0,none⟩),.agg #[.string r.name,.bool r.choice,u]] w λe w'=>e=.returned (.tuple #[])/\Prn.Put w0 w b L (Prn.iZ r) w':=by
 obtain⟨rn,rc,rf⟩:=r;simp only at hv hl ⊢;obtain⟨A5,n5,c5,rfl⟩:=ah.is hv;have HN5:Hid (n5=rf.length):=hid (by obtain⟨_,_,e,_⟩:=ah.slice hv;injection e);have hm5:n5<=9223372036854775807:=by obtain⟨_,_,e,_,_⟩:=ah.slice hv;injection e;omega
 have H5:=hid hv;have HP0:=hid (Prn.Put.start hb hw);have hlen:L.length+(rf.flatMap Prn.iP).length+4<=8000000000000:=by have h:=hl;simp only[Prn.iZ,xJ,xI,xO]at h;omega
 clear hb hw hv hl;obtain⟨wd,HWD⟩:∃ wd,Hid ((if rc then Id.fF else Id.fE)=wd):=⟨_,hid rfl⟩;have HRW:Hid (Prn.iZ ⟨rn,rc,rf⟩=[wd,rn,Id.aN]++(rf.flatMap Prn.iP++[Id.aJ])):=hid (by rw[<-HWD.out];rfl);rw[HRW.out];go_enter Tryz.func50,Tryz.ntmps50;go_upto_region 1 with(fail)
 refine ak (λV0 hW=>?_);obtain⟨hbx,hqx,-⟩:=ay hW;have HPa:=hid (HP0.out.below hbx);have HQ:=hid hqx;clear hW hbx hqx;obtain⟨⟨b0,b1,b2⟩,-⟩:=HQ.out.k3;cases rc
 case false =>
  obtain rfl:Id.fE=wd:=HWD.out;clear HWD HRW;go_wp2_with fail;refine(lC b L [Id.fE,rn,Id.aN] 3 #[.string Id.fE,.string rn,.string Id.aN] rfl rfl w0 w _ _ HPa.out (by simp only[xJ,xO];omega) HQ.out (by decide) (by decide)).mono ?_;rintro e V1⟨rfl,hp,hq⟩;have HPb:=hid hp;clear hp HQ;have HQ:=hid hq;clear hq;clear b0 b1 b2;obtain⟨⟨b0,b1,b2⟩,-⟩:=HQ.out.k3;go_wp2_with fail;go_loopw [18] (λi wr=>∃(k:Nat),k<=n5/\i=.int .i64 k/\Hid (Prn.Put w0 w b L ([Id.fE,rn,Id.aN]++(rf.take k).flatMap Prn.iP) wr)) (λi _=>n5 - (intOf i).toNat)
  case atStart=>exact⟨0,by omega,rfl,HPb⟩
  case round =>
   clear HPb HPa HQ b0 b1 b2;obtain⟨k,hk,rfl,HP⟩:=hrel;obtain⟨V,rfl⟩:∃ w',w'=wr:=⟨_,rfl⟩;have ik0:(0:Int)<=(k:Int):=by omega
   by_cases hlt:k<n5
   case neg =>
    have HPx:Hid (Prn.Put w0 w b L ([Id.fE,rn,Id.aN]++rf.flatMap Prn.iP) V):=hid (by have h:=HP.out;rw[yE (by have:=HN5.out;omega)]at h;exact h);go_wp2_with fail;refine(fJ b L [Id.aJ] 1 #[.string Id.aJ] rfl rfl w0 w _ _ HPx.out (by simp only[xI,xJ,xO];omega)).mono ?_;rintro e V9⟨rfl,hp⟩;have HP9:=hid hp;clear hp;have HPy:Hid (Prn.Put w0 w b L ([Id.fE,rn,Id.aN]++(rf.flatMap Prn.iP++[Id.aJ])) V9):=hid (HP9.out.cast (by simp only[xU]));go_wp2_with fail;exact bodyPost_end (results_none rfl _ _ _) rfl ⟨rfl,HPy.out⟩
   have hka:k<rf.length:=by rw[<-HN5.out];exact hlt
   obtain⟨g,off,cs,rfl,-,⟨u,he,HU⟩,hc⟩:=ah.get H5.out hka (by omega);have hfl:=Prn.kH Prn.iP hka;have HTK:=Prn.nK Prn.iP hka;obtain⟨⟨yn,yt⟩,Hy⟩:∃ y,Hid (rf[k]=y):=⟨_,hid rfl⟩;rw[Hy.out]at he HU hfl HTK;subst he;simp only at HU hc;obtain⟨A7,n7,c7,rfl⟩:=ah.is HU;have H7:=hid HU;have BO:=hid HTK;have hfw:(Prn.iP ⟨yn,yt⟩).length=yt.length+3:=by simp[Prn.iP]
   rw[hfw]at hfl;have a0:=hc 0 _ rfl;have a1:=hc 1 _ rfl;simp only[xK]at a0;have hgl:g<w0.heap.size:=xH w0 _ a0;have a0:=(HP.out.bel.cell hgl).trans a0;have a1:=(HP.out.bel.cell hgl).trans a1;have hbs:=HP.out.bel.size;have wV:¬g=V.heap.size:=by omega
   have ik1:(k:Int)<(n5:Int):=by omega
   generalize hM:((rf.take k).flatMap Prn.iP).length=m at hfl;have HM:=hid hM;generalize hT:yt.length=tl at hfl;have HTL:=hid hT;clear hc HU HTK hfw hM hT Hy hbs;go_upto_region 8 with(fail)
   refine ak (λV1 hW=>?_);obtain⟨hbx,hqx,-⟩:=ay hW;have HPc:=hid (HP.out.below hbx);have HQ:=hid hqx;clear hW hbx hqx a0 a1 HP;obtain⟨⟨b0,b1⟩,-⟩:=HQ.out.k2;go_wp2_with fail;refine(lC b L [yn,Id.gu] 2 #[.string yn,.string Id.gu] rfl rfl w0 w _ _ HPc.out (by simp only[xI,xJ,xO,HM.out];omega) HQ.out (by decide) (by decide)).mono ?_;rintro e V2⟨rfl,hp,hq⟩;have HPd:=hid hp;clear hp HQ;have HQ:=hid hq;clear hq;clear b0 b1;obtain⟨⟨b0,b1⟩,-⟩:=HQ.out.k2;go_wp2_with fail;refine(rW b _ yt _ w0 V2 HPd.out.bel HPd.out.wr (λw' hb _=>ah.below H7.out hb (λ_ _ h=>h)) (by simp only[xI,xJ,xO,HM.out,HTL.out];omega)).mono ?_;rintro e V3⟨rfl,hp⟩;have HPe:=hid (HPd.out.step hp);clear hp b0 b1 HQ;go_wp2_with fail;refine(fJ b L [Id.aK] 1 #[.string Id.aK] rfl rfl w0 w _ _ HPe.out (by simp only[xI,xJ,xO,List.length_map,HM.out,HTL.out];omega)).mono ?_;rintro e V4⟨rfl,hp⟩;have HPf:=hid hp;clear hp;have HPg:Hid (Prn.Put w0 w b L ([Id.fE,rn,Id.aN]++(rf.take (k+1)).flatMap Prn.iP) V4):=hid (HPf.out.cast (by rw[BO.out];simp only[Prn.iP,xU,List.cons_append,yI]));go_wp2_with fail;go_roundw
   case rel=>exact⟨k+1,by omega,by go_num,HPg⟩
   case measure=>simp[intOf]<;>omega
 case true =>
  obtain rfl:Id.fF=wd:=HWD.out;clear HWD HRW;go_wp2_with fail;refine(lC b L [Id.fF,rn,Id.aN] 3 #[.string Id.fF,.string rn,.string Id.aN] rfl rfl w0 w _ _ HPa.out (by simp only[xJ,xO];omega) HQ.out (by decide) (by decide)).mono ?_;rintro e V1⟨rfl,hp,hq⟩;have HPb:=hid hp;clear hp HQ;have HQ:=hid hq;clear hq;clear b0 b1 b2;obtain⟨⟨b0,b1,b2⟩,-⟩:=HQ.out.k3;go_wp2_with fail;go_loopw [18] (λi wr=>∃(k:Nat),k<=n5/\i=.int .i64 k/\Hid (Prn.Put w0 w b L ([Id.fF,rn,Id.aN]++(rf.take k).flatMap Prn.iP) wr)) (λi _=>n5 - (intOf i).toNat)
  case atStart=>exact⟨0,by omega,rfl,HPb⟩
  case round =>
   clear HPb HPa HQ b0 b1 b2;obtain⟨k,hk,rfl,HP⟩:=hrel;obtain⟨V,rfl⟩:∃ w',w'=wr:=⟨_,rfl⟩;have ik0:(0:Int)<=(k:Int):=by omega
   by_cases hlt:k<n5
   case neg =>
    have HPx:Hid (Prn.Put w0 w b L ([Id.fF,rn,Id.aN]++rf.flatMap Prn.iP) V):=hid (by have h:=HP.out;rw[yE (by have:=HN5.out;omega)]at h;exact h);go_wp2_with fail;refine(fJ b L [Id.aJ] 1 #[.string Id.aJ] rfl rfl w0 w _ _ HPx.out (by simp only[xI,xJ,xO];omega)).mono ?_;rintro e V9⟨rfl,hp⟩;have HP9:=hid hp;clear hp;have HPy:Hid (Prn.Put w0 w b L ([Id.fF,rn,Id.aN]++(rf.flatMap Prn.iP++[Id.aJ])) V9):=hid (HP9.out.cast (by simp only[xU]));go_wp2_with fail;exact bodyPost_end (results_none rfl _ _ _) rfl ⟨rfl,HPy.out⟩
   have hka:k<rf.length:=by rw[<-HN5.out];exact hlt
   obtain⟨g,off,cs,rfl,-,⟨u,he,HU⟩,hc⟩:=ah.get H5.out hka (by omega);have hfl:=Prn.kH Prn.iP hka;have HTK:=Prn.nK Prn.iP hka;obtain⟨⟨yn,yt⟩,Hy⟩:∃ y,Hid (rf[k]=y):=⟨_,hid rfl⟩;rw[Hy.out]at he HU hfl HTK;subst he;simp only at HU hc;obtain⟨A7,n7,c7,rfl⟩:=ah.is HU;have H7:=hid HU;have BO:=hid HTK;have hfw:(Prn.iP ⟨yn,yt⟩).length=yt.length+3:=by simp[Prn.iP]
   rw[hfw]at hfl;have a0:=hc 0 _ rfl;have a1:=hc 1 _ rfl;simp only[xK]at a0;have hgl:g<w0.heap.size:=xH w0 _ a0;have a0:=(HP.out.bel.cell hgl).trans a0;have a1:=(HP.out.bel.cell hgl).trans a1;have hbs:=HP.out.bel.size;have wV:¬g=V.heap.size:=by omega
   have ik1:(k:Int)<(n5:Int):=by omega
   generalize hM:((rf.take k).flatMap Prn.iP).length=m at hfl;have HM:=hid hM;generalize hT:yt.length=tl at hfl;have HTL:=hid hT;clear hc HU HTK hfw hM hT Hy hbs;go_upto_region 8 with(fail)
   refine ak (λV1 hW=>?_);obtain⟨hbx,hqx,-⟩:=ay hW;have HPc:=hid (HP.out.below hbx);have HQ:=hid hqx;clear hW hbx hqx a0 a1 HP;obtain⟨⟨b0,b1⟩,-⟩:=HQ.out.k2;go_wp2_with fail;refine(lC b L [yn,Id.gu] 2 #[.string yn,.string Id.gu] rfl rfl w0 w _ _ HPc.out (by simp only[xI,xJ,xO,HM.out];omega) HQ.out (by decide) (by decide)).mono ?_;rintro e V2⟨rfl,hp,hq⟩;have HPd:=hid hp;clear hp HQ;have HQ:=hid hq;clear hq;clear b0 b1;obtain⟨⟨b0,b1⟩,-⟩:=HQ.out.k2;go_wp2_with fail;refine(rW b _ yt _ w0 V2 HPd.out.bel HPd.out.wr (λw' hb _=>ah.below H7.out hb (λ_ _ h=>h)) (by simp only[xI,xJ,xO,HM.out,HTL.out];omega)).mono ?_;rintro e V3⟨rfl,hp⟩;have HPe:=hid (HPd.out.step hp);clear hp b0 b1 HQ;go_wp2_with fail;refine(fJ b L [Id.aK] 1 #[.string Id.aK] rfl rfl w0 w _ _ HPe.out (by simp only[xI,xJ,xO,List.length_map,HM.out,HTL.out];omega)).mono ?_;rintro e V4⟨rfl,hp⟩;have HPf:=hid hp;clear hp;have HPg:Hid (Prn.Put w0 w b L ([Id.fF,rn,Id.aN]++(rf.take (k+1)).flatMap Prn.iP) V4):=hid (HPf.out.cast (by rw[BO.out];simp only[Prn.iP,xU,List.cons_append,yI]));go_wp2_with fail;go_roundw
   case rel=>exact⟨k+1,by omega,by go_num,HPg⟩
   case measure=>simp[intOf]<;>omega
theorem Ic(b:Nat)(L:List ByteArray)(r:Id.Svc)(u:Value)(w0 w:World)(hb:Below w0.heap.size w0 w)(hw:Prn.Wr w w0.heap.size b L)(hv:ah w0 none 180 5 Id.dh u r.methods)(hl:L.length+(Prn.jO r).length<=8000000000000) :
  Calls Tryz.prog 51 #[.pointer (some ⟨b,0,none⟩),.agg #[.string r.name,u]] w λe w'=>e=.returned (.tuple #[])/\Prn.Put w0 w b L (Prn.jO r) w':=by
 obtain⟨rn,rf⟩:=r;simp only at hv hl ⊢;obtain⟨A5,n5,c5,rfl⟩:=ah.is hv;have HN5:Hid (n5=rf.length):=hid (by obtain⟨_,_,e,_⟩:=ah.slice hv;injection e);have hm5:n5<=9223372036854775807:=by obtain⟨_,_,e,_,_⟩:=ah.slice hv;injection e;omega
 have H5:=hid hv;have HP0:=hid (Prn.Put.start hb hw);have hlen:L.length+(rf.flatMap Prn.gZ).length+4<=8000000000000:=by have h:=hl;simp only[Prn.jO,xJ,xI,xO]at h;omega
 clear hb hw hv hl;have HRW:Hid (Prn.jO ⟨rn,rf⟩=[Id.dW,rn,Id.aN]++(rf.flatMap Prn.gZ++[Id.aJ])):=hid rfl;rw[HRW.out];clear HRW;go_enter Tryz.func51,Tryz.ntmps51;go_upto_region 1 with(fail)
 refine ak (λV0 hW=>?_);obtain⟨hbx,hqx,-⟩:=ay hW;have HPa:=hid (HP0.out.below hbx);have HQ:=hid hqx;clear hW hbx hqx;obtain⟨⟨b0,b1⟩,-⟩:=HQ.out.k2;go_wp2_with fail;refine(lC b L [Id.dW,rn,Id.aN] 3 #[.string Id.dW,.string rn,.string Id.aN] rfl rfl w0 w _ _ HPa.out (by simp only[xJ,xO];omega) HQ.out (by decide) (by decide)).mono ?_;rintro e V1⟨rfl,hp,hq⟩;have HPb:=hid hp;clear hp HQ;have HQ:=hid hq;clear hq;clear b0 b1;obtain⟨⟨b0,b1⟩,-⟩:=HQ.out.k2;go_wp2_with fail;go_loopw [14] (λi wr=>∃(k:Nat),k<=n5/\i=.int .i64 k/\Hid (Prn.Put w0 w b L ([Id.dW,rn,Id.aN]++(rf.take k).flatMap Prn.gZ) wr)) (λi _=>n5 - (intOf i).toNat)
 case atStart=>exact⟨0,by omega,rfl,HPb⟩
 case round =>
  clear HPb HPa HQ b0 b1;obtain⟨k,hk,rfl,HP⟩:=hrel;obtain⟨V,rfl⟩:∃ w',w'=wr:=⟨_,rfl⟩;have ik0:(0:Int)<=(k:Int):=by omega
  by_cases hlt:k<n5
  case neg =>
   have HPx:Hid (Prn.Put w0 w b L ([Id.dW,rn,Id.aN]++rf.flatMap Prn.gZ) V):=hid (by have h:=HP.out;rw[yE (by have:=HN5.out;omega)]at h;exact h);go_wp2_with fail;refine(fJ b L [Id.aJ] 1 #[.string Id.aJ] rfl rfl w0 w _ _ HPx.out (by simp only[xI,xJ,xO];omega)).mono ?_;rintro e V9⟨rfl,hp⟩;have HP9:=hid hp;clear hp;have HPy:Hid (Prn.Put w0 w b L ([Id.dW,rn,Id.aN]++(rf.flatMap Prn.gZ++[Id.aJ])) V9):=hid (HP9.out.cast (by simp only[xU]));go_wp2_with fail;exact bodyPost_end (results_none rfl _ _ _) rfl ⟨rfl,HPy.out⟩
  have hka:k<rf.length:=by rw[<-HN5.out];exact hlt
  obtain⟨g,off,cs,rfl,-,he,hc⟩:=ah.get H5.out hka (by omega);have hfl:=Prn.kH Prn.gZ hka;have HTK:=Prn.nK Prn.gZ hka;obtain⟨⟨m0,m1,m2,m3,m4⟩,Hy⟩:∃ y,Hid (rf[k]=y):=⟨_,hid rfl⟩;rw[Hy.out]at he hfl HTK;unfold Id.dh Id.Mth.cells at he;subst he;have BO:=hid HTK;have hfw:(Prn.gZ ⟨m0,m1,m2,m3,m4⟩).length=(Prn.kM ⟨m0,m1,m2,m3,m4⟩).length+8:=by simp[Prn.gZ]
  rw[hfw]at hfl;have a0:=hc 0 _ rfl;have a1:=hc 1 _ rfl;have a2:=hc 2 _ rfl;have a3:=hc 3 _ rfl;have a4:=hc 4 _ rfl;simp only[xK]at a0;have hgl:g<w0.heap.size:=xH w0 _ a0;have a0:=(HP.out.bel.cell hgl).trans a0;have a1:=(HP.out.bel.cell hgl).trans a1;have a2:=(HP.out.bel.cell hgl).trans a2;have a3:=(HP.out.bel.cell hgl).trans a3;have a4:=(HP.out.bel.cell hgl).trans a4;have hbs:=HP.out.bel.size;have wV:¬g=V.heap.size:=by omega
  have ik1:(k:Int)<(n5:Int):=by omega
  generalize hM:((rf.take k).flatMap Prn.gZ).length=m at hfl;have HM:=hid hM;clear hc HTK hfw hM Hy hbs;go_upto_region 5 with(fail)
  refine ak (λV1 hW=>?_);obtain⟨hbx,hqx,-⟩:=ay hW;have HPc:=hid (HP.out.below hbx);have HQ:=hid hqx;clear hW hbx hqx a0 a1 a2 a3 a4 HP;obtain⟨⟨b0,b1,b2,b3,b4⟩,-⟩:=HQ.out.k5;go_wp2_with fail;refine(lC b L [m3,m0,Id.eH,m1,Id.dK,Id.dA] 6 #[.string m3,.string m0,.string Id.eH,.string m1,.string Id.dK,.string Id.dA] rfl rfl w0 w _ _ HPc.out (by simp only[xI,xJ,xO,HM.out];omega) HQ.out (by decide) (by decide)).mono ?_;rintro e V2⟨rfl,hp,hq⟩;have HPd:=hid hp;clear hp HQ;have HQ:=hid hq;clear hq;clear b0 b1 b2 b3 b4;obtain⟨⟨b0,b1,b2,b3,b4⟩,-⟩:=HQ.out.k5;go_wp2_with fail;have VE:=hid (HPd.out.below (w2:=V2.alloc (.cells #[.int .u8 m2,.string ⟨#[]⟩] 44)) ((Below.refl _ _).alloc (xB _) _));refine(rW b _ [⟨m2,⟨#[]⟩⟩] _ w0 _ VE.out.bel VE.out.wr (λw' _ ho=>QJ (ho.bk (Bk.new V2 _ _) (by decide) (by decide))) (by simp only[xI,xJ,xO,HM.out];omega)).mono ?_;rintro e V3⟨rfl,hp⟩;have HPe:=hid (VE.out.step hp);have hq3:=hp.on.bk (HQ.out.alloc _) (by decide) (by decide);clear hp b0 b1 b2 b3 b4 HQ;have HQ:=hid hq3;clear hq3;obtain⟨⟨b0,b1,b2,b3,b4⟩,-⟩:=HQ.out.k5;cases hu:m4.toList.isEmpty
  case true =>
   have HUW:Hid (Prn.kM ⟨m0,m1,m2,m3,m4⟩=[]):=hid (by unfold Prn.kM;rw[if_pos hu]);have hul:(Prn.kM ⟨m0,m1,m2,m3,m4⟩).length=0:=by rw[HUW.out];rfl
   rw[hul]at hfl;clear hul HQ;go_wp2_with fail;refine(fJ b L [Id.aK] 1 #[.string Id.aK] rfl rfl w0 w _ _ HPe.out (by simp only[xI,xJ,xO,List.length_map,HM.out];omega)).mono ?_;rintro e V5⟨rfl,hp⟩;have HPf:=hid hp;clear hp;have HPg:Hid (Prn.Put w0 w b L ([Id.dW,rn,Id.aN]++(rf.take (k+1)).flatMap Prn.gZ) V5):=hid (HPf.out.cast (by rw[BO.out];simp only[Prn.gZ,HUW.out,xU,List.cons_append,yI,List.map_cons,List.map_nil]));go_wp2_with fail;go_roundw
   case rel=>exact⟨k+1,by omega,by go_num,HPg⟩
   case measure=>simp[intOf]<;>omega
  case false =>
   have HUW:Hid (Prn.kM ⟨m0,m1,m2,m3,m4⟩=[Id.bU,m4]):=hid (by unfold Prn.kM;rw[if_neg (by rw[hu];decide)]);have hul:(Prn.kM ⟨m0,m1,m2,m3,m4⟩).length=2:=by rw[HUW.out];rfl
   rw[hul]at hfl;clear hul;go_wp2_with fail;refine(lC b L [Id.bU,m4] 2 #[.string Id.bU,.string m4] rfl rfl w0 w _ _ HPe.out (by simp only[xI,xJ,xO,List.length_map,HM.out];omega) HQ.out (by decide) (by decide)).mono ?_;rintro e V4⟨rfl,hp,hq⟩;have HPq:=hid hp;clear hp HQ;have HQ:=hid hq;clear hq;clear b0 b1 b2 b3 b4 HQ;go_wp2_with fail;refine(fJ b L [Id.aK] 1 #[.string Id.aK] rfl rfl w0 w _ _ HPq.out (by simp only[xI,xJ,xO,List.length_map,HM.out];omega)).mono ?_;rintro e V5⟨rfl,hp⟩;have HPf:=hid hp;clear hp;have HPg:Hid (Prn.Put w0 w b L ([Id.dW,rn,Id.aN]++(rf.take (k+1)).flatMap Prn.gZ) V5):=hid (HPf.out.cast (by rw[BO.out];simp only[Prn.gZ,HUW.out,xU,List.cons_append,yI,List.map_cons,List.map_nil]));go_wp2_with fail;go_roundw
   case rel=>exact⟨k+1,by omega,by go_num,HPg⟩
   case measure=>simp[intOf]<;>omega
theorem O6(b:Nat)(L:List ByteArray)(r:Id.Sag)(u:Value)(w0 w:World)(hb:Below w0.heap.size w0 w)(hw:Prn.Wr w w0.heap.size b L)(hv:ah w0 none 184 3 Id.eu u r.steps)(ha:∀ p∈r.steps,0<=p.at_/\p.at_<100)(hl:L.length+(Prn.kV r).length<=8000000000000) :
  Calls Tryz.prog 52 #[.pointer (some ⟨b,0,none⟩),.agg #[.string r.name,.string r.arg,u]] w λe w'=>e=.returned (.tuple #[])/\Prn.Put w0 w b L (Prn.kV r) w':=by
 have HAT:=hid ha;clear ha;obtain⟨rn,ra,rf⟩:=r;simp only at hv hl HAT ⊢;obtain⟨A5,n5,c5,rfl⟩:=ah.is hv;have HN5:Hid (n5=rf.length):=hid (by obtain⟨_,_,e,_⟩:=ah.slice hv;injection e);have hm5:n5<=9223372036854775807:=by obtain⟨_,_,e,_,_⟩:=ah.slice hv;injection e;omega
 have H5:=hid hv;have HP0:=hid (Prn.Put.start hb hw);have hlen:L.length+(rf.flatMap Prn.mZ).length+7<=8000000000000:=by have h:=hl;simp only[Prn.kV,xJ,xI,xO]at h;omega
 clear hb hw hv hl;have HRW:Hid (Prn.kV ⟨rn,ra,rf⟩=[Id.iR,rn,Id.eH,ra,Id.dK,Id.aN]++(rf.flatMap Prn.mZ++[Id.aJ])):=hid rfl;rw[HRW.out];clear HRW;go_enter Tryz.func52,Tryz.ntmps52;go_upto_region 1 with(fail)
 refine ak (λV0 hW=>?_);obtain⟨hbx,hqx,-⟩:=ay hW;have HPa:=hid (HP0.out.below hbx);have HQ:=hid hqx;clear hW hbx hqx;obtain⟨⟨b0,b1,b2⟩,-⟩:=HQ.out.k3;go_wp2_with fail;refine(lC b L [Id.iR,rn,Id.eH,ra,Id.dK,Id.aN] 6 #[.string Id.iR,.string rn,.string Id.eH,.string ra,.string Id.dK,.string Id.aN] rfl rfl w0 w _ _ HPa.out (by simp only[xJ,xO];omega) HQ.out (by decide) (by decide)).mono ?_;rintro e V1⟨rfl,hp,hq⟩;have HPb:=hid hp;clear hp HQ;have HQ:=hid hq;clear hq;clear b0 b1 b2;obtain⟨⟨b0,b1,b2⟩,-⟩:=HQ.out.k3;go_wp2_with fail;go_loopw [16] (λi wr=>∃(k:Nat),k<=n5/\i=.int .i64 k/\Hid (Prn.Put w0 w b L ([Id.iR,rn,Id.eH,ra,Id.dK,Id.aN]++(rf.take k).flatMap Prn.mZ) wr)) (λi _=>n5 - (intOf i).toNat)
 case atStart=>exact⟨0,by omega,rfl,HPb⟩
 case round =>
  clear HPb HPa HQ b0 b1 b2;obtain⟨k,hk,rfl,HP⟩:=hrel;obtain⟨V,rfl⟩:∃ w',w'=wr:=⟨_,rfl⟩;have ik0:(0:Int)<=(k:Int):=by omega
  by_cases hlt:k<n5
  case neg =>
   have HPx:Hid (Prn.Put w0 w b L ([Id.iR,rn,Id.eH,ra,Id.dK,Id.aN]++rf.flatMap Prn.mZ) V):=hid (by have h:=HP.out;rw[yE (by have:=HN5.out;omega)]at h;exact h);go_wp2_with fail;refine(fJ b L [Id.aJ] 1 #[.string Id.aJ] rfl rfl w0 w _ _ HPx.out (by simp only[xI,xJ,xO];omega)).mono ?_;rintro e V9⟨rfl,hp⟩;have HP9:=hid hp;clear hp;have HPy:Hid (Prn.Put w0 w b L ([Id.iR,rn,Id.eH,ra,Id.dK,Id.aN]++(rf.flatMap Prn.mZ++[Id.aJ])) V9):=hid (HP9.out.cast (by simp only[xU]));go_wp2_with fail;exact bodyPost_end (results_none rfl _ _ _) rfl ⟨rfl,HPy.out⟩
  have hka:k<rf.length:=by rw[<-HN5.out];exact hlt
  obtain⟨g,off,cs,rfl,-,he,hc⟩:=ah.get H5.out hka (by omega);have hfl:=Prn.kH Prn.mZ hka;have HTK:=Prn.nK Prn.mZ hka;have hat:=HAT.out _ (xR hka);obtain⟨⟨p0,p1,p2⟩,Hy⟩:∃ y,Hid (rf[k]=y):=⟨_,hid rfl⟩;rw[Hy.out]at he hfl HTK hat;unfold Id.eu Id.Stp.cells at he;subst he;have BO:=hid HTK;simp only at hat;obtain⟨q,rfl⟩:∃ q:Nat,p2=q:=⟨p2.toNat,by omega⟩;have Z7:q<100:=by omega
  have HNW:Hid ((⟨(Lib.decDigits q).toArray⟩:ByteArray)=Prn.wQ q):=hid (by unfold Prn.wQ;rw[Lib.itoa_nonneg]);have hfw:(Prn.mZ ⟨p0,p1,(q:Int)⟩).length=7:=rfl;rw[hfw]at hfl;have a0:=hc 0 _ rfl;have a1:=hc 1 _ rfl;have a2:=hc 2 _ rfl;simp only[xK]at a0;have hgl:g<w0.heap.size:=xH w0 _ a0;have a0:=(HP.out.bel.cell hgl).trans a0;have a1:=(HP.out.bel.cell hgl).trans a1;have a2:=(HP.out.bel.cell hgl).trans a2;have hbs:=HP.out.bel.size;have wV:¬g=V.heap.size:=by omega
  have ik1:(k:Int)<(n5:Int):=by omega
  generalize hM:((rf.take k).flatMap Prn.mZ).length=m at hfl;have HM:=hid hM;clear hc HTK hfw hM Hy hbs hat;go_upto_region 5 with(fail)
  refine ak (λV1 hW=>?_);obtain⟨hbx,hqx,-⟩:=ay hW;have HPc:=hid (HP.out.below hbx);have HQ:=hid hqx;clear hW hbx hqx a0 a1 a2 HP;have hS:Bk V1.drew V.heap.size 184 _:=HQ.out.drew;refine bJ (λw'=>Bk w' V.heap.size 184 _) [9] (by kernel_rfl) hS (λhHeld=>?_);(refine aj 0 (v:=?_) rfl (by kernel_rfl) (by kernel_rfl) (by kernel_rfl) (by kernel_rfl) (λ_ _ _ h=>h) (λ_=>by assumption) (by rfl) ?_ ?_;rotate_left;· (intro w;go_simp;try with_reducible rfl);try simp only[Act.put,xA,xE,xC])
  (refine aj 1 (v:=?_) rfl (by kernel_rfl) (by kernel_rfl) (by kernel_rfl) (by kernel_rfl) (λ_ _ _ h=>h) (λ_=>by assumption) (by rfl) ?_ ?_;rotate_left;· (intro w;go_simp;try with_reducible rfl);try simp only[Act.put,xA,xE,xC])
  (refine Lst.lH 9 2 (v:=?_) rfl (by kernel_rfl) (by kernel_rfl) (by kernel_rfl) (by kernel_rfl) (by kernel_rfl) (by kernel_rfl) (λ_ _ _ h=>h) (by assumption) (by rfl) ?_ ?_;rotate_left;· (intro w hSw;obtain⟨⟨e0,e1,e2⟩,-⟩:=hSw.k3;go_simp;try with_reducible rfl);try simp only[Act.put,xA,xE,xC])
  (refine aj 3 (v:=?_) rfl (by kernel_rfl) (by kernel_rfl) (by kernel_rfl) (by kernel_rfl) (λ_ _ _ h=>h) (λ_=>by assumption) (by rfl) ?_ ?_;rotate_left;· (intro w;go_simp;try with_reducible rfl);try simp only[Act.put,xA,xE,xC])
  (refine Lst.lH 9 4 (v:=?_) rfl (by kernel_rfl) (by kernel_rfl) (by kernel_rfl) (by kernel_rfl) (by kernel_rfl) (by kernel_rfl) (λ_ _ _ h=>h) (by assumption) (by rfl) ?_ ?_;rotate_left;· (intro w hSw;obtain⟨⟨e0,e1,e2⟩,-⟩:=hSw.k3;go_simp;try with_reducible rfl);try simp only[Act.put,xA,xE,xC])
  (refine aj 5 (v:=?_) rfl (by kernel_rfl) (by kernel_rfl) (by kernel_rfl) (by kernel_rfl) (λ_ _ _ h=>h) (λ_=>by assumption) (by rfl) ?_ ?_;rotate_left;· (intro w;go_simp;try with_reducible rfl);try simp only[Act.put,xA,xE,xC])
  (refine Lst.lH 9 6 (v:=?_) rfl (by kernel_rfl) (by kernel_rfl) (by kernel_rfl) (by kernel_rfl) (by kernel_rfl) (by kernel_rfl) (λ_ _ _ h=>h) (by assumption) (by rfl) ?_ ?_;rotate_left;· (intro w hSw;obtain⟨⟨e0,e1,e2⟩,-⟩:=hSw.k3;go_simp;try with_reducible rfl);try simp only[Act.put,xA,xE,xC])
  (refine aB 7 (by kernel_rfl) rfl (λK hK=>?_))
  go_simp;refine(Tryz.strconv_Itoa_small q Z7 _).mono ?_;rw[HNW.out];rintro e X⟨rfl,rfl⟩;(refine hK.out _ _ (λhnn=>hS) ?_;clear hK K;try simp only[Act.put,xA,xE,xC])
  (refine aB 8 (by kernel_rfl) rfl (λK hK=>?_))
  go_simp;have hbl:Below V1.heap.size V1 (V1.drew.alloc (.cells #[.string Id.wDo,.string p0,.string Id.jU,.string p1,.string Id.wAt,.string (Prn.wQ q),.string Id.aK] 9)):=(Below.refl _ _).drew.alloc (xB _) _;(refine hK.out _ _ (λhnn=>HQ.out.below hbl HQ.out.lt) ?_;clear hK K;try simp only[Act.put,xA,xE,xC])
  (refine aB 9 (by kernel_rfl) rfl (λK hK=>?_))
  go_simp;have aao:=hid (HPc.out.below (w2:=V1.drew) ((Below.refl _ _).drew));refine(fJ b L [Id.wDo,p0,Id.jU,p1,Id.wAt,Prn.wQ q,Id.aK] 7 #[.string Id.wDo,.string p0,.string Id.jU,.string p1,.string Id.wAt,.string (Prn.wQ q),.string Id.aK] rfl rfl w0 w V1.drew _ aao.out (by simp only[xI,xJ,xO,HM.out];omega)).mono ?_;rintro e V2⟨rfl,hp⟩;have HPg:Hid (Prn.Put w0 w b L ([Id.iR,rn,Id.eH,ra,Id.dK,Id.aN]++(rf.take (k+1)).flatMap Prn.mZ) V2):=hid (hp.cast (by rw[BO.out];simp only[Prn.mZ,xU]));clear hp;(refine hK.out _ _ (λhnn=>absurd hnn (by decide)) ?_;clear hK K;try simp only[Act.put,xA,xE,xC])
  refine dU (by kernel_rfl) ?_ _;refine NoPanic.normal ?_;clear hHeld hS;go_wp2_with fail;go_roundw
  case rel=>exact⟨k+1,by omega,by go_num,HPg⟩
  case measure=>simp[intOf]<;>omega
end
namespace Tk
theorem He(s:ByteArray)(k:Nat):byte s k=((from_ s k).getD 0 0).toNat:=by
 unfold byte from_;simp[yG]
theorem extract_eq{s t:ByteArray}{k e k' e':Nat}(h:(from_ s k).take (e - k)=(from_ t k').take (e' - k')):s.extract k e=t.extract k' e':=by
 have h1:=Lib.extract_data s k e;have h2:=Lib.extract_data t k' e';unfold from_ at h;rw[h,<-h2]at h1;have h3:(s.extract k e).data=(t.extract k' e').data:=Array.toList_inj.1 h1;cases hs:s.extract k e
 cases ht:t.extract k' e'
 rw[hs,ht]at h3;simp only at h3;rw[h3]
theorem zx(s:ByteArray)(k e:Nat):num s k e=OO 0 ((from_ s k).take (e - k)):=by
 unfold num from_;rw[List.drop_take]
theorem jX(s:ByteArray)(k:Nat):(from_ s k).length=s.size - k:=by unfold from_;simp
def Tok.move(m:Nat)(t:Tok):Tok:={ t with at_:=m+t.at_ }
theorem scan_ok{d:Nat}{s:ByteArray}{k f:Nat}{acc:List Tok}(h:k<s.size)(he:(aH d s k).2=0):scan d s (f+1) k acc=scan d s f (aP false s (k+(aH d s k).1.text.size)) (acc++[(aH d s k).1]):=by
 rw[scan,if_pos h,if_neg (by simpa using he)]
theorem nR{d:Nat}{s:ByteArray}{k f:Nat}{acc:List Tok}(h:k<s.size)(he:(aH d s k).2≠0):scan d s (f+1) k acc=([],k,(aH d s k).2):=by
 rw[scan,if_pos h,if_pos he]
section shift
variable {c b : ByteArray} {m : Nat} (hc : ∀ k, from_ c (m + k) = from_ b k) (hz : c.size = m + b.size)
include hc
theorem En(k:Nat):byte c (m+k)=byte b k:=by rw[He,He,hc]
theorem FY(p:Nat->Bool)(k:Nat):aX p c (m+k)=m+aX p b k:=by unfold aX;rw[hc];omega
theorem FZ(g:Bool)(k:Nat):aP g c (m+k)=m+aP g b k:=by unfold aP;rw[hc];omega
theorem uh(k e:Nat):c.extract (m+k) (m+e)=b.extract k e:=extract_eq (by rw[hc];congr 1;omega)
theorem QL(k e:Nat):num c (m+k) (m+e)=num b k e:=by rw[zx,zx,hc];congr 2;omega
include hz
theorem sQ(d k:Nat):aH d c (m+k)=((aH d b k).1.move m,(aH d b k).2):=by
 unfold aH;dsimp only;rw[En hc,Nat.add_assoc,En hc,FY hc,FY hc,uh hc,uh hc,uh hc,QL hc];have e1:∀ x,m+x - (m+k)=x - k:=λx=>by omega
 have e2:(m+(k+1)<c.size)=(k+1<b.size):=by rw[hz];simp
 simp only[e1,e2];split
 ·rfl
 ·split
  ·split
   ·rfl
   ·split<;>rfl
  ·split
   ·rfl
   ·split<;>rfl
theorem Em(d:Nat)(pre:List Tok):∀(f k:Nat)(acc:List Tok),scan d c f (m+k) (pre++acc.map (Tok.move m)) =
  if(scan d b f k acc).2.2≠0 then([],m+(scan d b f k acc).2.1,(scan d b f k acc).2.2)else(pre++(scan d b f k acc).1.map (Tok.move m),0,0)
 |0,k,acc=>rfl
 |f+1,k,acc=>by
  by_cases h1:k<b.size
  ·by_cases h2:(aH d b k).2=0
   ·have ih:=Em d pre f (aP false b (k+(aH d b k).1.text.size)) (acc++[(aH d b k).1])
    rw[scan_ok h1 h2,<-ih,scan_ok (by omega) (by rw[sQ hc hz];exact h2),sQ hc hz];rw[show m+k+((aH d b k).1.move m).text.size=m+(k+(aH d b k).1.text.size)from by unfold Tok.move;simp;omega,FZ hc];simp
   ·rw[nR h1 h2,nR (by omega) (by rw[sQ hc hz];exact h2),sQ hc hz]
    simp only;rw[if_pos h2]
  ·rw[iY h1,iY (by omega)]
   simp
end shift
theorem jv{p:Nat->Bool}{x:UInt8}(hp:p x.toNat=false)(r:List UInt8):∀ l:List UInt8,run p (l++x::r)=run p l
 |[]=>by simp[run,hp]
 |c::l=>by
  have ih:=jv hp r l;simp only[List.cons_append,run];rw[ih]
theorem G6(c:UInt8)(r:List UInt8):gap false (c::r)=if kK c.toNat then 1+gap false r else if c.toNat=47/\r.head?.map UInt8.toNat=some 47 then 1+gap true r else 0:=by rw[gap]
theorem yN(r:List UInt8):∀(g:Bool)(l:List UInt8),gap g (l++10::r)=if gap g l=l.length then l.length+1+gap false r else gap g l
 |true,[]=>by
  rw[yI,zI,if_pos (show(10:UInt8).toNat=10 from rfl)];simp[gap]
 |false,[]=>by rw[yI,CY];simp[gap]
 |true,c::l=>by
  have ih1:=yN r false l;have ih2:=yN r true l;have l1:=pV false l;have l2:=pV true l;rw[List.cons_append,zI,zI,ih1,ih2];simp only[xJ];split
  ·by_cases h:gap false l=l.length
   ·rw[if_pos h,if_pos (by omega)];omega
   ·rw[if_neg h,if_neg (by omega)]
  ·by_cases h:gap true l=l.length
   ·rw[if_pos h,if_pos (by omega)];omega
   ·rw[if_neg h,if_neg (by omega)]
 |false,c::l=>by
  have ih1:=yN r false l;have ih2:=yN r true l;have l1:=pV false l;have l2:=pV true l;rw[List.cons_append,G6,G6];have hh:(c.toNat=47/\(l++10::r).head?.map UInt8.toNat=some 47)↔(c.toNat=47/\l.head?.map UInt8.toNat=some 47):=by
   cases l with
   |nil=>simp
   |cons x l=>simp
  rw[ih1,ih2,xJ];by_cases hb:kK c.toNat=true
  ·simp only[hb,if_true]
   by_cases h:gap false l=l.length
   ·rw[if_pos h,if_pos (by omega)];omega
   ·rw[if_neg h,if_neg (by omega)]
  ·simp only[hb,Bool.false_eq_true,if_false,hh]
   by_cases h2:c.toNat=47/\l.head?.map UInt8.toNat=some 47
   ·simp only[h2,and_self,if_true]
    by_cases h:gap true l=l.length
    ·rw[if_pos h,if_pos (by omega)];omega
    ·rw[if_neg h,if_neg (by omega)]
   ·simp only[h2,if_false]
    rw[if_neg (by omega)]
section front
variable {c a : ByteArray} {x : UInt8} {r : List UInt8} (hc : c.data.toList = a.data.toList ++ x :: r)
include hc
theorem uN{k:Nat}(hk:k<=a.size):from_ c k=from_ a k++x::r:=by
 unfold from_;rw[hc,List.drop_append_of_le_length (by simpa using hk)]
theorem zJ:c.size=a.size+1+r.length:=by
 have:=congrArg List.length hc;simp at this;omega
theorem EM{k:Nat}(hk:k<a.size):byte c k=byte a k:=by
 unfold byte;rw[hc,yG,yG,List.getElem?_append_left (by simpa using hk)]
theorem F7:byte c a.size=x.toNat:=by
 unfold byte;rw[hc,yG,List.getElem?_append_right (by simp)];simp
theorem G7{p:Nat->Bool}(hp:p x.toNat=false){k:Nat}(hk:k<=a.size):aX p c k=aX p a k:=by
 unfold aX;rw[uN hc hk,jv hp]
theorem uy{k e:Nat}(he:e<=a.size):c.extract k e=a.extract k e:=by
 by_cases hk:k<=a.size
 ·refine extract_eq ?_
  rw[uN hc hk,List.take_append_of_le_length (by rw[jX];omega)]
 ·refine extract_eq ?_
  rw[show e - k=0 from by omega];simp
theorem SC{k e:Nat}(hk:k<=a.size)(he:e<=a.size):num c k e=num a k e:=by
 rw[zx,zx,uN hc hk,List.take_append_of_le_length (by rw[jX];omega)]
theorem G8(hi:aW x.toNat=false)(hd:isDigit x.toNat=false)(h62:x.toNat≠62)(d:Nat){k:Nat}(hk:k<a.size):aH d c k=aH d a k:=by
 have h1:=jf (p:=aW) (s:=a) (k:=k+1) (by omega);have h2:=jf (p:=isDigit) (s:=a) (k:=k+1) (by omega);have h3:=ku isDigit a (k+1);unfold aH;dsimp only;rw[EM hc hk,G7 hc hi (by omega),G7 hc hd (by omega),uy hc h1,uy hc h2,SC hc (by omega) h2,uy hc (by omega)];have e:(byte a k=45/\k+1<c.size/\byte c (k+1)=62)↔(byte a k=45/\k+1<a.size/\byte a (k+1)=62):=by
  by_cases h:k+1<a.size
  ·rw[EM hc h]
   have:=zJ hc;simp only[h,show k+1<c.size from by omega,true_and]
  ·have e2:k+1=a.size:=by omega
   rw[e2,F7 hc];constructor
   ·rintro⟨_,_,h4⟩;exact absurd h4 h62
   ·rintro⟨_,h4,_⟩;exact absurd h4 (by omega)
 simp only[e]
theorem SE(hx:x=10){k:Nat}(hk:k<=a.size):aP false c k=if aP false a k=a.size then aP false c (a.size+1)else aP false a k:=by
 subst hx;have hl:=pV false (from_ a k);have hs:=jX a k;unfold aP;rw[uN hc hk,yN];have e:from_ c (a.size+1)=r:=by
  unfold from_;rw[hc,List.drop_append,xP (by simp)];simp
 rw[e];by_cases h:gap false (from_ a k)=(from_ a k).length
 ·rw[if_pos h,if_pos (by omega)];omega
 ·rw[if_neg h,if_neg (by omega)]
end front
theorem AY(d:Nat)(s:ByteArray):∀(f k:Nat)(acc:List Tok)(f':Nat),s.size<f+k->s.size<f'+k->scan d s f k acc=scan d s f' k acc
 |0,k,acc,f',h,h'=>by rw[iY (by omega),iY (by omega)]
 |f+1,k,acc,0,h,h'=>by rw[iY (by omega),iY (by omega)]
 |f+1,k,acc,f'+1,h,h'=>by
  by_cases h1:k<s.size
  ·by_cases h2:(aH d s k).2=0
   ·rw[scan_ok h1 h2,scan_ok h1 h2]
    have:=nV h1 h2;have hg:=lF false s (k+(aH d s k).1.text.size);exact AY d s f _ _ f' (by omega) (by omega)
   ·rw[nR h1 h2,nR h1 h2]
  ·rw[iY h1,iY h1]
theorem EL{c a:ByteArray}{r:List UInt8}(hc:c.data.toList=a.data.toList++10::r)(d:Nat):∀(f k:Nat)(acc:List Tok),k<=a.size->a.size<f+k ->
  ∀ F F',c.size<F+k->c.size<F'+k->scan d c F (aP false c k) acc=if(scan d a f (aP false a k) acc).2.2≠0 then scan d a f (aP false a k) acc else scan d c F' (aP false c (a.size+1)) (scan d a f (aP false a k) acc).1
 |f,k,acc,hk,hf,F,F',hF,hF'=>by
  have hle:=qA (s:=a) (k:=k) false hk;have hge:=lF false a k;have hsz:=zJ hc;rw[SE hc rfl hk];by_cases h:aP false a k=a.size
  ·have e:=iY (d:=d) (s:=a) (k:=a.size) (f:=f) (acc:=acc) (by omega)
   rw[if_pos h,h,e,if_neg (by simp)];have:=lF false c (a.size+1);exact AY d c _ _ _ _ (by omega) (by omega)
  ·rw[if_neg h]
   generalize hK:aP false a k=K at *;have hK2:K<a.size:=by omega
   obtain⟨f,rfl⟩:∃ f',f=f'+1:=⟨f - 1,by omega⟩;obtain⟨F,rfl⟩:∃ f',F=f'+1:=⟨F - 1,by omega⟩;have ho:=G8 hc (by decide) (by decide) (by decide) d hK2;by_cases h2:(aH d a K).2=0
   ·have hok:=nV hK2 h2
    rw[scan_ok hK2 h2,scan_ok (show K<c.size by omega) (by rw[ho];exact h2),ho];exact EL hc d f (K+(aH d a K).1.text.size) _ (by omega) (by omega) F F' (by omega) (by omega)
   ·rw[nR hK2 h2,nR (show K<c.size by omega) (by rw[ho];exact h2),ho]
    simp only;rw[if_pos h2]
theorem Ht{c a b:ByteArray}{x:UInt8}(hc:c.data.toList=a.data.toList++x::b.data.toList)(k:Nat):from_ c (a.size+1+k)=from_ b k:=by
 unfold from_;rw[hc,List.drop_append,xP (by simp;omega),yI];rw[show a.size+1+k - a.data.toList.length=k+1 from by simp;omega,List.drop_succ_cons]
theorem all_join{c a b:ByteArray}(hc:c.data.toList=a.data.toList++10::b.data.toList)(hs:c.size<=65536) :
  all c=if(all a).2.2≠0 then all a else if(all b).2.2≠0 then([],a.size+1+(all b).2.1,(all b).2.2)else((all a).1++(all b).1.map (Tok.move (a.size+1)),0,0):=by
 have hsz:=zJ hc;have hbz:b.data.toList.length=b.size:=by simp
 have hA:all a=scan 3 a (a.size+1) (aP false a 0) []:=by unfold all;rw[if_neg (by omega)]
 have hB:all b=scan 3 b (b.size+1) (aP false b 0) []:=by unfold all;rw[if_neg (by omega)]
 have hC:all c=scan 3 c (c.size+1) (aP false c 0) []:=by unfold all;rw[if_neg (by omega)]
 rw[hC,hA,hB,EL hc 3 (a.size+1) 0 [] (by omega) (by omega) (c.size+1) (c.size+1) (by omega) (by omega)];generalize scan 3 a (a.size+1) (aP false a 0) []=ra;by_cases h:ra.2.2=0
 ·rw[if_neg (by simpa using h),if_neg (by simpa using h)]
  have e:=Em (Ht hc) (by omega) 3 ra.1 (b.size+1) (aP false b 0) [];have hg:=FZ (Ht hc) false 0;rw[xK]at hg;rw[hg,<-e];simp only[List.map_nil,List.append_nil];exact AY 3 c _ _ _ _ (by omega) (by omega)
 ·rw[if_pos h,if_pos h]
end Tk
namespace Tk
theorem zi(d:Nat)(s:ByteArray)(k:Nat):(aH d s k).1.at_=k:=by
 unfold aH;dsimp only;split
 ·rfl
 ·split
  ·split
   ·rfl
   ·split<;>rfl
  ·split
   ·rfl
   ·split<;>rfl
theorem Xb:∀ x,x<256->(cZ x||isDigit x||kG x||decide (x=45))=true->kK x=false/\x≠47:=by decide +kernel
theorem RF{d:Nat}{s:ByteArray}{k:Nat}(he:(aH d s k).2=0):(cZ (byte s k)||isDigit (byte s k)||kG (byte s k)||decide (byte s k=45))=true:=by
 unfold aH at he;dsimp only at he;split at he
 ·rename_i h;rw[h];rfl
 ·split at he
  ·rename_i h;rw[h];simp
  ·split at he
   ·rename_i h;rw[h];simp
   ·split at he
    ·rename_i h;simp[h.1]
    ·cases he
theorem Vj{d:Nat}{s:ByteArray}{k:Nat}(hk:k<s.size)(he:(aH d s k).2=0):aP false s k=k:=by
 have h:=RF he;rw[jL hk]at h;obtain⟨h1,h2⟩:=Xb _ s[k].toNat_lt h;exact pW hk h1 (λe=>h2 e.1)
theorem bytes_eq{a b:ByteArray}(h:a.data.toList=b.data.toList):a=b:=by
 have h3:a.data=b.data:=Array.toList_inj.1 h;cases a;cases b
 simp only at h3;rw[h3]
theorem JV(s:ByteArray):s.extract 0 s.size=s:=by
 apply bytes_eq;rw[Lib.extract_data,List.drop_zero,Nat.sub_zero];exact yE (by simp)
def placed:List Tok->Nat->List Tok
 |[],_=>[]
 |t::l,k=>{ t with at_:=k }::placed l (k+t.text.size+1)
def mD(l:List Tok):Prop:=∀ t∈l,0<t.text.size/\aH 3 t.text 0=({ t with at_:=0 },0)
theorem Mc{c:ByteArray}{k:Nat}{t:Tok}{r:List UInt8}(hf:from_ c k=t.text.data.toList++r)(hr:r=[]∨∃ r',r=32::r')(h0:0<t.text.size)(ho:aH 3 t.text 0=({ t with at_:=0 },0))(hz:k<=c.size) :
  aH 3 c k=({ t with at_:=k },0):=by
 obtain⟨b,hb⟩:∃ b:ByteArray,b.data.toList=t.text.data.toList++r:=⟨⟨(t.text.data.toList++r).toArray⟩,by simp⟩;have hcb:∀ j,from_ c (k+j)=from_ b j:=λj=>by
  unfold from_ at hf ⊢;rw[hb,<-hf,List.drop_drop]
 have hsz:c.size=k+b.size:=by
  have:=congrArg List.length (hcb 0);rw[jX,jX]at this;have h2:b.size=b.data.toList.length:=by simp
  omega
 have hs:=sQ hcb hsz 3 0;rw[xK]at hs;have hbt:aH 3 b 0=aH 3 t.text 0:=by
  rcases hr with rfl|⟨r',rfl⟩
  ·rw[List.append_nil]at hb
   rw[bytes_eq hb]
  ·exact G8 hb (by decide) (by decide) (by decide) 3 h0
 rw[hs,hbt,ho];rfl
def qg:List Tok->List UInt8
 |[]=>[]
 |t::l=>t.text.data.toList++l.flatMap λu=>32::u.text.data.toList
def ED:List Tok->List UInt8
 |[]=>[]
 |u::r=>32::qg (u::r)
theorem OZ(t:Tok)(l:List Tok):qg (t::l)=t.text.data.toList++ED l:=by
 cases l with
 |nil=>simp[qg,ED]
 |cons u r=>simp[qg,ED]
theorem Es(c:ByteArray):∀(l:List Tok)(f k:Nat)(acc:List Tok),mD l->k<=c.size->from_ c k=qg l->c.size<f+k ->
  (l≠[]->aP false c k=k)/\scan 3 c f k acc=(acc++placed l k,0,0)
 |[],f,k,acc,_,hk,hf,hF=>by
  have hz:¬k<c.size:=by
   have:=congrArg List.length hf;rw[jX]at this;simp[qg]at this;omega
  exact⟨λh=>absurd rfl h,by rw[iY hz];simp[placed]⟩
 |t::l,f,k,acc,ho,hk,hf,hF=>by
  have ht:=ho t (by simp);have hl:mD l:=λu hu=>ho u (by simp[hu])
  rw[OZ]at hf;have hone:=Mc (r:=ED l) hf (by cases l with|nil=>exact .inl rfl|cons u r=>exact .inr ⟨_,rfl⟩) ht.1 ht.2 hk;have hlt:k<c.size:=by
   have:=congrArg List.length hf;rw[jX,xI]at this;have e:t.text.data.toList.length=t.text.size:=by simp
   omega
  refine⟨λ_=>Vj hlt (by rw[hone]),?_⟩;obtain⟨f,rfl⟩:∃ f',f=f'+1:=⟨f - 1,by omega⟩;rw[scan_ok hlt (by rw[hone]),hone];simp only;have hok:=nV hlt (d:=3) (by rw[hone]);rw[hone]at hok;simp only at hok;have hnext:from_ c (k+t.text.size)=ED l:=by
   have e1:from_ c (k+t.text.size)=(from_ c k).drop t.text.size:=by unfold from_;rw[List.drop_drop]
   have e2:t.text.size=t.text.data.toList.length:=by simp
   rw[e1,hf,e2,List.drop_append_length]
  cases l with
  |nil =>
   have hnext:from_ c (k+t.text.size)=[]:=hnext;have hend:¬k+t.text.size<c.size:=by
    have:=congrArg List.length hnext;rw[jX]at this;simp at this;omega
   rw[lQ false (by omega),iY hend];simp[placed]
  |cons u r =>
   have hnext:from_ c (k+t.text.size)=32::qg (u::r):=hnext;have hlt2:k+t.text.size<c.size:=by
    have:=congrArg List.length hnext;rw[jX]at this;simp at this;omega
   have hb:c[k+t.text.size]=32/\from_ c (k+t.text.size+1)=qg (u::r):=by
    rw[iy hlt2]at hnext;injection hnext with n1 n2
    exact⟨n1,n2⟩
   have ih:=Es c (u::r) f (k+t.text.size+1) (acc++[{ t with at_:=k }]) hl (by omega) hb.2 (by omega);rw[vI hlt2 (by rw[hb.1];decide),ih.1 (by simp),ih.2];simp[placed]
theorem Tm{l:List Tok}{c:ByteArray}(ho:mD l)(hc:c.data.toList=qg l)(hs:c.size<=65536):all c=(placed l 0,0,0):=by
 have hf:from_ c 0=qg l:=by unfold from_;rw[hc,List.drop_zero]
 have h:=Es c l (c.size+1) 0 [] ho (Nat.zero_le _) hf (by omega);unfold all;rw[if_neg (by omega)];cases l with
 |nil =>
  have hz:c.size=0:=by
   have:=congrArg List.length hf;rw[jX]at this;simpa[qg]using this
  rw[lQ false (by omega),h.2,yI]
 |cons t r=>rw[h.1 (by simp),h.2,yI]
end Tk
namespace Id
def z(t:Tk.Tok):Tk.Tok:={ t with at_:=0 }
def zs(s:St):St:=(s.1.map z,s.2)
theorem JE(s:St)(x:ByteArray):is (zs s) x=is s x:=by
 obtain⟨l,b⟩:=s;cases l<;>rfl
theorem BQ(s:St):((zs s).1.tail,(zs s).2)=zs (s.1.tail,s.2):=by
 obtain⟨l,b⟩:=s;cases l<;>rfl
theorem XT(s:St)(x:ByteArray):take (zs s) x=((take s x).1,zs (take s x).2):=by
 unfold take;rw[JE];split
 ·rw[BQ]
 ·rfl
theorem sH(s:St)(x:ByteArray):want (zs s) x=zs (want s x):=by
 unfold want;rw[JE];split
 ·rw[BQ]
 ·rfl
theorem OM(s:St)(k:Nat)(p:Tk.Tok->Bool)(hp:∀ t,p (z t)=p t):(one (zs s) k p).1.text=(one s k p).1.text/\(one (zs s) k p).1.num=(one s k p).1.num/\(one (zs s) k p).2=zs (one s k p).2:=by
 obtain⟨l,b⟩:=s;cases b
 ·cases l with
  |nil=>exact⟨rfl,rfl,rfl⟩
  |cons t r =>
   unfold one zs;simp only[List.map_cons,hp];have hk:(z t).kind=t.kind:=rfl;rw[hk];split
   ·exact⟨rfl,rfl,rfl⟩
   ·exact⟨rfl,rfl,rfl⟩
 ·cases l<;>exact⟨rfl,rfl,rfl⟩
theorem pU(s:St):name (zs s)=((name s).1,zs (name s).2):=by
 obtain⟨h1,_,h3⟩:=OM s 1 (λt=>Tk.isName t.text) (λt=>rfl);unfold name;rw[h1,h3]
theorem MS(ws:List ByteArray)(s:St):words ws (zs s)=((words ws s).1,zs (words ws s).2):=by
 obtain⟨h1,_,h3⟩:=OM s 1 (among ws) (λt=>rfl);unfold words;rw[h1,h3]
theorem Zx(s:St):num (zs s)=((num s).1,zs (num s).2):=by
 obtain⟨_,h2,h3⟩:=OM s 2 (λ_=>true) (λt=>rfl);unfold num;rw[h2,h3]
theorem SL(s:St):ends (zs s)=ends s/\head (zs s)=head s:=by
 obtain⟨l,b⟩:=s;cases l<;>exact⟨rfl,rfl⟩
theorem Dt:∀(f:Nat)(s:St)(acc:List Srt),bG f (zs s) acc=((bG f s acc).1,zs (bG f s acc).2)
 |0,s,acc=>rfl
 |f+1,s,acc=>by
  unfold bG;have hb:(zs s).2=s.2:=rfl;have ht:((zs s).1.tail,s.2)=zs (s.1.tail,s.2):=BQ s;rw[hb,JE,JE,(SL s).1,(SL s).2,ht,pU,Dt f,Dt f];split
  ·rfl
  ·split
   ·rfl
   ·split
    ·rfl
    ·split<;>rfl
theorem Iu(s:St):(zs s).1.length=s.1.length:=by simp[zs]
theorem Nb(s:St):sorts (zs s)=((sorts s).1,zs (sorts s).2):=by
 unfold sorts;rw[Iu,Dt]
theorem Xt(s:St):field (zs s)=((field s).1,zs (field s).2):=by
 simp only[field,pU,sH,Nb]
theorem Wi(s:St):arg (zs s)=((arg s).1,zs (arg s).2):=by
 simp only[arg,pU,sH]
theorem XV(s:St):step (zs s)=((step s).1,zs (step s).2):=by
 simp only[step,pU,sH,Zx]
theorem UA(s:St):method (zs s)=((method s).1,zs (method s).2):=by
 simp only[method,pU,sH,MS,Wi,XT];split
 ·simp only[pU,sH]
 ·simp only[sH]
theorem FQ{α:Type}{read:St->α × St}(hr:∀ s,read (zs s)=((read s).1,zs (read s).2)):∀(f:Nat)(s:St)(acc:List α),aU read f (zs s) acc=((aU read f s acc).1,zs (aU read f s acc).2)
 |0,s,acc=>rfl
 |f+1,s,acc=>by
  unfold aU;have hb:(zs s).2=s.2:=rfl;have hb2:(zs (read s).2).2=(read s).2.2:=rfl;have ht:((zs s).1.tail,s.2)=zs (s.1.tail,s.2):=BQ s;rw[hb,JE,ht,hr,FQ hr f];simp only[hb2];split
  ·rfl
  ·split<;>rfl
theorem Dk{α:Type}{read:St->α × St}(hr:∀ s,read (zs s)=((read s).1,zs (read s).2))(s:St):within read (zs s)=((within read s).1,zs (within read s).2):=by
 unfold within;rw[sH,Iu,FQ hr]
theorem Ug(c:Bool)(s:St):record c (zs s)=((record c s).1,zs (record c s).2):=by
 simp only[record,pU,Dk Xt]
theorem QM(s:St):service (zs s)=((service s).1,zs (service s).2):=by
 simp only[service,pU,Dk UA]
theorem Ya(s:St):saga (zs s)=((saga s).1,zs (saga s).2):=by
 simp only[saga,pU,Wi,Dk XV]
def round(s:St):(Sch->Sch) × St :=
 let y:=(words decls s).1
 let s4:=(words decls s).2
 if y.toList=[114,101,99,111,114,100]then(λx=>{ x with records:=x.records++[(record false s4).1] },(record false s4).2)else
 if y.toList=[99,104,111,105,99,101]then(λx=>{ x with records:=x.records++[(record true s4).1] },(record true s4).2)else
 if y.toList=[115,101,114,118,105,99,101]then(λx=>{ x with services:=x.services++[(service s4).1] },(service s4).2)else
 if y.toList=[115,97,103,97]then(λx=>{ x with sagas:=x.sagas++[(saga s4).1] },(saga s4).2)else
 (λx=>x,s4)
theorem je(f:Nat)(s:St)(x:Sch):aF (f+1) s x=if s.2=true∨s.1=[]then(x,s)else aF f (round s).2 ((round s).1 x):=by
 rw[aF];split
 ·rfl
 ·unfold round
  dsimp only;split
  ·rfl
  ·split
   ·rfl
   ·split
    ·rfl
    ·split<;>rfl
theorem WR(s:St):round (zs s)=((round s).1,zs (round s).2):=by
 unfold round;dsimp only;simp only[MS,Ug,QM,Ya];split
 ·rfl
 ·split
  ·rfl
  ·split
   ·rfl
   ·split<;>rfl
theorem wC:∀(f:Nat)(s:St)(x:Sch),aF f (zs s) x=((aF f s x).1,zs (aF f s x).2)
 |0,s,x=>rfl
 |f+1,s,x=>by
  rw[je,je,WR];have hb:(zs s).2=s.2:=rfl;have hn:(zs s).1=[]↔s.1=[]:=by simp[zs]
  rw[hb];simp only[hn];rw[wC f];split<;>rfl
theorem TT(s:St):schema (zs s)=((schema s).1,zs (schema s).2):=by
 simp only[schema,sH,pU,Iu,wC]
structure RdW{α:Type}(f:St->α × St):Prop where
 loc:∀ r m,(f (r,false)).2=([],true)∨f (r++m,false)=((f (r,false)).1,((f (r,false)).2.1++m,(f (r,false)).2.2))
 bad:∃ c,∀ r,f (r,true)=(c,(r,true))
structure Rd{α:Type}(f:St->α × St):Prop extends RdW f where
 nil:(f ([],false)).2=([],true)
def bnd{α β:Type}(f:St->α × St)(g:α->St->β × St):St->β × St:=λs=>g (f s).1 (f s).2
def ret{α:Type}(c:α):St->α × St:=λs=>(c,s)
def wnt(x:ByteArray):St->Unit × St:=λs=>((),want s x)
theorem RdW.bind{α β:Type}{f:St->α × St}{g:α->St->β × St}(hf:RdW f)(hg:∀ x,RdW (g x)):RdW (bnd f g):=by
 refine⟨λr m=>?_,?_⟩
 ·have key:∀(x:α)(q:List Tk.Tok)(b:Bool),(g x (q,b)).2=([],true)∨g x (q++m,b)=((g x (q,b)).1,((g x (q,b)).2.1++m,(g x (q,b)).2.2)):=λx q b=>by
   cases b
   ·exact(hg x).loc q m
   ·obtain⟨c,hc⟩:=(hg x).bad
    right
    rw[hc,hc]
  rcases hf.loc r m with h|h
  ·left
   obtain⟨c,hc⟩:=(hg (f (r,false)).1).bad;show(g (f (r,false)).1 (f (r,false)).2).2=_
   rw[h,hc]
  ·have e:(f (r,false)).2=((f (r,false)).2.1,(f (r,false)).2.2):=rfl
   rcases key (f (r,false)).1 (f (r,false)).2.1 (f (r,false)).2.2 with k|k
   ·left
    exact k
   ·right
    show g (f (r++m,false)).1 (f (r++m,false)).2=_
    rw[h];exact k
 ·obtain⟨c,hc⟩:=hf.bad
  obtain⟨d,hd⟩:=(hg c).bad;exact⟨d,λr=>by show g (f (r,true)).1 (f (r,true)).2=_;rw[hc,hd]⟩
theorem Rd.bind{α β:Type}{f:St->α × St}{g:α->St->β × St}(hf:Rd f)(hg:∀ x,RdW (g x)):Rd (bnd f g) :=
 ⟨hf.toRdW.bind hg,by
  obtain⟨c,hc⟩:=(hg (f ([],false)).1).bad;show(g (f ([],false)).1 (f ([],false)).2).2=_
  rw[hf.nil,hc]⟩
theorem RdW.ret{α:Type}(c:α):RdW (ret c):=⟨λr m=>.inr rfl,⟨c,λr=>rfl⟩⟩
theorem IY(k:Nat)(p:Tk.Tok->Bool):Rd (λs=>one s k p):=by
 refine⟨⟨λr m=>?_,⟨⟨0,⟨#[]⟩,0,0⟩,λr=>by cases r<;>rfl⟩⟩,rfl⟩;cases r with
 |nil=>exact .inl rfl
 |cons t r =>
  right
  simp only[List.cons_append];unfold one;dsimp only;split<;>rfl
theorem jd(x:ByteArray):Rd (wnt x):=by
 refine⟨⟨λr m=>?_,⟨(),λr=>rfl⟩⟩,rfl⟩;cases r with
 |nil=>exact .inl rfl
 |cons t r =>
  right
  have h:is (t::r++m,false) x=is (t::r,false) x:=rfl;unfold wnt want;dsimp only;rw[h];split<;>rfl
theorem kJ:Rd name:=show Rd (bnd (λs=>one s 1 (λt=>Tk.isName t.text)) λt=>ret t.text)from(IY 1 (λt=>Tk.isName t.text)).bind λt=>RdW.ret t.text
theorem Dx(ws:List ByteArray):Rd (words ws):=show Rd (bnd (λs=>one s 1 (among ws)) λt=>ret t.text)from(IY 1 (among ws)).bind λt=>RdW.ret t.text
theorem Yn:Rd num:=show Rd (bnd (λs=>one s 2 (λ_=>true)) λt=>ret t.num)from(IY 2 (λ_=>true)).bind λt=>RdW.ret t.num
theorem rU:∀(f f':Nat)(r m:List Tk.Tok)(acc:List Srt),r.length<f->r.length+m.length<f' ->
  (bG f (r,false) acc).2=([],true)∨bG f' (r++m,false) acc=((bG f (r,false) acc).1,((bG f (r,false) acc).2.1++m,(bG f (r,false) acc).2.2))
 |0,f',r,m,acc,h,_=>by omega
 |f+1,0,r,m,acc,_,h=>by omega
 |f+1,f'+1,[],m,acc,h,h'=>by
  left
  unfold bG;have h1:is ([],false) iD=false:=rfl;have h2:is ([],false) jM=false:=rfl;have h3:ends ([],false)=false:=rfl;simp only[h1,h2,h3];rfl
 |f+1,f'+1,t::r,m,acc,h,h'=>by
  simp only[xJ]at h h';have h1:is (t::r++m,false) iD=is (t::r,false) iD:=rfl;have h2:is (t::r++m,false) jM=is (t::r,false) jM:=rfl;have h3:ends (t::r++m,false)=ends (t::r,false):=rfl;have h4:head (t::r++m,false)=head (t::r,false):=rfl;have h5:((t::r++m,false):St).1.tail=r++m:=rfl;have h6:((t::r,false):St).1.tail=r:=rfl;unfold bG;rw[h1,h2,h3,h4,h5,h6];simp only[Bool.false_eq_true,if_false];by_cases e1:is (t::r,false) iD=true
  ·simp only[if_pos e1]
   exact rU f f' r m _ (by omega) (by omega)
  ·simp only[if_neg e1]
   by_cases e2:is (t::r,false) jM=true
   ·simp only[if_pos e2]
    exact rU f f' r m _ (by omega) (by omega)
   ·simp only[if_neg e2]
    by_cases e3:ends (t::r,false)=true
    ·simp only[if_pos e3]
     exact .inr trivial
    ·simp only[if_neg e3]
     rcases kJ.loc (t::r) m with k|k
     ·exact .inl k
     ·right
      rw[k]
theorem Uj:Rd sorts:=by
 refine⟨⟨λr m=>?_,⟨[],λr=>?_⟩⟩,?_⟩
 ·exact rU _ _ r m [] (Nat.lt_succ_self _) (by simp)
 ·unfold sorts bG;rfl
 ·rcases rU 1 1 [] [] [] (by simp) (by simp)with h|h
  ·exact h
  ·unfold sorts bG
   have h1:is ([],false) iD=false:=rfl;have h2:is ([],false) jM=false:=rfl;have h3:ends ([],false)=false:=rfl;simp only[h1,h2,h3];rfl
theorem Uk:Rd field:=show Rd (bnd name λn=>(bnd (wnt gu) λ_=>(bnd sorts λty=>(bnd (wnt aK) λ_=>ret (⟨n,ty⟩:Fld)))))from kJ.bind λn=>((jd gu).bind λ_=>(Uj.bind λty=>((jd aK).bind λ_=>RdW.ret _).toRdW).toRdW).toRdW
theorem Rl:Rd arg:=show Rd (bnd (wnt eH) λ_=>(bnd name λn=>(bnd (wnt dK) λ_=>ret (n:ByteArray))))from(jd eH).bind λ_=>(kJ.bind λn=>((jd dK).bind λ_=>RdW.ret _).toRdW).toRdW
theorem WU:Rd step:=show Rd (bnd (wnt wDo) λ_=>(bnd name λa=>(bnd (wnt jU) λ_=>(bnd name λb=>(bnd (wnt wAt) λ_=>(bnd num λd=>(bnd (wnt aK) λ_=>ret (⟨a,b,d⟩:Stp))))))))from(jd wDo).bind λ_=>(kJ.bind λa=>((jd jU).bind λ_=>(kJ.bind λb=>((jd wAt).bind λ_=>(Yn.bind λd=>((jd aK).bind λ_=>RdW.ret _).toRdW).toRdW).toRdW).toRdW).toRdW).toRdW
def undoing(s:St):ByteArray × St :=
 let t:=take s bU
 let u:=if t.1 then name t.2 else(⟨#[]⟩,t.2)
 (u.1,want u.2 aK)
theorem O4:Rd undoing:=by
 have hN:Rd (bnd name λn=>bnd (wnt aK) λ_=>ret n):=kJ.bind λn=>((jd aK).bind λ_=>RdW.ret n).toRdW
 have hW:Rd (bnd (wnt aK) λ_=>ret (⟨#[]⟩:ByteArray)):=(jd aK).bind λ_=>RdW.ret (⟨#[]⟩:ByteArray)
 have hu:∀ s,undoing s=if is s bU=true then((name (s.1.tail,s.2)).1,want (name (s.1.tail,s.2)).2 aK)else(⟨#[]⟩,want s aK):=λs=>by
  unfold undoing take;by_cases h:is s bU=true
  ·simp only[if_pos h,if_true]
  ·simp only[if_neg h,Bool.false_eq_true,if_false]
 refine⟨⟨λr m=>?_,⟨⟨#[]⟩,λr=>rfl⟩⟩,rfl⟩;rw[hu,hu];cases r with
 |nil=>exact .inl rfl
 |cons t r =>
  have h:is (t::r++m,false) bU=is (t::r,false) bU:=rfl;rw[h];by_cases e:is (t::r,false) bU=true
  ·simp only[if_pos e]
   exact hN.loc r m
  ·simp only[if_neg e]
   exact hW.loc (t::r) m
theorem Rk:Rd method:=show Rd (bnd (words [dJ,dH,dI]) λe=>(bnd name λn=>(bnd arg λa=>(bnd (wnt dA) λ_=>(bnd (words [eX,dB]) λd=>(bnd undoing λu=>ret (⟨n,a,endW d,e,u⟩:Mth)))))))from(Dx [dJ,dH,dI]).bind λe=>(kJ.bind λn=>(Rl.bind λa=>((jd dA).bind λ_=>((Dx [eX,dB]).bind λd=>(O4.bind λu=>RdW.ret _).toRdW).toRdW).toRdW).toRdW).toRdW
theorem Aq{α:Type}{read:St->α × St}(hr:Rd read)(hp:∀ s,(read s).2.2=false->(read s).2.1.length<s.1.length):∀(f f':Nat)(r m:List Tk.Tok)(acc:List α),r.length+2<=f->r.length+m.length+2<=f' ->
  (aU read f (r,false) acc).2=([],true)∨aU read f' (r++m,false) acc=((aU read f (r,false) acc).1,((aU read f (r,false) acc).2.1++m,(aU read f (r,false) acc).2.2))
 |0,f',r,m,acc,h,_=>by omega
 |f+1,0,r,m,acc,_,h=>by omega
 |f+1,f'+1,[],m,acc,h,h'=>by
  left
  have h1:is ([],false) aJ=false:=rfl;unfold aU;simp only[h1,Bool.false_eq_true,if_false];have:=hr.nil;generalize read ([],false)=q at *;obtain⟨x,s⟩:=q;simp only at this;subst this;simp only[if_true];cases f<;>rfl
 |f+1,f'+1,t::r,m,acc,h,h'=>by
  simp only[xJ]at h h';have h1:is (t::r++m,false) aJ=is (t::r,false) aJ:=rfl;have h5:((t::r++m,false):St).1.tail=r++m:=rfl;have h6:((t::r,false):St).1.tail=r:=rfl;unfold aU;rw[h1,h5,h6];simp only[Bool.false_eq_true,if_false];by_cases e1:is (t::r,false) aJ=true
  ·simp only[if_pos e1]
   exact .inr trivial
  ·simp only[if_neg e1]
   have hp1:=hp (t::r,false);rcases hr.loc (t::r) m with k|k
   ·left
    generalize read (t::r,false)=q at *;obtain⟨x,s⟩:=q;simp only at k;subst k;simp only[if_true];cases f<;>rfl
   ·rw[k]
    generalize read (t::r,false)=q at *;obtain⟨x,⟨q1,b⟩⟩:=q;cases b
    ·simp only[Bool.false_eq_true,if_false]
     have:=hp1 rfl;simp only[xJ]at this;exact Aq hr hp f f' q1 m _ (by omega) (by omega)
    ·right
     simp only[if_true];have e:∀(F:Nat)(q:List Tk.Tok),aU read F (q,true) acc=(acc,(q,true)):=λF q=>by cases F<;>simp[aU]
     rw[e,e]
theorem Bg{α:Type}{read:St->α × St}(hr:Rd read)(hp:∀ s,(read s).2.2=false->(read s).2.1.length<s.1.length):Rd (within read):=by
 have e:∀(F:Nat)(q:List Tk.Tok)(acc:List α),aU read F (q,true) acc=(acc,(q,true)):=λF q acc=>by cases F<;>simp[aU]
 refine⟨⟨λr m=>?_,⟨[],λr=>by unfold within;rw[show want (r,true) aN=(r,true)from rfl,e]⟩⟩,by unfold within;rw[show want ([],false) aN=([],true)from rfl,e]⟩;unfold within;rcases(jd aN).loc r m with k|k
 ·left
  have k':want (r,false) aN=([],true):=k;rw[k',e]
 ·have k2:want (r++m,false) aN=((want (r,false) aN).1++m,(want (r,false) aN).2):=congrArg Prod.snd k
  rw[k2];generalize want (r,false) aN=q at *;obtain⟨q1,b⟩:=q;cases b
  ·exact Aq hr hp _ _ q1 m [] (xB _) (by simp)
  ·right
   rw[e,e]
theorem Gn(c:Bool):Rd (record c):=show Rd (bnd name λn=>(bnd (within field) λfs=>ret (⟨n,c,fs⟩:Rec)))from kJ.bind λn=>((Bg Uk (λs=>zN)).bind λfs=>RdW.ret _).toRdW
theorem O5:Rd service:=show Rd (bnd name λn=>(bnd (within method) λfs=>ret (⟨n,fs⟩:Svc)))from kJ.bind λn=>((Bg Rk (λs=>wS)).bind λfs=>RdW.ret _).toRdW
theorem WV:Rd saga:=show Rd (bnd name λn=>(bnd arg λa=>(bnd (within step) λfs=>ret (⟨n,a,fs⟩:Sag))))from kJ.bind λn=>(Rl.bind λa=>((Bg WU (λs=>Aw)).bind λfs=>RdW.ret _).toRdW).toRdW
theorem IX:Rd round:=by
 have e:round=bnd (words decls) (λy=>if y.toList=[114,101,99,111,114,100]then bnd (record false) (λr=>ret (λx:Sch=>{ x with records:=x.records++[r] }))else
   if y.toList=[99,104,111,105,99,101]then bnd (record true) (λr=>ret (λx:Sch=>{ x with records:=x.records++[r] }))else
   if y.toList=[115,101,114,118,105,99,101]then bnd service (λr=>ret (λx:Sch=>{ x with services:=x.services++[r] }))else
   if y.toList=[115,97,103,97]then bnd saga (λr=>ret (λx:Sch=>{ x with sagas:=x.sagas++[r] }))else ret (λx:Sch=>x)):=by
  funext s
  unfold round bnd;dsimp only;split
  ·rfl
  ·split
   ·rfl
   ·split
    ·rfl
    ·split<;>rfl
 rw[e];refine(Dx _).bind λy=>?_
 split
 ·exact((Gn false).bind λr=>RdW.ret _).toRdW
 ·split
  ·exact((Gn true).bind λr=>RdW.ret _).toRdW
  ·split
   ·exact(O5.bind λr=>RdW.ret _).toRdW
   ·split
    ·exact(WV.bind λr=>RdW.ret _).toRdW
    ·exact RdW.ret _
theorem yV{s:St}(h0:s.2=false)(h:(round s).2.2=false):(round s).2.1.length<s.1.length:=by
 have hw:=wO decls s h0;unfold round at h ⊢;dsimp only at h ⊢;generalize words decls s=wd at *;obtain⟨y,s4⟩:=wd;simp only at hw h ⊢;rcases hw with⟨h1,h2⟩|⟨h1,h2⟩
 ·have k1:=wG false s4
  have k2:=wG true s4;have k3:=Eo s4;have k4:=Nj s4;split
  ·simp only;omega
  ·split
   ·simp only;omega
   ·split
    ·simp only;omega
    ·split
     ·simp only;omega
     ·simp only;omega
 ·subst h2
  have hn:∀ L:List UInt8,L≠[]->¬(⟨#[]⟩:ByteArray).toList=L:=λL hL e=>hL (by rw[dY]at e;exact e.symm)
  rw[if_neg (hn _ (by simp)),if_neg (hn _ (by simp)),if_neg (hn _ (by simp)),if_neg (hn _ (by simp))]at h;simp only at h;rw[h1]at h;cases h
theorem iC(f:Nat)(q:List Tk.Tok)(x:Sch):aF f (q,true) x=(x,(q,true)):=by
 cases f with
 |zero=>rfl
 |succ f=>rw[je,if_pos (.inl rfl)]
theorem pO(f:Nat)(x:Sch):aF f ([],false) x=(x,([],false)):=by
 cases f with
 |zero=>rfl
 |succ f=>rw[je,if_pos (.inr rfl)]
theorem lg(f:Nat)(t:Tk.Tok)(r:List Tk.Tok)(x:Sch):aF (f+1) (t::r,false) x=aF f (round (t::r,false)).2 ((round (t::r,false)).1 x):=by
 rw[je,if_neg (by simp)]
theorem AX:∀(f f':Nat)(r:List Tk.Tok)(x:Sch),r.length+2<=f->r.length+2<=f'->aF f (r,false) x=aF f' (r,false) x
 |0,f',r,x,h,_=>by omega
 |f+1,0,r,x,_,h=>by omega
 |f+1,f'+1,[],x,_,_=>by rw[pO,pO]
 |f+1,f'+1,t::r,x,h,h'=>by
  simp only[xJ]at h h';rw[lg,lg];have hg:=@yV (t::r,false) rfl;generalize round (t::r,false)=q at *;obtain⟨g,⟨q1,b⟩⟩:=q;cases b
  ·have:=hg rfl
   simp only[xJ]at this;exact AX f f' q1 _ (by omega) (by omega)
  ·rw[iC,iC]
theorem Ac:∀(f f':Nat)(r m:List Tk.Tok)(x y:Sch)(t:Tk.Tok)(q:List Tk.Tok),r.length+2<=f->r.length+m.length+2<=f' ->
  aF f (r,false) x=(y,(t::q,true))->aF f' (r++m,false) x=(y,(t::q++m,true))
 |0,f',r,m,x,y,t,q,h,_,_=>by omega
 |f+1,0,r,m,x,y,t,q,_,h,_=>by omega
 |f+1,f'+1,[],m,x,y,t,q,_,_,e=>by rw[pO]at e;cases e
 |f+1,f'+1,u::r,m,x,y,t,q,h,h',e=>by
  simp only[xJ]at h h';rw[lg]at e;rw[List.cons_append,lg];have hg:=@yV (u::r,false) rfl;rcases IX.loc (u::r) m with k|k
  ·rw[k,iC]at e
   cases e
  ·rw[List.cons_append]at k
   rw[k];generalize round (u::r,false)=w at *;obtain⟨g,⟨q1,b⟩⟩:=w;cases b
   ·have:=hg rfl
    simp only[xJ]at this;exact Ac f f' q1 m _ y t q (by omega) (by omega) e
   ·simp only at e ⊢
    rw[iC]at e ⊢;injection e with e1 e2
    injection e2 with e3 _
    rw[e1,e3]
theorem AV:∀(f f' f'':Nat)(r m:List Tk.Tok)(x y:Sch),r.length+2<=f->r.length+m.length+2<=f'->m.length+2<=f'' ->
  aF f (r,false) x=(y,([],false))->aF f' (r++m,false) x=aF f'' (m,false) y
 |0,f',f'',r,m,x,y,h,_,_,_=>by omega
 |f+1,0,f'',r,m,x,y,_,h,_,_=>by omega
 |f+1,f'+1,f'',[],m,x,y,_,h',h'',e=>by
  rw[pO]at e;injection e with e _
  subst e;rw[yI];exact AX _ _ m _ (by simpa using h') h''
 |f+1,f'+1,f'',u::r,m,x,y,h,h',h'',e=>by
  simp only[xJ]at h h';rw[lg]at e;rw[List.cons_append,lg];have hg:=@yV (u::r,false) rfl;rcases IX.loc (u::r) m with k|k
  ·rw[k,iC]at e
   cases e
  ·rw[List.cons_append]at k
   rw[k];generalize round (u::r,false)=w at *;obtain⟨g,⟨q1,b⟩⟩:=w;cases b
   ·have:=hg rfl
    simp only[xJ]at this;exact AV f f' f'' q1 m _ y (by omega) (by omega) h'' e
   ·simp only at e
    rw[iC]at e;cases e
def cat(x y:Sch):Sch:=⟨x.name,x.records++y.records,x.services++y.services,x.sagas++y.sagas⟩
theorem QX(s:St)(x y:Sch):(round s).1 (cat x y)=cat x ((round s).1 y):=by
 unfold round;dsimp only;split
 ·simp[cat]
 ·split
  ·simp[cat]
  ·split
   ·simp[cat]
   ·split
    ·simp[cat]
    ·rfl
theorem CO:∀(f:Nat)(s:St)(x y:Sch),aF f s (cat x y)=(cat x (aF f s y).1,(aF f s y).2)
 |0,s,x,y=>rfl
 |f+1,s,x,y=>by
  rw[je,je,QX,CO f];split<;>rfl
end Id
