/- redressref25: some, Pack. No condition but the ones the theorems state. -/
import Derived.Test.YtogijkhenihaaaaGreatDoorGP33
import Derived.Test.YtogijkhenihaaaaGreatDoorGP30
import Derived.Test.YtogijkhenihaaaaGreatDoorGP32
set_option linter.unusedVariables false
set_option linter.unusedSimpArgs false
namespace Go.Proofs.YtogijkhenihaaaaGreatDoor
open Go.RowKit Go.BigFrame
namespace Sg
theorem dgot_bind {o:Option (List UInt8)} {n:Int} {o1:Option (List UInt8)} (h:Got (dNum 58) o n o1):(o1=none→o.bind (dNum 58)=none)∧∀ l1,o1=some l1→o.bind (dNum 58)=some (n,l1):=by
 have h1:=h.rest
 have h2:=h.val
 cases hq:o.bind (dNum 58) with
 | none =>
  rw [hq] at h1
  exact ⟨fun _=>rfl,fun l1 e=>(by rw [e] at h1;cases h1)⟩
 | some q =>
  rw [hq] at h1
  have h3:=h2 q hq
  refine ⟨fun e=>(by rw [e] at h1;cases h1),fun l1 e=>?_⟩
  rw [e] at h1
  have h1:some q.2=some l1:=h1
  injection h1 with h1
  rw [h3,←h1]
theorem dtxt_bind (o:Option (List UInt8)):o.bind dTxt=(o.bind (dNum 58)).bind fun q=>if q.1<0∨(q.2.length:Int)<q.1 then none else some (⟨(q.2.take q.1.toNat).toArray⟩,q.2.drop q.1.toNat):=by
 cases o <;> rfl
theorem dgot_txt0 {o:Option (List UInt8)} {n:Int} {s:ByteArray} (h:Got (dNum 58) o n none):Got dTxt o s none:=by
 have h1:o.bind dTxt=none:=by rw [dtxt_bind,(dgot_bind h).1 rfl];rfl
 exact ⟨by rw [h1];rfl,fun q hq=>by rw [h1] at hq;cases hq⟩
theorem dgot_txt1 {o:Option (List UInt8)} {n:Int} {s:ByteArray} {l1:List UInt8} (h:Got (dNum 58) o n (some l1)) (hn:n<0∨(l1.length:Int)<n):Got dTxt o s none:=by
 have h1:o.bind dTxt=none:=by
  rw [dtxt_bind,(dgot_bind h).2 l1 rfl]
  show (if n<0∨(l1.length:Int)<n then none else _)=none
  rw [if_pos hn]
 exact ⟨by rw [h1];rfl,fun q hq=>by rw [h1] at hq;cases hq⟩
theorem dgot_txt2 {o:Option (List UInt8)} {n:Int} {l1:List UInt8} (h:Got (dNum 58) o n (some l1)) (hn:¬(n<0∨(l1.length:Int)<n)):Got dTxt o ⟨(l1.take n.toNat).toArray⟩ (some (l1.drop n.toNat)):=by
 have h1:o.bind dTxt=some (⟨(l1.take n.toNat).toArray⟩,l1.drop n.toNat):=by
  rw [dtxt_bind,(dgot_bind h).2 l1 rfl]
  show (if n<0∨(l1.length:Int)<n then none else _)=_
  rw [if_neg hn]
 exact ⟨by rw [h1];rfl,fun q hq=>by rw [h1] at hq;injection hq with hq;rw [←hq]⟩
def someE (b:ByteArray) (o:Option (List UInt8)) (w:World) (e:Ending) (w':World):Prop:=∃ s p o',e=.returned (.tuple #[.string s,.int .i64 p])∧Got dTxt o s o'∧Pos b p o'∧Below w.heap.size w w'
end Sg
set_option maxRecDepth 100000 in
set_option maxHeartbeats 8000000 in
theorem sgsome_any (b:ByteArray) (hb:b.size≤1000000) (p:Int) (o:Option (List UInt8)) (hp:Sg.Pos b p o) (w:World) :
  Calls Tryz.prog 84 #[.string b,.int .i64 p] w (Sg.someE b o w):=by
 have HDIG:=Lib.hid (sgdig_any b hb p o hp 58 (by decide) w)
 clear hp
 go_enter Tryz.func84,Tryz.ntmps84
 go_wp2_with fail
 refine HDIG.out.mono ?_
 rintro e W1 ⟨n,p1,o1,rfl,hg,hp1,hb1⟩
 have HG:=Lib.hid hg
 have HB:=Lib.hid hb1
 clear hg hb1 HDIG
 rcases hp1 with ⟨rfl,rfl⟩ | ⟨k,hk,rfl,rfl⟩
 ·have HE:Hid (Sg.someE b o w (.returned (.tuple #[.string ⟨#[]⟩,.int .i64 (-1)])) W1):=Lib.hid ⟨_,_,none,rfl,Sg.dgot_txt0 HG.out,.inl ⟨rfl,rfl⟩,HB.out⟩
  clear HG HB
  go_wp2_with fail
  go_ret2
  exact HE.out
 have hll:((b.data.toList.drop k).length:Int)=(b.size:Int) - (k:Int):=by
  rw [List.length_drop]
  have:b.data.toList.length=b.size:=by simp
  omega
 have HLL:=Lib.hid hll
 clear hll
 have k0:(0:Int)≤(k:Int):=by omega
 have k1:¬(k:Int)<0:=by omega
 have kb:(k:Int)≤(b.size:Int):=by omega
 by_cases hbad:n<0∨(b.size:Int) - (k:Int)<n
 ·have HE:Hid (Sg.someE b o w (.returned (.tuple #[.string ⟨#[]⟩,.int .i64 (-1)])) W1):=Lib.hid ⟨_,_,none,rfl,Sg.dgot_txt1 HG.out (by rw [HLL.out];exact hbad),.inl ⟨rfl,rfl⟩,HB.out⟩
  clear HG HB
  by_cases hn:n<0
  ·go_wp2_with fail
   go_ret2
   exact HE.out
  ·have hn2:(b.size:Int) - (k:Int)<n:=by omega
   clear hbad
   go_wp2_with fail
   go_ret2
   exact HE.out
 have HG2:=Lib.hid (Sg.dgot_txt2 HG.out (by rw [HLL.out];exact hbad))
 have n0:¬n<0:=by omega
 have n1:¬(b.size:Int) - (k:Int)<n:=by omega
 obtain ⟨m,rfl⟩:∃ m:Nat,n=m:=⟨n.toNat,by omega⟩
 rw [Int.toNat_natCast] at HG2
 have HE:Hid (Sg.someE b o w (.returned (.tuple #[.string (b.extract k (k+m)),.int .i64 ((k:Int)+(m:Int))])) W1):=Lib.hid (by
  have hx:b.extract k (k+m)=⟨((b.data.toList.drop k).take m).toArray⟩:=by
   apply ByteArray.ext
   apply Array.ext'
   simp
  rw [hx]
  refine ⟨_,_,some (b.data.toList.drop (k+m)),rfl,?_,.inr ⟨k+m,by omega,by omega,rfl⟩,HB.out⟩
  have h:=HG2.out
  rw [List.drop_drop] at h
  exact h)
 have hkm:(k:Int)≤(k:Int)+(m:Int):=by omega
 have hkb:(k:Int)+(m:Int)≤(b.size:Int):=by omega
 have hnn:((k:Int)+(m:Int)).toNat=k+m:=by omega
 have hw:IntKind.i64.wrap ((k:Int)+(m:Int))=(k:Int)+(m:Int):=by rw [IntKind.wrap_i64];omega
 clear HG HG2 HB HLL hbad
 go_wp2_with fail
 go_ret2
 exact HE.out
namespace Sg
theorem packD (i s a v:ByteArray) (n p t f y:Int) (st:List UInt8) (hst:st=Lib.itoa f++[59]):((((((((((((⟨(txt i).toArray⟩:ByteArray)++⟨(txt s).toArray⟩)++⟨(txt a).toArray⟩)++⟨(Lib.itoa n).toArray⟩)++⟨#[59]⟩)++⟨(Lib.itoa p).toArray⟩)++⟨#[59]⟩)++⟨(Lib.itoa t).toArray⟩)++⟨#[59]⟩)++⟨st.toArray⟩)++⟨(Lib.itoa y).toArray⟩)++⟨#[59]⟩)++⟨(txt v).toArray⟩=⟨((txts [i,s,a]++semi [n,p,t,f,y])++txts [v]).toArray⟩:=by
 subst hst
 apply ByteArray.ext
 apply Array.ext'
 simp [txts,semi]
end Sg
set_option maxRecDepth 100000 in
set_option maxHeartbeats 16000000 in
theorem sgdpack_any (r:Sg.Run) (hr:r.ok) (hz:r.id.size≤1000000∧r.saga.size≤1000000∧r.arg.size≤1000000∧r.value.size≤1000000) (w:World) :
  Calls Tryz.prog 35 #[r.val] w fun e w'=>e=.returned (.string ⟨(Sg.packL r).toArray⟩)∧Below w.heap.size w w':=by
 have HPE:=Lib.hid (Sg.packL_eq r)
 rw [HPE.out]
 obtain ⟨a1,a2,a3,a4⟩:=hr.a,hr.t,hr.w,hr.p
 obtain ⟨i,s,a,n,p,t,st,y,v⟩:=r
 simp only at hz a1 a2 a3 a4
 unfold Sg.nums
 simp only
 obtain ⟨z0,z1,z2,z3⟩:=hz
 obtain ⟨T,HT⟩:∃ T:ByteArray→ByteArray,Hid (∀ s,(⟨(Sg.txt s).toArray⟩:ByteArray)=T s):=⟨_,Lib.hid fun _=>rfl⟩
 obtain ⟨N,HN⟩:∃ N:Int→ByteArray,Hid (∀ n,(⟨(Lib.itoa n).toArray⟩:ByteArray)=N n):=⟨_,Lib.hid fun _=>rfl⟩
 have HCT:Hid (∀ (s:ByteArray),s.size≤1000000→∀ W,Calls Tryz.prog 91 #[.string s] W fun e w'=>e=.returned (.string (T s))∧Below W.heap.size W w'):=Lib.hid (fun s hs W=>by
  have h:=sgdtext_any s hs W
  rw [HT.out] at h
  exact h)
 have HCN:Hid (∀ (n:Int),(-9223372036854775808≤n∧n≤9223372036854775807)→∀ W,Calls Tryz.prog 92 #[.int .i64 n] W fun e w'=>e=.returned (.string (N n))∧Below W.heap.size W w'):=Lib.hid (fun n hn W=>by
  have h:=sgdnum_any n hn.1 hn.2 W
  rw [HN.out] at h
  exact h)
 have hsT:∀ s:ByteArray,s.size≤1000000→(T s).size≤1000020:=fun s hs=>by
  rw [←HT.out]
  show (Sg.txt s).toArray.size≤_
  rw [List.size_toArray]
  have:=Sg.txt_len s (by omega)
  omega
 have hsN:∀ n:Int,(-9223372036854775808≤n∧n≤9223372036854775807)→(N n).size≤20:=fun n hn=>by
  rw [←HN.out]
  show (Lib.itoa n).toArray.size≤_
  rw [List.size_toArray]
  exact Sg.itoa_len hn.1 hn.2
 have a5:-9223372036854775808≤(p:Int)∧(p:Int)≤9223372036854775807:=by omega
 have b0:=hsT i z0
 have b1:=hsT s z1
 have b2:=hsT a z2
 have b3:=hsT v z3
 have b4:=hsN n a1
 have b5:=hsN p a5
 have b6:=hsN t a2
 have b7:=hsN y a3
 have HPD:=fun f st hst=>Sg.packD i s a v n (p:Int) t f y st hst
 simp only [HT.out,HN.out] at HPD
 have HPD:=Lib.hid HPD
 have hwp:IntKind.i64.wrap (p:Int)=(p:Int):=by rw [IntKind.wrap_i64];omega
 clear HPE hsT hsN HT HN
 unfold Sg.Run.val Sg.Run.cells
 simp only
 cases st
 ·have HE:Hid ((T i)++(T s)++(T a)++(N n)++⟨#[59]⟩++(N (p:Int))++⟨#[59]⟩++(N t)++⟨#[59]⟩++⟨#[48,59]⟩++(N y)++⟨#[59]⟩++(T v)=⟨((Sg.txts [i,s,a]++Sg.semi [n,(p:Int),t,Sg.flag false,y])++Sg.txts [v]).toArray⟩):=Lib.hid (HPD.out (Sg.flag false) [48,59] (by decide +kernel))
  rw [←HE.out]
  clear HE HPD
  have z1:(9223372036854775807<(T i).size+(T s).size)=False:=by simp only [eq_iff_iff,iff_false];omega
  have z2:(9223372036854775807<(T i).size+(T s).size+(T a).size)=False:=by simp only [eq_iff_iff,iff_false];omega
  have z3:(9223372036854775807<(T i).size+(T s).size+(T a).size+(N n).size)=False:=by simp only [eq_iff_iff,iff_false];omega
  have z4:(9223372036854775807<(T i).size+(T s).size+(T a).size+(N n).size+1)=False:=by simp only [eq_iff_iff,iff_false];omega
  have z5:(9223372036854775807<(T i).size+(T s).size+(T a).size+(N n).size+1+(N (p:Int)).size)=False:=by simp only [eq_iff_iff,iff_false];omega
  have z6:(9223372036854775807<(T i).size+(T s).size+(T a).size+(N n).size+1+(N (p:Int)).size+1)=False:=by simp only [eq_iff_iff,iff_false];omega
  have z7:(9223372036854775807<(T i).size+(T s).size+(T a).size+(N n).size+1+(N (p:Int)).size+1+(N t).size)=False:=by simp only [eq_iff_iff,iff_false];omega
  have z8:(9223372036854775807<(T i).size+(T s).size+(T a).size+(N n).size+1+(N (p:Int)).size+1+(N t).size+1)=False:=by simp only [eq_iff_iff,iff_false];omega
  have z9:(9223372036854775807<(T i).size+(T s).size+(T a).size+(N n).size+1+(N (p:Int)).size+1+(N t).size+1+2)=False:=by simp only [eq_iff_iff,iff_false];omega
  have z10:(9223372036854775807<(T i).size+(T s).size+(T a).size+(N n).size+1+(N (p:Int)).size+1+(N t).size+1+2+(N y).size)=False:=by simp only [eq_iff_iff,iff_false];omega
  have z11:(9223372036854775807<(T i).size+(T s).size+(T a).size+(N n).size+1+(N (p:Int)).size+1+(N t).size+1+2+(N y).size+1)=False:=by simp only [eq_iff_iff,iff_false];omega
  have z12:(9223372036854775807<(T i).size+(T s).size+(T a).size+(N n).size+1+(N (p:Int)).size+1+(N t).size+1+2+(N y).size+1+(T v).size)=False:=by simp only [eq_iff_iff,iff_false];omega
  go_enter Tryz.func35,Tryz.ntmps35
  go_upto_region 1 with (fail)
  refine wp_named (fun V hV=>?_)
  obtain ⟨hb,hq,-⟩:=fresh_box hV
  have HB:=Lib.hid hb
  clear hV hb
  have c6:=hq.cell 6
  simp only [List.getElem?_toArray,List.getElem?_cons_zero,List.getElem?_cons_succ] at c6
  go_wp2_with fail
  have d0:=fun (w':World) (hb:Bl V w')=>(hq.below hb hq.lt).cell 0
  have d1:=fun (w':World) (hb:Bl V w')=>(hq.below hb hq.lt).cell 1
  have d2:=fun (w':World) (hb:Bl V w')=>(hq.below hb hq.lt).cell 2
  have d3:=fun (w':World) (hb:Bl V w')=>(hq.below hb hq.lt).cell 3
  have d4:=fun (w':World) (hb:Bl V w')=>(hq.below hb hq.lt).cell 4
  have d5:=fun (w':World) (hb:Bl V w')=>(hq.below hb hq.lt).cell 5
  have d7:=fun (w':World) (hb:Bl V w')=>(hq.below hb hq.lt).cell 7
  have d8:=fun (w':World) (hb:Bl V w')=>(hq.below hb hq.lt).cell 8
  simp only [List.getElem?_toArray,List.getElem?_cons_zero,List.getElem?_cons_succ] at d0 d1 d2 d3 d4 d5 d7 d8
  clear c6
  refine wp_region_bl V (by kernel_rfl) (by kernel_rfl) (Bl.refl _) ?_
  repeat (first | go_big_quiet_step ((intro hb;first | (go_at_call 91;exact calls_bl hb (HCT.out _ (by assumption) _)) | (go_at_call 92;exact calls_bl hb (HCN.out _ (by assumption) _)))) | (refine wpQuiet_step (fun K hK=>?_);rw [if_pos (by rfl)];refine Lst.load_cell _ _ rfl _ rfl _ (by assumption) _ Tryz.underlying9 rfl ?_;go_simp;refine hK _ ?_;clear hK K) | (refine wpQuiet_step (fun K hK=>?_);rw [if_pos (by rfl)];refine Lst.load_cell _ _ rfl _ rfl _ (by assumption) _ Tryz.underlying3 rfl ?_;go_simp;refine hK _ ?_;clear hK K) | (refine wpQuiet_step (fun K hK=>?_);rw [if_pos (by rfl)];refine Lst.load_cell _ _ rfl _ rfl _ (by assumption) _ Tryz.underlying5 rfl ?_;go_simp;refine hK _ ?_;clear hK K) | (refine wpQuiet_step (fun K hK=>?_);go_simp;refine ⟨_,fun _ _=>rfl,hK _ ?_⟩;clear hK K))
  refine wpQuiet_nil ?_
  intro W9 hW9
  have HB9:=Lib.hid (HB.out.trans (Below.mono hW9 HB.out.size))
  clear d0 d1 d2 d3 d4 d5 d7 d8
  go_wp2_with fail
  go_ret
  exact ⟨rfl,HB9.out⟩
 ·have HE:Hid ((T i)++(T s)++(T a)++(N n)++⟨#[59]⟩++(N (p:Int))++⟨#[59]⟩++(N t)++⟨#[59]⟩++⟨#[49,59]⟩++(N y)++⟨#[59]⟩++(T v)=⟨((Sg.txts [i,s,a]++Sg.semi [n,(p:Int),t,Sg.flag true,y])++Sg.txts [v]).toArray⟩):=Lib.hid (HPD.out (Sg.flag true) [49,59] (by decide +kernel))
  rw [←HE.out]
  clear HE HPD
  have z1:(9223372036854775807<(T i).size+(T s).size)=False:=by simp only [eq_iff_iff,iff_false];omega
  have z2:(9223372036854775807<(T i).size+(T s).size+(T a).size)=False:=by simp only [eq_iff_iff,iff_false];omega
  have z3:(9223372036854775807<(T i).size+(T s).size+(T a).size+(N n).size)=False:=by simp only [eq_iff_iff,iff_false];omega
  have z4:(9223372036854775807<(T i).size+(T s).size+(T a).size+(N n).size+1)=False:=by simp only [eq_iff_iff,iff_false];omega
  have z5:(9223372036854775807<(T i).size+(T s).size+(T a).size+(N n).size+1+(N (p:Int)).size)=False:=by simp only [eq_iff_iff,iff_false];omega
  have z6:(9223372036854775807<(T i).size+(T s).size+(T a).size+(N n).size+1+(N (p:Int)).size+1)=False:=by simp only [eq_iff_iff,iff_false];omega
  have z7:(9223372036854775807<(T i).size+(T s).size+(T a).size+(N n).size+1+(N (p:Int)).size+1+(N t).size)=False:=by simp only [eq_iff_iff,iff_false];omega
  have z8:(9223372036854775807<(T i).size+(T s).size+(T a).size+(N n).size+1+(N (p:Int)).size+1+(N t).size+1)=False:=by simp only [eq_iff_iff,iff_false];omega
  have z9:(9223372036854775807<(T i).size+(T s).size+(T a).size+(N n).size+1+(N (p:Int)).size+1+(N t).size+1+2)=False:=by simp only [eq_iff_iff,iff_false];omega
  have z10:(9223372036854775807<(T i).size+(T s).size+(T a).size+(N n).size+1+(N (p:Int)).size+1+(N t).size+1+2+(N y).size)=False:=by simp only [eq_iff_iff,iff_false];omega
  have z11:(9223372036854775807<(T i).size+(T s).size+(T a).size+(N n).size+1+(N (p:Int)).size+1+(N t).size+1+2+(N y).size+1)=False:=by simp only [eq_iff_iff,iff_false];omega
  have z12:(9223372036854775807<(T i).size+(T s).size+(T a).size+(N n).size+1+(N (p:Int)).size+1+(N t).size+1+2+(N y).size+1+(T v).size)=False:=by simp only [eq_iff_iff,iff_false];omega
  go_enter Tryz.func35,Tryz.ntmps35
  go_upto_region 1 with (fail)
  refine wp_named (fun V hV=>?_)
  obtain ⟨hb,hq,-⟩:=fresh_box hV
  have HB:=Lib.hid hb
  clear hV hb
  have c6:=hq.cell 6
  simp only [List.getElem?_toArray,List.getElem?_cons_zero,List.getElem?_cons_succ] at c6
  go_wp2_with fail
  have d0:=fun (w':World) (hb:Bl V w')=>(hq.below hb hq.lt).cell 0
  have d1:=fun (w':World) (hb:Bl V w')=>(hq.below hb hq.lt).cell 1
  have d2:=fun (w':World) (hb:Bl V w')=>(hq.below hb hq.lt).cell 2
  have d3:=fun (w':World) (hb:Bl V w')=>(hq.below hb hq.lt).cell 3
  have d4:=fun (w':World) (hb:Bl V w')=>(hq.below hb hq.lt).cell 4
  have d5:=fun (w':World) (hb:Bl V w')=>(hq.below hb hq.lt).cell 5
  have d7:=fun (w':World) (hb:Bl V w')=>(hq.below hb hq.lt).cell 7
  have d8:=fun (w':World) (hb:Bl V w')=>(hq.below hb hq.lt).cell 8
  simp only [List.getElem?_toArray,List.getElem?_cons_zero,List.getElem?_cons_succ] at d0 d1 d2 d3 d4 d5 d7 d8
  clear c6
  refine wp_region_bl V (by kernel_rfl) (by kernel_rfl) (Bl.refl _) ?_
  repeat (first | go_big_quiet_step ((intro hb;first | (go_at_call 91;exact calls_bl hb (HCT.out _ (by assumption) _)) | (go_at_call 92;exact calls_bl hb (HCN.out _ (by assumption) _)))) | (refine wpQuiet_step (fun K hK=>?_);rw [if_pos (by rfl)];refine Lst.load_cell _ _ rfl _ rfl _ (by assumption) _ Tryz.underlying9 rfl ?_;go_simp;refine hK _ ?_;clear hK K) | (refine wpQuiet_step (fun K hK=>?_);rw [if_pos (by rfl)];refine Lst.load_cell _ _ rfl _ rfl _ (by assumption) _ Tryz.underlying3 rfl ?_;go_simp;refine hK _ ?_;clear hK K) | (refine wpQuiet_step (fun K hK=>?_);rw [if_pos (by rfl)];refine Lst.load_cell _ _ rfl _ rfl _ (by assumption) _ Tryz.underlying5 rfl ?_;go_simp;refine hK _ ?_;clear hK K) | (refine wpQuiet_step (fun K hK=>?_);go_simp;refine ⟨_,fun _ _=>rfl,hK _ ?_⟩;clear hK K))
  refine wpQuiet_nil ?_
  intro W9 hW9
  have HB9:=Lib.hid (HB.out.trans (Below.mono hW9 HB.out.size))
  clear d0 d1 d2 d3 d4 d5 d7 d8
  go_wp2_with fail
  go_ret
  exact ⟨rfl,HB9.out⟩
end Go.Proofs.YtogijkhenihaaaaGreatDoor
set_option linter.unusedVariables false
set_option linter.unusedSimpArgs false
namespace Go.Proofs.YtogijkhenihaaaaGreatDoor
open Go.RowKit Go.BigFrame
namespace Sg
/-- What the document's reading knows: the result's block, the run's block. -/
structure RdD (w:World) (cs:Array Value) (W:World):Prop where
 bel:Below w.heap.size w W
 res:Bk W w.heap.size 54 zrun9
 run:Bk W (w.heap.size+1) 54 cs
theorem RdD.start {w V:World} (h:V=(w.alloc (.cells zrun9 54)).alloc (.cells zrun9 54)):RdD w zrun9 V:=by
 subst h
 have h1:(w.alloc (.cells zrun9 54)).heap.size=w.heap.size+1:=by simp
 refine ⟨((Below.refl _ _).alloc (Nat.le_refl _) _).alloc (by omega) _,(Bk.new w 54 zrun9).alloc _,?_⟩
 have h:=Bk.new (w.alloc (.cells zrun9 54)) 54 zrun9
 rw [h1] at h
 exact h
theorem RdD.below {w W W':World} {cs:Array Value} (h:RdD w cs W) (hb:Below W.heap.size W W'):RdD w cs W':=⟨h.bel.trans (hb.mono h.bel.size),h.res.below hb h.res.lt,h.run.below hb h.run.lt⟩
theorem RdD.set {w W:World} {cs:Array Value} (h:RdD w cs W) (i:Nat) (v:Value):RdD w (cs.setIfInBounds i v) (W.setCell ⟨w.heap.size+1,i,none⟩ v) :=
 ⟨h.bel.setCell (p:=⟨w.heap.size+1,i,none⟩) (by show w.heap.size≤w.heap.size+1;omega) v,h.res.far (by show ¬w.heap.size=w.heap.size+1;omega) v,h.run.set_ i v⟩
theorem readD_got {b:List UInt8} (hb:b.length≤9223372036854775807) {i s a v:ByteArray} {n p t f y:Int} {o1 o2 o3 o4 o5 o6 o7 o8 o9:Option (List UInt8)}
  (h1:Got dTxt (some b) i o1) (h2:Got dTxt o1 s o2) (h3:Got dTxt o2 a o3) (h4:Got (dNum 59) o3 n o4) (h5:Got (dNum 59) o4 p o5) (h6:Got (dNum 59) o5 t o6) (h7:Got (dNum 59) o6 f o7) (h8:Got (dNum 59) o7 y o8) (h9:Got dTxt o8 v o9) :
  (¬(o9=some []∧0≤p∧p≤255∧0≤f∧f≤1)→readL b=none)∧(o9=some []∧0≤p∧p≤255∧0≤f∧f≤1→readL b=some (runOf (i,s,a,n,p,t,f,y,v))):=by
 have hr:=read_doc hb
 rw [dRun_runG,runG_of h1 h2 h3 h4 h5 h6 h7 h8 h9] at hr
 cases o9 with
 | none=>exact ⟨fun _=>hr.symm,fun h=>(by cases h.1)⟩
 | some r =>
  have hr:(if r≠[]∨p<0∨255<p∨f<0∨1<f then none else some (i,s,a,n,p,t,f,y,v)).map runOf=readL b:=hr
  refine ⟨fun h=>?_,fun h=>?_⟩
  ·rw [←hr,if_pos]
   ·rfl
   ·by_cases h0:r=[]
    ·subst h0
     by_cases h1:p<0
     ·exact .inr (.inl h1)
     ·by_cases h2:255<p
      ·exact .inr (.inr (.inl h2))
      ·by_cases h3:f<0
       ·exact .inr (.inr (.inr (.inl h3)))
       ·by_cases h4:1<f
        ·exact .inr (.inr (.inr (.inr h4)))
        ·exact absurd ⟨rfl,by omega,by omega,by omega,by omega⟩ h
    ·exact .inl h0
  ·obtain ⟨h0,h1,h2,h3,h4⟩:=h
   injection h0 with h0
   rw [←hr,if_neg]
   ·rfl
   ·rintro (h | h | h | h | h)
    ·exact h h0
    ·omega
    ·omega
    ·omega
    ·omega
end Sg
set_option maxRecDepth 100000 in
set_option maxHeartbeats 16000000 in
theorem sgdread_any (b:ByteArray) (hb:b.size≤1000000) (w:World) :
  Calls Tryz.prog 33 #[.string b] w fun e w'=>e=.returned (Sg.readV (Sg.readL b.data.toList))∧Below w.heap.size w w':=by
 obtain ⟨R,HR⟩:∃ R,Hid (Sg.readL b.data.toList=R):=⟨_,Lib.hid rfl⟩
 rw [HR.out]
 go_enter Tryz.func33,Tryz.ntmps33
 go_upto_region 2 with (fail)
 refine wp_named (fun V hV=>?_)
 have HI:=Lib.hid (Sg.RdD.start hV)
 have HP0:Hid (Sg.Pos b 0 (some b.data.toList)):=Lib.hid (.inr ⟨0,Nat.zero_le _,rfl,rfl⟩)
 clear hV
 go_wp2_with fail
 refine (sgsome_any b hb _ _ HP0.out _).mono ?_
 rintro e W1 ⟨i,q1,o1,rfl,hg,hp,hbw⟩
 have HG1:=Lib.hid hg
 have HP1:=Lib.hid hp
 have HJ:=Lib.hid (HI.out.below hbw)
 clear hg hp hbw HI HP0
 have hc:=HJ.out.run.cell 0
 have hf:=HJ.out.run.frozen 0
 simp only [List.getElem?_toArray,List.getElem?_cons_zero,List.getElem?_cons_succ] at hc
 have HI:Hid (Sg.RdD w #[.string i,.string ⟨#[]⟩,.string ⟨#[]⟩,.int .i64 0,.int .u8 0,.int .i64 0,.bool false,.int .i64 0,.string ⟨#[]⟩] (W1.setCell ⟨w.heap.size+1,0,none⟩ (.string i))):=Lib.hid (HJ.out.set 0 (.string i))
 clear HJ
 go_wp2_with fail
 refine (sgsome_any b hb _ _ HP1.out _).mono ?_
 rintro e W2 ⟨s,q2,o2,rfl,hg,hp,hbw⟩
 have HG2:=Lib.hid hg
 have HP2:=Lib.hid hp
 have HJ:=Lib.hid (HI.out.below hbw)
 clear hg hp hbw HI HP1 hc hf
 have hc:=HJ.out.run.cell 1
 have hf:=HJ.out.run.frozen 1
 simp only [List.getElem?_toArray,List.getElem?_cons_zero,List.getElem?_cons_succ] at hc
 have HI:Hid (Sg.RdD w #[.string i,.string s,.string ⟨#[]⟩,.int .i64 0,.int .u8 0,.int .i64 0,.bool false,.int .i64 0,.string ⟨#[]⟩] (W2.setCell ⟨w.heap.size+1,1,none⟩ (.string s))):=Lib.hid (HJ.out.set 1 (.string s))
 clear HJ
 go_wp2_with fail
 refine (sgsome_any b hb _ _ HP2.out _).mono ?_
 rintro e W3 ⟨a,q3,o3,rfl,hg,hp,hbw⟩
 have HG3:=Lib.hid hg
 have HP3:=Lib.hid hp
 have HJ:=Lib.hid (HI.out.below hbw)
 clear hg hp hbw HI HP2 hc hf
 have hc:=HJ.out.run.cell 2
 have hf:=HJ.out.run.frozen 2
 simp only [List.getElem?_toArray,List.getElem?_cons_zero,List.getElem?_cons_succ] at hc
 have HI:Hid (Sg.RdD w #[.string i,.string s,.string a,.int .i64 0,.int .u8 0,.int .i64 0,.bool false,.int .i64 0,.string ⟨#[]⟩] (W3.setCell ⟨w.heap.size+1,2,none⟩ (.string a))):=Lib.hid (HJ.out.set 2 (.string a))
 clear HJ
 go_wp2_with fail
 refine (sgdig_any b hb _ _ HP3.out 59 (by decide) _).mono ?_
 rintro e W4 ⟨n,q4,o4,rfl,hg,hp,hbw⟩
 have HG4:=Lib.hid hg
 have HP4:=Lib.hid hp
 have HJ:=Lib.hid (HI.out.below hbw)
 clear hg hp hbw HI HP3 hc hf
 have hc:=HJ.out.run.cell 3
 have hf:=HJ.out.run.frozen 3
 simp only [List.getElem?_toArray,List.getElem?_cons_zero,List.getElem?_cons_succ] at hc
 have HI:Hid (Sg.RdD w #[.string i,.string s,.string a,.int .i64 n,.int .u8 0,.int .i64 0,.bool false,.int .i64 0,.string ⟨#[]⟩] (W4.setCell ⟨w.heap.size+1,3,none⟩ (.int .i64 n))):=Lib.hid (HJ.out.set 3 (.int .i64 n))
 clear HJ
 go_wp2_with fail
 refine (sgdig_any b hb _ _ HP4.out 59 (by decide) _).mono ?_
 rintro e W5 ⟨p,q5,o5,rfl,hg,hp,hbw⟩
 have HG5:=Lib.hid hg
 have HP5:=Lib.hid hp
 have HJ:=Lib.hid (HI.out.below hbw)
 clear hg hp hbw HI HP4 hc hf
 have HI:=HJ
 clear HJ
 go_wp2_with fail
 refine (sgdig_any b hb _ _ HP5.out 59 (by decide) _).mono ?_
 rintro e W6 ⟨t,q6,o6,rfl,hg,hp,hbw⟩
 have HG6:=Lib.hid hg
 have HP6:=Lib.hid hp
 have HJ:=Lib.hid (HI.out.below hbw)
 clear hg hp hbw HI HP5
 have hc:=HJ.out.run.cell 5
 have hf:=HJ.out.run.frozen 5
 simp only [List.getElem?_toArray,List.getElem?_cons_zero,List.getElem?_cons_succ] at hc
 have HI:Hid (Sg.RdD w #[.string i,.string s,.string a,.int .i64 n,.int .u8 0,.int .i64 t,.bool false,.int .i64 0,.string ⟨#[]⟩] (W6.setCell ⟨w.heap.size+1,5,none⟩ (.int .i64 t))):=Lib.hid (HJ.out.set 5 (.int .i64 t))
 clear HJ
 go_wp2_with fail
 refine (sgdig_any b hb _ _ HP6.out 59 (by decide) _).mono ?_
 rintro e W7 ⟨f,q7,o7,rfl,hg,hp,hbw⟩
 have HG7:=Lib.hid hg
 have HP7:=Lib.hid hp
 have HJ:=Lib.hid (HI.out.below hbw)
 clear hg hp hbw HI HP6 hc hf
 have HI:=HJ
 clear HJ
 go_wp2_with fail
 refine (sgdig_any b hb _ _ HP7.out 59 (by decide) _).mono ?_
 rintro e W8 ⟨y,q8,o8,rfl,hg,hp,hbw⟩
 have HG8:=Lib.hid hg
 have HP8:=Lib.hid hp
 have HJ:=Lib.hid (HI.out.below hbw)
 clear hg hp hbw HI HP7
 have hc:=HJ.out.run.cell 7
 have hf:=HJ.out.run.frozen 7
 simp only [List.getElem?_toArray,List.getElem?_cons_zero,List.getElem?_cons_succ] at hc
 have HI:Hid (Sg.RdD w #[.string i,.string s,.string a,.int .i64 n,.int .u8 0,.int .i64 t,.bool false,.int .i64 y,.string ⟨#[]⟩] (W8.setCell ⟨w.heap.size+1,7,none⟩ (.int .i64 y))):=Lib.hid (HJ.out.set 7 (.int .i64 y))
 clear HJ
 go_wp2_with fail
 refine (sgsome_any b hb _ _ HP8.out _).mono ?_
 rintro e W9 ⟨v,q9,o9,rfl,hg,hp,hbw⟩
 have HG9:=Lib.hid hg
 have HP9:=Lib.hid hp
 have HJ:=Lib.hid (HI.out.below hbw)
 clear hg hp hbw HI HP8 hc hf
 have hc:=HJ.out.run.cell 8
 have hf:=HJ.out.run.frozen 8
 simp only [List.getElem?_toArray,List.getElem?_cons_zero,List.getElem?_cons_succ] at hc
 have HI:Hid (Sg.RdD w #[.string i,.string s,.string a,.int .i64 n,.int .u8 0,.int .i64 t,.bool false,.int .i64 y,.string v] (W9.setCell ⟨w.heap.size+1,8,none⟩ (.string v))):=Lib.hid (HJ.out.set 8 (.string v))
 clear HJ
 have hbl:b.data.toList.length≤9223372036854775807:=by
  have:b.data.toList.length=b.size:=by simp
  omega
 have HRL:=Lib.hid (Sg.readD_got hbl HG1.out HG2.out HG3.out HG4.out HG5.out HG6.out HG7.out HG8.out HG9.out)
 rw [HR.out] at HRL
 clear HG1 HG2 HG3 HG4 HG5 HG6 HG7 HG8 HG9 HR hbl
 go_upto_region 12 with (fail)
 refine wp_named (fun V hV=>?_)
 have HI9:Hid (Sg.RdD w #[.string i,.string s,.string a,.int .i64 n,.int .u8 0,.int .i64 t,.bool false,.int .i64 y,.string v] V):=Lib.hid (by rw [hV];exact HI.out)
 clear hV HI hc hf
 have hQ:=HI9.out.res
 have hQr:=Sg.bk hQ
 have hB:=HI9.out.bel
 have HAT:Hid ((o9=some []→q9=(b.size:Int))∧(q9=(b.size:Int)→o9=some [])):=Lib.hid (by
  have hbl:b.data.toList.length=b.size:=by simp
  rcases HP9.out with ⟨h1,h2⟩ | ⟨k,h1,h2,h3⟩
  ·refine ⟨fun h=>(by rw [h1] at h;cases h),fun h=>?_⟩
   omega
  ·rw [h3]
   refine ⟨fun h=>?_,fun h=>?_⟩
   ·injection h with h
    have:=congrArg List.length h
    rw [List.length_drop] at this
    simp at this
    omega
   ·rw [List.drop_of_length_le (by omega)])
 clear HP9
 by_cases hok:o9=some []∧0≤p∧p≤255∧0≤f∧f≤1
 case neg =>
  have HE:Hid (R=none):=Lib.hid (HRL.out.1 hok)
  clear HRL
  by_cases hq:q9=(b.size:Int)
  case neg =>
   have t0:(q9 != (b.size:Int))=true:=by rw [bne_iff_ne];exact hq
   clear HAT hok hq
   go_wp2_with ((with_reducible refine wpList_store_row rfl 54 _ _ rfl w.heap.size #[.string ⟨#[]⟩,.string ⟨#[]⟩,.string ⟨#[]⟩,.int .i64 0,.int .u8 0,.int .i64 0,.bool false,.int .i64 0,.string ⟨#[]⟩] (by kernel_rfl) (by kernel_rfl) 54 #[.string ⟨#[]⟩,.string ⟨#[]⟩,.string ⟨#[]⟩,.int .i64 0,.int .u8 0,.int .i64 0,.bool false,.int .i64 0,.string ⟨#[]⟩] hQr (by kernel_rfl) (by kernel_rfl) (by simp [Value.oneCell']) ?_))
   refine Sg.ret_ct rfl _ rfl _ _ _ (hQ.row _) Tryz.underlying54 rfl (by kernel_rfl) rfl ⟨?_,below_row hB (Nat.le_refl _) _⟩
   rw [HE.out]
   rfl
  have t0:(q9 != (b.size:Int))=false:=by rw [bne_eq_false_iff_eq];exact hq
  have hno:p<0∨255<p∨f<0∨1<f:=by
   have h9:=HAT.out.2 hq
   by_cases h1:p<0
   ·exact .inl h1
   ·by_cases h2:255<p
    ·exact .inr (.inl h2)
    ·by_cases h3:f<0
     ·exact .inr (.inr (.inl h3))
     ·by_cases h4:1<f
      ·exact .inr (.inr (.inr h4))
      ·exact absurd ⟨h9,by omega,by omega,by omega,by omega⟩ hok
  clear HAT hok hq
  by_cases h1:p<0
  ·go_wp2_with ((with_reducible refine wpList_store_row rfl 54 _ _ rfl w.heap.size #[.string ⟨#[]⟩,.string ⟨#[]⟩,.string ⟨#[]⟩,.int .i64 0,.int .u8 0,.int .i64 0,.bool false,.int .i64 0,.string ⟨#[]⟩] (by kernel_rfl) (by kernel_rfl) 54 #[.string ⟨#[]⟩,.string ⟨#[]⟩,.string ⟨#[]⟩,.int .i64 0,.int .u8 0,.int .i64 0,.bool false,.int .i64 0,.string ⟨#[]⟩] hQr (by kernel_rfl) (by kernel_rfl) (by simp [Value.oneCell']) ?_))
   refine Sg.ret_ct rfl _ rfl _ _ _ (hQ.row _) Tryz.underlying54 rfl (by kernel_rfl) rfl ⟨?_,below_row hB (Nat.le_refl _) _⟩
   rw [HE.out]
   rfl
  by_cases h2:255<p
  ·clear hno
   go_wp2_with ((with_reducible refine wpList_store_row rfl 54 _ _ rfl w.heap.size #[.string ⟨#[]⟩,.string ⟨#[]⟩,.string ⟨#[]⟩,.int .i64 0,.int .u8 0,.int .i64 0,.bool false,.int .i64 0,.string ⟨#[]⟩] (by kernel_rfl) (by kernel_rfl) 54 #[.string ⟨#[]⟩,.string ⟨#[]⟩,.string ⟨#[]⟩,.int .i64 0,.int .u8 0,.int .i64 0,.bool false,.int .i64 0,.string ⟨#[]⟩] hQr (by kernel_rfl) (by kernel_rfl) (by simp [Value.oneCell']) ?_))
   refine Sg.ret_ct rfl _ rfl _ _ _ (hQ.row _) Tryz.underlying54 rfl (by kernel_rfl) rfl ⟨?_,below_row hB (Nat.le_refl _) _⟩
   rw [HE.out]
   rfl
  by_cases h3:f<0
  ·clear hno
   go_wp2_with ((with_reducible refine wpList_store_row rfl 54 _ _ rfl w.heap.size #[.string ⟨#[]⟩,.string ⟨#[]⟩,.string ⟨#[]⟩,.int .i64 0,.int .u8 0,.int .i64 0,.bool false,.int .i64 0,.string ⟨#[]⟩] (by kernel_rfl) (by kernel_rfl) 54 #[.string ⟨#[]⟩,.string ⟨#[]⟩,.string ⟨#[]⟩,.int .i64 0,.int .u8 0,.int .i64 0,.bool false,.int .i64 0,.string ⟨#[]⟩] hQr (by kernel_rfl) (by kernel_rfl) (by simp [Value.oneCell']) ?_))
   refine Sg.ret_ct rfl _ rfl _ _ _ (hQ.row _) Tryz.underlying54 rfl (by kernel_rfl) rfl ⟨?_,below_row hB (Nat.le_refl _) _⟩
   rw [HE.out]
   rfl
  ·have h4:1<f:=by omega
   clear hno
   go_wp2_with ((with_reducible refine wpList_store_row rfl 54 _ _ rfl w.heap.size #[.string ⟨#[]⟩,.string ⟨#[]⟩,.string ⟨#[]⟩,.int .i64 0,.int .u8 0,.int .i64 0,.bool false,.int .i64 0,.string ⟨#[]⟩] (by kernel_rfl) (by kernel_rfl) 54 #[.string ⟨#[]⟩,.string ⟨#[]⟩,.string ⟨#[]⟩,.int .i64 0,.int .u8 0,.int .i64 0,.bool false,.int .i64 0,.string ⟨#[]⟩] hQr (by kernel_rfl) (by kernel_rfl) (by simp [Value.oneCell']) ?_))
   refine Sg.ret_ct rfl _ rfl _ _ _ (hQ.row _) Tryz.underlying54 rfl (by kernel_rfl) rfl ⟨?_,below_row hB (Nat.le_refl _) _⟩
   rw [HE.out]
   rfl
 obtain ⟨P8,HP8⟩:∃ P8:Nat,Hid ((p % 256).toNat=P8):=⟨_,Lib.hid rfl⟩
 obtain ⟨F,HF⟩:∃ F:Bool,Hid ((f==1)=F):=⟨_,Lib.hid rfl⟩
 have hrun:Sg.runOf (i,s,a,n,p,t,f,y,v)=⟨i,s,a,n,P8,t,F,y,v⟩:=by
  unfold Sg.runOf
  simp only [HP8.out,HF.out]
 have HE:Hid (R=some ⟨i,s,a,n,P8,t,F,y,v⟩):=Lib.hid (by rw [←hrun];exact HRL.out.2 hok)
 have t0:(q9 != (b.size:Int))=false:=by rw [bne_eq_false_iff_eq];exact HAT.out.1 hok.1
 have t1:¬p<0:=by omega
 have t2:¬255<p:=by omega
 have t3:¬f<0:=by omega
 have t4:¬1<f:=by omega
 have hwp:IntKind.u8.wrap p=(P8:Int):=by
  rw [←HP8.out]
  unfold IntKind.wrap
  simp [IntKind.bits,IntKind.signed]
  omega
 have c4:=HI9.out.run.cell 4
 have f4:=HI9.out.run.frozen 4
 have c6:=HI9.out.run.cell 6
 have f6:=HI9.out.run.frozen 6
 simp only [List.getElem?_toArray,List.getElem?_cons_zero,List.getElem?_cons_succ] at c4 c6
 clear HRL HAT hok hrun hQ hQr hB
 have hF:=HF.out
 go_upto_region 16 with (fail)
 refine wp_named (fun V2 hV=>?_)
 have HI:Hid (Sg.RdD w #[.string i,.string s,.string a,.int .i64 n,.int .u8 (P8:Nat),.int .i64 t,.bool F,.int .i64 y,.string v] V2):=Lib.hid (by rw [hV];exact (HI9.out.set 4 (.int .u8 (P8:Nat))).set 6 (.bool F))
 clear hV HI9 c4 f4 c6 f6 hwp hF HF HP8 t0 t1 t2 t3 t4
 have hQ:=HI.out.res
 have hQr:=Sg.bk hQ
 have hB:=HI.out.bel
 have hL:=Sg.bk HI.out.run
 go_wp2_with (first | (refine wpList_load_row rfl _ _ rfl _ rfl _ _ _ _ hL Tryz.underlying54 rfl (by kernel_rfl) ?_) | (refine wpList_store_row rfl 54 _ _ rfl w.heap.size #[.string i,.string s,.string a,.int .i64 n,.int .u8 (P8:Nat),.int .i64 t,.bool F,.int .i64 y,.string v] (by kernel_rfl) (by kernel_rfl) 54 #[.string ⟨#[]⟩,.string ⟨#[]⟩,.string ⟨#[]⟩,.int .i64 0,.int .u8 0,.int .i64 0,.bool false,.int .i64 0,.string ⟨#[]⟩] hQr (by kernel_rfl) (by kernel_rfl) (by simp [Value.oneCell']) ?_))
 refine Sg.ret_ct rfl _ rfl _ _ _ (hQ.row _) Tryz.underlying54 rfl (by kernel_rfl) rfl ⟨?_,below_row hB (Nat.le_refl _) _⟩
 rw [HE.out]
 rfl
end Go.Proofs.YtogijkhenihaaaaGreatDoor
set_option linter.unusedVariables false
set_option linter.unusedSimpArgs false
namespace Go.Proofs.YtogijkhenihaaaaGreatDoor
open Go.RowKit Go.BigFrame
/-- What a reading hands back, field by field. -/
theorem Sg.readV_cases (o:Option Sg.Run):∃ (i s a:ByteArray) (n:Int) (p:Nat) (t:Int) (st:Bool) (y:Int) (v:ByteArray) (ok:Bool),Sg.readV o=.tuple #[.agg #[.string i,.string s,.string a,.int .i64 n,.int .u8 (p:Nat),.int .i64 t,.bool st,.int .i64 y,.string v],.bool ok]:=by
 cases o with
 | none=>exact ⟨⟨#[]⟩,⟨#[]⟩,⟨#[]⟩,0,0,0,false,0,⟨#[]⟩,false,rfl⟩
 | some q=>exact ⟨q.id,q.saga,q.arg,q.at_,q.phase,q.tries,q.stop,q.why,q.value,true,rfl⟩
set_option maxRecDepth 100000 in
set_option maxHeartbeats 16000000 in
theorem sagaPacks_walk (r:Sg.Run) (b:ByteArray) (hok:r.ok) (hb:b.size≤maxLen) (w:World) (hk:Kw.L6 w) :
  Calls Tryz.prog 7 #[r.val,.string b] w fun e w'=>e=.returned (.bool true)∧Below w.heap.size w w':=by
 have HK:=Lib.hid hk
 have HOK:=Lib.hid hok
 have HGR:=Lib.hid (fun W=>sggreat0_any r W)
 have HPK:=Lib.hid (fun hz W hk=>sgpack_any r hok hz W hk)
 have HPD:=Lib.hid (fun hz W=>sgdpack_any r hok hz W)
 obtain ⟨PS,HPS⟩:∃ PS:ByteArray,Hid ((⟨(Sg.packL r).toArray⟩:ByteArray)=PS):=⟨_,Lib.hid rfl⟩
 rw [HPS.out] at HPK HPD
 clear hk hok
 obtain ⟨id0,s,a,n,p,t,st,y,v⟩:=r
 unfold Sg.Run.val Sg.Run.cells at HGR HPK HPD ⊢
 simp only at HGR HPK HPD ⊢
 go_enter Tryz.func7,Tryz.ntmps7
 go_upto_region 1 with (fail)
 refine wp_named (fun V hV=>?_)
 obtain ⟨hbV,hq,-⟩:=fresh_box hV
 have HB:=Lib.hid hbV
 have hL:=Sg.bk hq
 clear hV hbV
 go_wp2_with (refine wpList_load_row rfl _ _ rfl _ rfl _ _ _ _ hL Tryz.underlying54 rfl (by kernel_rfl) ?_)
 refine (HGR.out V).mono ?_
 rintro e W1 ⟨g,rfl,hb1,hg⟩
 have HB1:=Lib.hid (HB.out.trans (hb1.mono HB.out.size))
 have HQ1:=Lib.hid (hq.below hb1 hq.lt)
 have HG:=Lib.hid hg
 clear hb1 hg hL hq HGR HB
 cases g with
 | true =>
  go_wp2_with fail
  refine (sgwk_any _ (HK.out.below HB1.out)).mono ?_
  rintro e W2 ⟨rfl,hb2⟩
  go_wp2_with fail
  go_ret
  exact ⟨rfl,HB1.out.trans (hb2.mono HB1.out.size)⟩
 | false =>
  have HSZ:=Lib.hid (HG.out rfl)
  have hz4:id0.size≤1000000∧s.size≤1000000∧a.size≤1000000∧v.size≤1000000:=⟨Nat.le_trans HSZ.out.1 (by decide),Nat.le_trans HSZ.out.2.1 (by decide),Nat.le_trans HSZ.out.2.2.1 (by decide),Nat.le_trans HSZ.out.2.2.2 (by decide)⟩
  have HPK2:=Lib.hid (HPK.out hz4)
  have HPD2:=Lib.hid (HPD.out hz4)
  clear HG HPK HPD HSZ hz4
  by_cases h9:9000<b.size
  case' pos =>
   have h9i:(9000:Int)<(b.size:Int):=by omega
   go_upto_region 5 with (fail)
   obtain ⟨c,Hc⟩:∃ c,Hid (b.extract 0 9000=c):=⟨_,Lib.hid rfl⟩
   rw [Hc.out]
   have hc:c.size≤1000000:=by rw [←Hc.out,ByteArray.size_extract];omega
   clear Hc h9 h9i
  case' neg =>
   have h9i:¬(9000:Int)<(b.size:Int):=by omega
   go_upto_region 5 with (fail)
   obtain ⟨c,rfl⟩:∃ c,c=b:=⟨_,rfl⟩
   have hc:c.size≤1000000:=by omega
   clear h9 h9i
  all_goals
   have HC:=Lib.hid hc
   obtain ⟨i2,s2,a2,n2,p2,t2,st2,y2,v2,ok2,e2⟩:=Sg.readV_cases (Sg.readL c.data.toList)
   have hrp:=fun W hk=>sgread_any c hc W hk
   have hrd:=fun W=>sgdread_any c hc W
   rw [e2] at hrp hrd
   have HRP:=Lib.hid hrp
   have HRD:=Lib.hid hrd
   clear hrp hrd e2 hc
   go_wp2_with fail
   refine (HRP.out _ (HK.out.below HB1.out)).mono ?_
   rintro e W2 ⟨rfl,hb2⟩
   have HB2:=Lib.hid (HB1.out.trans (hb2.mono HB1.out.size))
   have HQ2:=Lib.hid (HQ1.out.below hb2 HQ1.out.lt)
   clear hb2
   go_upto_region 6 with (fail)
   refine wp_named (fun V3 hV=>?_)
   obtain ⟨hb3,hq3,-⟩:=fresh_box hV
   have HB3:=Lib.hid (HB2.out.trans (hb3.mono HB2.out.size))
   have HQ3:=Lib.hid (HQ2.out.below hb3 HQ2.out.lt)
   have HX3:=Lib.hid hq3
   clear hV hb3 hq3
   go_wp2_with fail
   refine (HRD.out _).mono ?_
   rintro e W4 ⟨rfl,hb4⟩
   have HB4:=Lib.hid (HB3.out.trans (hb4.mono HB3.out.size))
   have HQ4:=Lib.hid (HQ3.out.below hb4 HQ3.out.lt)
   have HX4:=Lib.hid (HX3.out.below hb4 HX3.out.lt)
   clear hb4
   go_upto_region 7 with (fail)
   refine wp_named (fun V5 hV=>?_)
   obtain ⟨hb5,hq5,-⟩:=fresh_box hV
   have HB5:=Lib.hid (HB4.out.trans (hb5.mono HB4.out.size))
   have HQ5:=Lib.hid (HQ4.out.below hb5 HQ4.out.lt)
   have HX5:=Lib.hid (HX4.out.below hb5 HX4.out.lt)
   have HY5:=Lib.hid hq5
   clear hV hb5 hq5
   have d2:=fun (w':World) (hb:Bl V5 w')=>HQ5.out.below hb HQ5.out.lt
   have d5:=fun (w':World) (hb:Bl V5 w')=>HX5.out.below hb HX5.out.lt
   have d7:=fun (w':World) (hb:Bl V5 w')=>HY5.out.below hb HY5.out.lt
   have HLK:=Lib.hid (fun (w':World) (hb:Bl V5 w')=>HK.out.below (HB5.out.trans (Below.mono hb HB5.out.size)))
   refine wp_region_bl V5 (by kernel_rfl) (by kernel_rfl) (Bl.refl _) ?_
   repeat (first | go_big_quiet_step ((intro hb;first | (go_at_call 34;exact calls_bl hb (HPK2.out _ (HLK.out _ hb))) | (go_at_call 35;exact calls_bl hb (HPD2.out _)) | (go_at_call 21;exact calls_bl hb (sgwk_any _ (HLK.out _ hb))))) | (refine wpQuiet_step (fun K hK=>?_);rw [if_pos (by rfl)];refine quiet_load_row _ _ rfl _ rfl _ _ _ (by assumption) Tryz.underlying54 rfl (by kernel_rfl) ?_;go_simp;refine hK _ ?_;clear hK K) | (refine wpQuiet_step (fun K hK=>?_);go_simp;refine ⟨_,fun _ _=>rfl,hK _ ?_⟩;clear hK K))
   refine wpQuiet_nil ?_
   intro W9 hW9
   have HB9:=Lib.hid (HB5.out.trans (Below.mono hW9 HB5.out.size))
   clear d2 d5 d7
   go_wp2_with fail
   go_ret
   exact ⟨rfl,HB9.out⟩
end Go.Proofs.YtogijkhenihaaaaGreatDoor
