/- saga's reader: number, text. No condition but the tables' and the ones the theorems state. -/
import Derived.Test.YtogijkhenihaaaaGreatDoorGP27
import Derived.Test.YtogijkhenihaaaaGreatDoorGP26
set_option linter.unusedVariables false
set_option linter.unusedSimpArgs false
namespace Go.Proofs.YtogijkhenihaaaaGreatDoor
open Go.RowKit Go.BigFrame
namespace Sg
theorem ix_cut (c:UInt8):∀ l:List UInt8,(Lib.indexByte l c=-1∧¬c∈l∧l.takeWhile (· != c)=l∧l.dropWhile (· != c)=[])∨∃ i:Nat,Lib.indexByte l c=i∧i<l.length∧c∈l∧l.takeWhile (· != c)=l.take i∧(l.dropWhile (· != c)).drop 1=l.drop (i+1)
 | []=>.inl ⟨rfl,by simp,rfl,rfl⟩
 | b::l=>by
  by_cases hb:b=c
  ·subst hb
   refine .inr ⟨0,?_,by simp,by simp,by simp [List.takeWhile_cons],by simp [List.dropWhile_cons]⟩
   unfold Lib.indexByte
   simp
  ·have h1:(b==c)=false:=by simpa using hb
   have h2:(b != c)=true:=by simpa using hb
   have h3:∀ {p:Prop},(c∈b::l↔c∈l):=by
    intro p
    rw [List.mem_cons]
    exact ⟨fun h=>h.resolve_left (fun e=>hb e.symm),.inr⟩
   rw [List.takeWhile_cons,List.dropWhile_cons,if_pos h2,if_pos h2,h3 (p:=True)]
   rcases ix_cut c l with ⟨e1,e2,e3,e4⟩ | ⟨i,e1,hi,e2,e3,e4⟩
   ·left
    unfold Lib.indexByte
    rw [h1,e1,e3,e4]
    exact ⟨rfl,e2,rfl,rfl⟩
   ·right
    refine ⟨i+1,?_,by simp;omega,e2,by rw [e3];rfl,by rw [e4];rfl⟩
    unfold Lib.indexByte
    rw [h1,e1]
    have:((i:Int)==-1)=false:=by rw [beq_eq_false_iff_ne];omega
    rw [this]
    simp
def upto (c:UInt8) (s:ByteArray):ByteArray:=⟨(s.data.toList.takeWhile (· != c)).toArray⟩
def past (c:UInt8) (s:ByteArray):ByteArray:=⟨((s.data.toList.dropWhile (· != c)).drop 1).toArray⟩
def has (c:UInt8) (s:ByteArray):Bool:=decide (c∈s.data.toList)
end Sg
set_option maxRecDepth 100000 in
set_option maxHeartbeats 4000000 in
theorem sgcut0_any (s:ByteArray) (c:UInt8) (hs:s.size≤1000000) (w:World):Calls Tryz.prog 193 #[.string s,.string ⟨#[c]⟩] w fun e w'=>e=.returned (.tuple #[.string (Sg.upto c s),.string (Sg.past c s),.bool (Sg.has c s)])∧Below w.heap.size w w':=by
 have HIX:=Lib.hid (Tryz.stringslite_Index_one s c w)
 have hll:s.data.toList.length=s.size:=by simp
 have hc1:(⟨#[c]⟩:ByteArray).size=1:=rfl
 unfold Sg.upto Sg.past Sg.has
 rcases Sg.ix_cut c s.data.toList with ⟨e1,e2,e3,e4⟩ | ⟨i,e1,hi,e2,e3,e4⟩
 ·rw [e1] at HIX
  rw [e3,e4,decide_eq_false e2]
  have HE:Hid ((⟨s.data.toList.toArray⟩:ByteArray)=s):=Lib.hid (by cases s;simp)
  rw [HE.out]
  clear hc1 hll e1 e2 e3 e4 HE
  go_enter Tryz.func193,Tryz.ntmps193
  go_wp2_with fail
  refine HIX.out.mono ?_
  rintro e w1 ⟨rfl,rfl⟩
  go_wp2_with fail
  go_ret3
  exact ⟨rfl,Below.refl _ _⟩
 ·rw [e1] at HIX
  rw [e3,e4,decide_eq_true e2]
  rw [hll] at hi
  have HE1:Hid ((⟨(s.data.toList.take i).toArray⟩:ByteArray)=s.extract 0 i):=Lib.hid (by apply ByteArray.ext;apply Array.ext';simp)
  have HE2:Hid ((⟨(s.data.toList.drop (i+1)).toArray⟩:ByteArray)=s.extract (i+1) s.size):=Lib.hid (by apply ByteArray.ext;apply Array.ext';simp [List.take_of_length_le])
  rw [HE1.out,HE2.out]
  have i0:(0:Int)≤(i:Int):=by omega
  have i1:(i:Int)≤(s.size:Int):=by omega
  have i2:(i:Int)+1≤(s.size:Int):=by omega
  have i3:(0:Int)≤(i:Int)+1:=by omega
  have i4:((i:Int)+1).toNat=i+1:=by omega
  have hw:IntKind.i64.wrap ((i:Int)+1)=(i:Int)+1:=by rw [IntKind.wrap_i64];omega
  clear hll e1 e2 e3 e4
  go_enter Tryz.func193,Tryz.ntmps193
  go_wp2_with fail
  refine HIX.out.mono ?_
  rintro e w1 ⟨rfl,rfl⟩
  go_wp2_with fail
  go_quiet (fail)
  go_wp2_with fail
  go_ret3
  exact ⟨rfl,below_drewN (Below.refl _ _) _⟩
set_option maxRecDepth 100000 in
set_option maxHeartbeats 4000000 in
theorem sgcut_any (s:ByteArray) (c:UInt8) (hs:s.size≤1000000) (w:World):Calls Tryz.prog 157 #[.string s,.string ⟨#[c]⟩] w fun e w'=>e=.returned (.tuple #[.string (Sg.upto c s),.string (Sg.past c s),.bool (Sg.has c s)])∧Below w.heap.size w w':=by
 obtain ⟨a,Ha⟩:∃ a,Hid (Sg.upto c s=a):=⟨_,Lib.hid rfl⟩
 obtain ⟨b,Hb⟩:∃ a,Hid (Sg.past c s=a):=⟨_,Lib.hid rfl⟩
 obtain ⟨h,Hh⟩:∃ a,Hid (Sg.has c s=a):=⟨_,Lib.hid rfl⟩
 have HC:=Lib.hid (sgcut0_any s c hs w)
 rw [Ha.out,Hb.out,Hh.out] at HC ⊢
 go_enter Tryz.func157,Tryz.ntmps157
 go_wp2_with fail
 refine HC.out.mono ?_
 rintro e w1 ⟨rfl,hb⟩
 go_wp2_with fail
 go_ret3
 exact ⟨rfl,hb⟩
namespace Sg
theorem bytes_below (w:World) (e:TypeId) (s:ByteArray):Below w.heap.size w (Lib.bytesWorld w e s) :=
 ⟨rfl,rfl,rfl,by rw [Lib.bytesWorld_size];omega,fun i hi=>Lib.bytesWorld_at_old w e s i hi⟩
/-- What Atoi tells: the number, and whether it is one. -/
def atoiV (l:List UInt8):Option Int:=match Lib.atoiAll l with
 | .ok v=>some v
 | _=>none
end Sg
/-- strconv.Atoi at any text. -/
theorem sgatoi_any (s:ByteArray) (hs:s.size≤1000000) (w:World) (hk:Kw.L6 w):Calls Tryz.prog 158 #[.string s] w fun e w'=>∃ (n:Int) (ev:Value),e=.returned (.tuple #[.int .i64 n,ev])∧(-9223372036854775808≤n∧n≤9223372036854775807)∧((Sg.atoiV s.data.toList=some n∧ev=.nilIface)∨(Sg.atoiV s.data.toList=none∧∃ t p,ev=.iface t p))∧Below w.heap.size w w':=by
 unfold Sg.atoiV
 rcases h:Lib.atoiAll s.data.toList with v | _ | _
 ·refine (Tryz.strconv_Atoi_ok s (by omega) v h w).mono ?_
  rintro e w' ⟨rfl,hw⟩
  refine ⟨v,.nilIface,rfl,Lib.atoiAll_bounds h,.inl ⟨rfl,rfl⟩,?_⟩
  rcases hw with rfl | ⟨t,rfl⟩
  ·exact Below.refl _ _
  ·exact Sg.bytes_below _ _ _
 ·obtain ⟨ev,hv,hev⟩:=hk.es
  refine (show (Calls Tryz.prog 158 #[.string s] w fun e w'=>∃ N,e=.returned (.tuple #[.int .i64 (0),.iface 293 (.pointer (some ⟨N,0,none⟩))])∧w.heap.size≤N∧w'.heap[N]?=some (.cells #[.string ⟨#[65,116,111,105]⟩,.string s,ev] 314 (0,0))∧Below w.heap.size w w') from Any.strconv_Atoi_syntax Tryz.laysC172 s (by omega) h ev w hv hev).mono ?_
  rintro e w' ⟨N,rfl,-,-,hb⟩
  exact ⟨0,_,rfl,by decide,.inr ⟨rfl,_,_,rfl⟩,hb⟩
 ·obtain ⟨ev,hv,hev⟩:=hk.er
  refine (Tryz.strconv_Atoi_range s (by omega) h ev w hv hev).mono ?_
  rintro e w' ⟨N,rfl,-,-,hb⟩
  exact ⟨_,_,rfl,Lib.atoiSat_bounds _,.inr ⟨rfl,_,_,rfl⟩,hb⟩
namespace Sg
/-- The reader at a rest; none: it has noted a fault. -/
def RdS (w:World) (g M:Nat) (o:Option (List UInt8)):Prop:=∃ (b:ByteArray) (bad:Bool),b.size≤M∧Bk w g 148 #[.string b,.bool bad]∧o=if bad=true then none else some b.data.toList
theorem RdS.below {w w':World} {g M:Nat} {o:Option (List UInt8)} (h:RdS w g M o) (hb:Below w.heap.size w w'):RdS w' g M o:=by
 obtain ⟨b,bad,h1,h2,h3⟩:=h
 exact ⟨b,bad,h1,h2.below hb h2.lt,h3⟩
theorem past_len (c:UInt8) (b:ByteArray):(past c b).size≤b.size:=by
 unfold past
 show ((b.data.toList.dropWhile (· != c)).drop 1).toArray.size≤_
 rw [List.size_toArray,List.length_drop]
 have h:=(List.dropWhile_sublist (· != c) (l:=b.data.toList)).length_le
 have hl:b.data.toList.length=b.size:=by simp
 omega
theorem upto_len (c:UInt8) (b:ByteArray):(upto c b).size≤b.size:=by
 unfold upto
 show (b.data.toList.takeWhile (· != c)).toArray.size≤_
 rw [List.size_toArray]
 have h:=(List.takeWhile_sublist (· != c) (l:=b.data.toList)).length_le
 have hl:b.data.toList.length=b.size:=by simp
 omega
theorem pNum_atoi (c:UInt8) (b:ByteArray):pNum c b.data.toList=if has c b=true then (atoiV (upto c b).data.toList).map fun v=>(v,(past c b).data.toList) else none:=by
 unfold pNum has atoiV upto past
 by_cases h:c∈b.data.toList
 ·rw [if_pos h,if_pos (decide_eq_true h)]
  simp only
  cases Lib.atoiAll (b.data.toList.takeWhile (· != c)) <;> rfl
 ·rw [if_neg h,if_neg (by simpa using h)]
theorem got_num {c:UInt8} {b:ByteArray} {bad:Bool} {n:Int} (h:atoiV (upto c b).data.toList=some n∨atoiV (upto c b).data.toList=none) :
  Got (pNum c) (if bad=true then none else some b.data.toList) n (if (bad||!has c b||(atoiV (upto c b).data.toList).isNone)=true then none else some (past c b).data.toList):=by
 cases bad with
 | true=>exact ⟨rfl,fun q hq=>by cases hq⟩
 | false =>
  have e:=pNum_atoi c b
  cases hh:has c b with
  | false =>
   rw [hh] at e
   refine ⟨?_,fun q hq=>?_⟩
   ·show ((some b.data.toList).bind (pNum c)).map _=none
    rw [Option.bind_some,e]
    rfl
   ·have hq:(some b.data.toList).bind (pNum c)=some q:=hq
    rw [Option.bind_some,e] at hq
    cases hq
  | true =>
   rw [hh,if_pos rfl] at e
   rcases h with h | h
   ·rw [h] at e ⊢
    refine ⟨?_,fun q hq=>?_⟩
    ·show ((some b.data.toList).bind (pNum c)).map _=some _
     rw [Option.bind_some,e]
     rfl
    ·have hq:(some b.data.toList).bind (pNum c)=some q:=hq
     rw [Option.bind_some,e] at hq
     injection hq with hq
     rw [←hq]
   ·rw [h] at e ⊢
    refine ⟨?_,fun q hq=>?_⟩
    ·show ((some b.data.toList).bind (pNum c)).map _=none
     rw [Option.bind_some,e]
     rfl
    ·have hq:(some b.data.toList).bind (pNum c)=some q:=hq
     rw [Option.bind_some,e] at hq
     cases hq
/-- What reading a number leaves. -/
structure NumP (w w':World) (g M:Nat) (c:UInt8) (o:Option (List UInt8)) (n:Int) (o':Option (List UInt8)):Prop where
 got:Got (pNum c) o n o'
 st:RdS w' g M o'
 gb:w.grownBy w' (some g)
 rng:-9223372036854775808≤n∧n≤9223372036854775807
def numE (w:World) (g M:Nat) (c:UInt8) (o:Option (List UInt8)) (e:Ending) (w':World):Prop:=∃ n o',e=.returned (.int .i64 n)∧NumP w w' g M c o n o'
end Sg
set_option maxRecDepth 100000 in
set_option maxHeartbeats 8000000 in
theorem sgnum_any (W0 w:World) (hk:Kw.L6 W0) (hW:Below W0.heap.size W0 w) (g M:Nat) (hM:M≤1000000) (c:UInt8) (o:Option (List UInt8)) (h:Sg.RdS w g M o) :
  Calls Tryz.prog 83 #[.pointer (some ⟨g,0,none⟩),.string ⟨#[c]⟩] w (Sg.numE w g M c o):=by
 obtain ⟨b,bad,hb,hbk,rfl⟩:=h
 have HK:=Lib.hid hk
 have HW:=Lib.hid hW
 have HBK:=Lib.hid hbk
 have HAL:=Lib.hid (Sg.upto_len c b)
 have HPL:=Lib.hid (Sg.past_len c b)
 have HG:=fun (n:Int)=>Sg.got_num (c:=c) (b:=b) (bad:=bad) (n:=n)
 have HCUT:=fun W=>sgcut_any b c (by omega) W
 have HATO:=fun W hk=>sgatoi_any (Sg.upto c b) (by have:=HAL.out;omega) W hk
 obtain ⟨O,HO⟩:∃ o,Hid ((if bad=true then none else some b.data.toList)=o):=⟨_,Lib.hid rfl⟩
 simp only [HO.out] at HG ⊢
 clear HO
 obtain ⟨A,HA⟩:∃ a,Hid (Sg.upto c b=a):=⟨_,Lib.hid rfl⟩
 obtain ⟨R,HR⟩:∃ a,Hid (Sg.past c b=a):=⟨_,Lib.hid rfl⟩
 obtain ⟨F,HF⟩:∃ a,Hid (Sg.has c b=a):=⟨_,Lib.hid rfl⟩
 simp only [HA.out,HR.out,HF.out] at HCUT HG HATO
 rw [HR.out] at HPL
 have HCUT:=Lib.hid HCUT
 have HATO:=Lib.hid HATO
 have HG:=Lib.hid HG
 obtain ⟨⟨c0,c1⟩,-⟩:=hbk.k2
 clear hk hW hbk
 go_enter Tryz.func83,Tryz.ntmps83
 go_wp2_with fail
 refine (HCUT.out _).mono ?_
 rintro e W1 ⟨rfl,hb1⟩
 have HB1:=Lib.hid hb1
 clear hb1 c0 c1
 go_wp2_with fail
 refine (HATO.out _ (HK.out.below (HW.out.trans (HB1.out.mono HW.out.size)))).mono ?_
 rintro e W2 ⟨n,ev,rfl,hn,hev,hb2⟩
 have HB2:Hid (Below w.heap.size w W2):=Lib.hid (HB1.out.trans (hb2.mono HB1.out.size))
 have HN:=Lib.hid hn
 have HBK2:=Lib.hid (HBK.out.below HB2.out HBK.out.lt)
 clear hb2 hn HB1 HATO HCUT
 obtain ⟨⟨c0,c1⟩,f0,f1⟩:=HBK2.out.k2
 have hend:∀ bad':Bool,(bad'=(bad||!F||(Sg.atoiV A.data.toList).isNone))→Sg.NumP w (((W2.setCell ⟨g,0,none⟩ (.string R)).setCell ⟨g,1,none⟩ (.bool bad')).drew) g M c O n (if bad'=true then none else some R.data.toList):=by
  intro bad' hbad
  refine ⟨?_,⟨R,bad',by have:=HPL.out;omega,((HBK2.out.set_ 0 (.string R)).set_ 1 (.bool bad')).drew,rfl⟩,?_,HN.out⟩
  ·rw [hbad]
   exact HG.out n (by rcases hev with ⟨h,-⟩ | ⟨h,-⟩;exact .inl h;exact .inr h)
  ·exact gb_drew (gb_set (gb_set (gb_below HB2.out (some g)) (.inl rfl) _) (.inl rfl) _)
 have HEND:=Lib.hid hend
 clear hend
 clear HG HAL HPL HA HR HF
 cases bad <;> cases F <;> rcases hev with ⟨ha,rfl⟩ | ⟨ha,te,pe,rfl⟩
 all_goals
  rw [ha] at HEND
  clear ha
  go_wp2_with fail
  go_region
  go_wp2_with fail
  go_ret
  exact ⟨n,_,rfl,HEND.out _ rfl⟩
namespace Sg
theorem got_bind {o:Option (List UInt8)} {n:Int} {o1:Option (List UInt8)} (h:Got (pNum 58) o n o1):(o1=none→o.bind (pNum 58)=none)∧∀ l1,o1=some l1→o.bind (pNum 58)=some (n,l1):=by
 have h1:=h.rest
 have h2:=h.val
 cases hq:o.bind (pNum 58) with
 | none =>
  rw [hq] at h1
  exact ⟨fun _=>rfl,fun l1 e=>(by rw [e] at h1;cases h1)⟩
 | some q =>
  rw [hq] at h1
  have h3:=h2 q hq
  refine ⟨fun e=>(by rw [e] at h1;cases h1),fun l1 e=>?_⟩
  rw [e] at h1
  have h1:some q.2=some l1:=h1
  injection h1 with h1
  rw [h3,←h1]
theorem ptxt_bind (o:Option (List UInt8)):o.bind pTxt=(o.bind (pNum 58)).bind fun q=>if q.1<0∨(q.2.length:Int)<q.1 then none else some (⟨(q.2.take q.1.toNat).toArray⟩,q.2.drop q.1.toNat):=by
 cases o <;> rfl
theorem got_txt0 {o:Option (List UInt8)} {n:Int} {s:ByteArray} (h:Got (pNum 58) o n none):Got pTxt o s none:=by
 have h1:o.bind pTxt=none:=by rw [ptxt_bind,(got_bind h).1 rfl];rfl
 exact ⟨by rw [h1];rfl,fun q hq=>by rw [h1] at hq;cases hq⟩
theorem got_txt1 {o:Option (List UInt8)} {n:Int} {s:ByteArray} {l1:List UInt8} (h:Got (pNum 58) o n (some l1)) (hn:n<0∨(l1.length:Int)<n):Got pTxt o s none:=by
 have h1:o.bind pTxt=none:=by
  rw [ptxt_bind,(got_bind h).2 l1 rfl]
  show (if n<0∨(l1.length:Int)<n then none else _)=none
  rw [if_pos hn]
 exact ⟨by rw [h1];rfl,fun q hq=>by rw [h1] at hq;cases hq⟩
theorem got_txt2 {o:Option (List UInt8)} {n:Int} {l1:List UInt8} (h:Got (pNum 58) o n (some l1)) (hn:¬(n<0∨(l1.length:Int)<n)):Got pTxt o ⟨(l1.take n.toNat).toArray⟩ (some (l1.drop n.toNat)):=by
 have h1:o.bind pTxt=some (⟨(l1.take n.toNat).toArray⟩,l1.drop n.toNat):=by
  rw [ptxt_bind,(got_bind h).2 l1 rfl]
  show (if n<0∨(l1.length:Int)<n then none else _)=_
  rw [if_neg hn]
 exact ⟨by rw [h1];rfl,fun q hq=>by rw [h1] at hq;injection hq with hq;rw [←hq]⟩
/-- What reading a text leaves. -/
structure TextP (w w':World) (g M:Nat) (o:Option (List UInt8)) (s:ByteArray) (o':Option (List UInt8)):Prop where
 got:Got pTxt o s o'
 st:RdS w' g M o'
 gb:w.grownBy w' (some g)
 len:s.size≤M
def textE (w:World) (g M:Nat) (o:Option (List UInt8)) (e:Ending) (w':World):Prop:=∃ s o',e=.returned (.string s)∧TextP w w' g M o s o'
end Sg
set_option maxRecDepth 100000 in
set_option maxHeartbeats 8000000 in
theorem sgtext_any (W0 w:World) (hk:Kw.L6 W0) (hW:Below W0.heap.size W0 w) (g M:Nat) (hM:M≤1000000) (o:Option (List UInt8)) (h:Sg.RdS w g M o) :
  Calls Tryz.prog 82 #[.pointer (some ⟨g,0,none⟩)] w (Sg.textE w g M o):=by
 have HNUM:=Lib.hid (sgnum_any W0 w hk hW g M hM 58 o h)
 clear hk hW h
 go_enter Tryz.func82,Tryz.ntmps82
 go_wp2_with fail
 refine HNUM.out.mono ?_
 rintro e W1 ⟨n,o1,rfl,hP⟩
 obtain ⟨hgot,⟨b,bad,hb,hbk,ho1⟩,hgb,hrng⟩:=hP
 have HBK:=Lib.hid hbk
 have HGB:=Lib.hid hgb
 have HGOT:=Lib.hid hgot
 have HRNG:=Lib.hid hrng
 clear HNUM hgb hgot hrng
 obtain ⟨⟨c0,c1⟩,f0,f1⟩:=hbk.k2
 clear hbk
 have HFAIL:Hid (∀ s:ByteArray,s.size≤M→Sg.Got Sg.pTxt o s none→Sg.TextP w (W1.setCell ⟨g,1,none⟩ (.bool true)) g M o s none):=Lib.hid (fun s hs hg=>⟨hg,⟨b,true,hb,HBK.out.set_ 1 (.bool true),rfl⟩,gb_set HGB.out (.inl rfl) _,hs⟩)
 have hz0:(⟨#[]⟩:ByteArray).size≤M:=Nat.zero_le _
 have HZ0:=Lib.hid hz0
 clear hz0
 cases bad
 case true =>
  have HG2:Hid (Sg.TextP w (W1.setCell ⟨g,1,none⟩ (.bool true)) g M o ⟨#[]⟩ none):=Lib.hid (HFAIL.out _ HZ0.out (Sg.got_txt0 (by have h:=HGOT.out;rw [ho1] at h;exact h)))
  clear HFAIL HGOT ho1
  go_wp2_with fail
  go_ret
  exact ⟨_,_,rfl,HG2.out⟩
 have HGOT1:Hid (Sg.Got (Sg.pNum 58) o n (some b.data.toList)):=Lib.hid (by have h:=HGOT.out;rw [ho1] at h;exact h)
 have hll:(b.data.toList.length:Int)=b.size:=by simp
 have HLL:=Lib.hid hll
 clear hll HGOT ho1
 by_cases hn0:n<0
 ·have HG2:Hid (Sg.TextP w (W1.setCell ⟨g,1,none⟩ (.bool true)) g M o ⟨#[]⟩ none):=Lib.hid (HFAIL.out _ HZ0.out (Sg.got_txt1 HGOT1.out (.inl hn0)))
  clear HFAIL HGOT1
  go_wp2_with fail
  go_ret
  exact ⟨_,_,rfl,HG2.out⟩
 by_cases hnb:(b.size:Int)<n
 ·have HG2:Hid (Sg.TextP w (W1.setCell ⟨g,1,none⟩ (.bool true)) g M o ⟨#[]⟩ none):=Lib.hid (HFAIL.out _ HZ0.out (Sg.got_txt1 HGOT1.out (.inr (by rw [HLL.out];exact hnb))))
  clear HFAIL HGOT1
  go_wp2_with fail
  go_ret
  exact ⟨_,_,rfl,HG2.out⟩
 have HGOT2:=Lib.hid (Sg.got_txt2 HGOT1.out (by rw [HLL.out];omega))
 clear HFAIL HGOT1
 have i0:(0:Int)≤n:=by omega
 have i1:n≤(b.size:Int):=by omega
 obtain ⟨m,rfl⟩:∃ m:Nat,n=m:=⟨n.toNat,by omega⟩
 rw [Int.toNat_natCast] at HGOT2
 have HE1:Hid ((⟨(b.data.toList.take m).toArray⟩:ByteArray)=b.extract 0 m):=Lib.hid (by apply ByteArray.ext;apply Array.ext';simp)
 have HE2:Hid (b.data.toList.drop m=(b.extract m b.size).data.toList):=Lib.hid (by simp [List.take_of_length_le])
 rw [HE1.out,HE2.out] at HGOT2
 have hx1:(b.extract 0 m).size≤M:=by rw [ByteArray.size_extract];omega
 have hx2:(b.extract m b.size).size≤M:=by rw [ByteArray.size_extract];omega
 have HG2:Hid (Sg.TextP w (W1.setCell ⟨g,0,none⟩ (.string (b.extract m b.size))) g M o (b.extract 0 m) (some (b.extract m b.size).data.toList)):=Lib.hid ⟨HGOT2.out,⟨_,false,hx2,HBK.out.set_ 0 (.string (b.extract m b.size)),rfl⟩,gb_set HGB.out (.inl rfl) _,hx1⟩
 clear HGOT2 hx1 hx2 HE1 HE2
 go_wp2_with fail
 go_ret
 exact ⟨_,_,rfl,HG2.out⟩
end Go.Proofs.YtogijkhenihaaaaGreatDoor
set_option linter.unusedVariables false
set_option linter.unusedSimpArgs false
namespace Go.Proofs.YtogijkhenihaaaaGreatDoor
open Go.RowKit Go.BigFrame
namespace Sg
open Go.Proofs.YtogijkhenihaaaaGreatDoor.Id Go.Proofs.YtogijkhenihaaaaGreatDoor.Chk Go.Proofs.YtogijkhenihaaaaGreatDoor.Ev Go.Proofs.YtogijkhenihaaaaGreatDoor.Sd
/-- A run with what it leans on, as it lies. -/
def rv (r:Run) (s0 s1 s2 s3:Value) (fr:Int):Array Value:=#[.string r.id,.string r.saga,.string r.arg,.int .i64 r.at_,.int .u8 (r.phase:Nat),.int .i64 r.tries,.bool r.stop,.int .i64 r.why,.string r.value,s0,s1,s2,s3,.int .i64 fr]
theorem part_run (r:Run) (s0 s1 s2 s3:Value) (fr:Int):∀ (j:Nat) (v:Value),r.cells.toList[j]?=some v→(rv r s0 s1 s2 s3 fr)[0+j]?=some v:=fun j v h=>by
 rw [Nat.zero_add]
 match j,h with
 | 0,h | 1,h | 2,h | 3,h | 4,h | 5,h | 6,h | 7,h | 8,h=>exact h
 | n+9,h=>cases h
theorem part_sch (r:Run) (s0 s1 s2 s3:Value) (fr:Int):∀ (j:Nat) (v:Value),(#[s0,s1,s2,s3]:Array Value).toList[j]?=some v→(rv r s0 s1 s2 s3 fr)[9+j]?=some v:=fun j v h=>by
 match j,h with
 | 0,h | 1,h | 2,h | 3,h=>exact h
 | n+4,h=>cases h
end Sg
set_option maxRecDepth 100000 in
set_option maxHeartbeats 16000000 in
theorem sgcall_any (x:Id.Sch) (hF:Chk.Fine x) (r:Sg.Run) (hid:r.id.size≤100000) (s0 s1 s2 s3:Value) (fr:Int) (w:World) (hk:Tk.KW w) (hv:Id.SchV w none (.agg #[s0,s1,s2,s3]) x) :
  Calls Tryz.prog 156 #[.agg (Sg.rv r s0 s1 s2 s3 fr)] w fun e w'=>e=.returned (Sg.nextL x r fr).val∧Below w.heap.size w w':=by
 obtain ⟨i,sg,ag,a,p,t,st,y,va⟩:=r
 obtain ⟨B,HB⟩:∃ B,Hid (decide (p=2)=B):=⟨_,Lib.hid rfl⟩
 have hco:=fun W k v=>scall_any (.agg #[s0,s1,s2,s3]) x hF sg i hid a B fr ag W k v
 obtain ⟨⟨⟨k0,k1,k2,k3,k4,k5,k6,k7,k8,k9⟩,E⟩,HG⟩:∃ G,Hid (Sd.call x sg i a B fr ag=G):=⟨_,Lib.hid rfl⟩
 have HR:Hid (Sg.nextL x ⟨i,sg,ag,a,p,t,st,y,va⟩ fr=⟨k0,k1,k2,k3,k4,k5,k6,k7,k8,k9⟩):=Lib.hid (by unfold Sg.nextL;simp only;rw [HB.out,HG.out])
 rw [HR.out]
 simp only [HG.out,Ev.Letter.val] at hco
 have HCO:=Lib.hid hco
 clear hco HR HG
 have HKW:=Lib.hid hk
 have HV:=Lib.hid hv
 clear hk hF hv
 have HPB:Hid (((p:Int)==2)=B):=Lib.hid (by rw [←HB.out,Bool.eq_iff_iff,beq_iff_eq,decide_eq_true_eq];omega)
 have hps:=Sg.part_sch ⟨i,sg,ag,a,p,t,st,y,va⟩ s0 s1 s2 s3 fr
 unfold Sg.rv at hps ⊢
 simp only at hps
 have HPS:=Lib.hid hps
 clear hps
 go_enter Tryz.func156,Tryz.ntmps156
 go_upto_region 1 with (fail)
 refine wp_named (fun V hV=>?_)
 have HX:Hid (Bk V w.heap.size 140 #[.string i,.string sg,.string ag,.int .i64 a,.int .u8 (p:Nat),.int .i64 t,.bool st,.int .i64 y,.string va,s0,s1,s2,s3,.int .i64 fr]):=Lib.hid (by subst hV;exact (Bk.new w _ _).alloc _)
 have HQ:Hid (Bk V (w.heap.size+1) 56 #[.int .u8 0,.int .i64 0,.int .i64 0,.int .u64 0,.string ⟨#[]⟩,.int .u64 0,.string ⟨#[]⟩,.string ⟨#[]⟩,.int .i64 0,.string ⟨#[]⟩]):=Lib.hid (by subst hV;have h:=Bk.new (w.alloc (.cells #[.string i,.string sg,.string ag,.int .i64 a,.int .u8 (p:Nat),.int .i64 t,.bool st,.int .i64 y,.string va,s0,s1,s2,s3,.int .i64 fr] 140)) 56 #[.int .u8 0,.int .i64 0,.int .i64 0,.int .u64 0,.string ⟨#[]⟩,.int .u64 0,.string ⟨#[]⟩,.string ⟨#[]⟩,.int .i64 0,.string ⟨#[]⟩];rw [World.size_alloc] at h;exact h)
 have HB0:Hid (Below w.heap.size w V):=Lib.hid (by subst hV;exact ((Below.refl _ _).alloc (Nat.le_refl _) _).alloc (by simp) _)
 clear hV
 have hX:=HX.out
 have x0:=hX.cell 0
 have x1:=hX.cell 1
 have x2:=hX.cell 2
 have x3:=hX.cell 3
 have x4:=hX.cell 4
 have x13:=hX.cell 13
 simp only [List.getElem?_toArray,List.getElem?_cons_zero,List.getElem?_cons_succ] at x0 x1 x2 x3 x4 x13
 have hpb:=HPB.out
 go_wp2_with (refine Sg.list_load_part rfl _ _ rfl w.heap.size 9 rfl _ _ #[s0,s1,s2,s3] _ hX HPS.out Tryz.underlying28 rfl (by kernel_rfl) ?_)
 refine (HCO.out _ (HKW.out.below HB0.out) (Id.SchV.below HB0.out HV.out)).mono ?_
 rintro e W1 ⟨rfl,hb⟩
 have HB1:=Lib.hid (HB0.out.trans (hb.mono HB0.out.size))
 have HQ1:=Lib.hid (HQ.out.below hb HQ.out.lt)
 clear hb hX x0 x1 x2 x3 x4 x13 hpb HX HQ HB0
 go_upto_region 2 with (fail)
 refine wp_named (fun V2 hV=>?_)
 obtain ⟨hbV,hL,-⟩:=fresh_box hV
 have hB:=HB1.out.trans (hbV.mono HB1.out.size)
 have hQ:=HQ1.out.below hbV HQ1.out.lt
 clear hV hbV HQ1 HB1
 go_wp2_with (first | (refine wpList_load_row rfl _ _ rfl _ rfl _ _ _ _ hL Tryz.underlying56 rfl (by kernel_rfl) ?_) | (refine wpList_store_row rfl _ _ _ rfl _ _ rfl rfl _ _ hQ (by kernel_rfl) rfl (by simp [Value.oneCell']) ?_))
 refine Sg.ret_c rfl _ rfl _ _ _ (hQ.row _) Tryz.underlying56 rfl (by kernel_rfl) rfl ⟨rfl,below_row hB (by omega) _⟩
set_option maxRecDepth 100000 in
set_option maxHeartbeats 16000000 in
theorem sgquiet_any (r:Sg.Run) (s0 s1 s2 s3:Value) (fr:Int) (w:World) :
  Calls Tryz.prog 78 #[.agg (Sg.rv r s0 s1 s2 s3 fr)] w fun e w'=>e=.returned (Sg.outV (r,Ev.Letter.zero,false,true))∧Below w.heap.size w w':=by
 obtain ⟨i,sg,ag,a,p,t,st,y,va⟩:=r
 have hps:=Sg.part_run ⟨i,sg,ag,a,p,t,st,y,va⟩ s0 s1 s2 s3 fr
 unfold Sg.rv Sg.Run.cells at hps
 unfold Sg.rv
 simp only at hps
 have HPS:=Lib.hid hps
 clear hps
 go_enter Tryz.func78,Tryz.ntmps78
 go_upto_region 1 with (fail)
 refine wp_named (fun V hV=>?_)
 have hX:Bk V w.heap.size 140 #[.string i,.string sg,.string ag,.int .i64 a,.int .u8 (p:Nat),.int .i64 t,.bool st,.int .i64 y,.string va,s0,s1,s2,s3,.int .i64 fr]:=by subst hV;exact ((Bk.new w _ _).alloc _).alloc _
 have hQ:Sg.Two V (w.heap.size+1) (w.heap.size+2) Sg.zrun #[.int .u8 0,.int .i64 0,.int .i64 0,.int .u64 0,.string ⟨#[]⟩,.int .u64 0,.string ⟨#[]⟩,.string ⟨#[]⟩,.int .i64 0,.string ⟨#[]⟩]:=by
  subst hV
  have h1:=Bk.new (w.alloc (.cells #[.string i,.string sg,.string ag,.int .i64 a,.int .u8 (p:Nat),.int .i64 t,.bool st,.int .i64 y,.string va,s0,s1,s2,s3,.int .i64 fr] 140)) 54 Sg.zrun
  have h2:=Bk.new ((w.alloc (.cells #[.string i,.string sg,.string ag,.int .i64 a,.int .u8 (p:Nat),.int .i64 t,.bool st,.int .i64 y,.string va,s0,s1,s2,s3,.int .i64 fr] 140)).alloc (.cells Sg.zrun 54)) 56 #[.int .u8 0,.int .i64 0,.int .i64 0,.int .u64 0,.string ⟨#[]⟩,.int .u64 0,.string ⟨#[]⟩,.string ⟨#[]⟩,.int .i64 0,.string ⟨#[]⟩]
  simp only [World.size_alloc] at h1 h2
  exact ⟨h1.alloc _,h2,by omega⟩
 have hB:Below w.heap.size w V:=by subst hV;exact (((Below.refl _ _).alloc (Nat.le_refl _) _).alloc (by simp) _).alloc (by simp;omega) _
 clear hV
 (have hq1:=hQ.r;have hq2:=(hQ.setR #[.string i,.string sg,.string ag,.int .i64 a,.int .u8 (p:Nat),.int .i64 t,.bool st,.int .i64 y,.string va]).l;unfold Bk at hq1 hq2)
 go_wp2_with (first | (refine Sg.list_load_part rfl _ _ rfl w.heap.size 0 rfl _ _ #[.string i,.string sg,.string ag,.int .i64 a,.int .u8 (p:Nat),.int .i64 t,.bool st,.int .i64 y,.string va] _ hX HPS.out Tryz.underlying54 rfl (by kernel_rfl) ?_) | (refine wpList_store_row rfl _ _ _ rfl _ _ rfl rfl _ _ (by with_reducible assumption) (by kernel_rfl) (by rfl) (by simp [Value.oneCell']) ?_))
 (refine Sg.ret_cctt rfl _ _ rfl rfl _ _ _ _ _ _ (hQ.both _ _).r (hQ.both _ _).l Tryz.underlying54 rfl (by kernel_rfl) Tryz.underlying56 rfl (by kernel_rfl) rfl ⟨?_,Sg.below_both hB (by omega) (by omega) _ _⟩)
 rfl
set_option maxRecDepth 100000 in
set_option maxHeartbeats 16000000 in
theorem sgcalling_any (x:Id.Sch) (hF:Chk.Fine x) (r:Sg.Run) (hid:r.id.size≤100000) (s0 s1 s2 s3:Value) (fr:Int) (w:World) (hk:Tk.KW w) (hv:Id.SchV w none (.agg #[s0,s1,s2,s3]) x) :
  Calls Tryz.prog 79 #[.agg (Sg.rv r s0 s1 s2 s3 fr)] w fun e w'=>e=.returned (Sg.outV (r,Sg.nextL x r fr,true,true))∧Below w.heap.size w w':=by
 have hco:=fun W k v=>sgcall_any x hF r hid s0 s1 s2 s3 fr W k v
 obtain ⟨⟨k0,k1,k2,k3,k4,k5,k6,k7,k8,k9⟩,HG⟩:∃ G,Hid (Sg.nextL x r fr=G):=⟨_,Lib.hid rfl⟩
 rw [HG.out]
 simp only [HG.out,Ev.Letter.val] at hco
 obtain ⟨i,sg,ag,a,p,t,st,y,va⟩:=r
 have hps:=Sg.part_run ⟨i,sg,ag,a,p,t,st,y,va⟩ s0 s1 s2 s3 fr
 unfold Sg.rv at hco
 unfold Sg.rv Sg.Run.cells at hps
 unfold Sg.rv
 simp only at hps hco
 have HPS:=Lib.hid hps
 have HCO:=Lib.hid hco
 have HKW:=Lib.hid hk
 have HV:=Lib.hid hv
 clear hk hF hv hps hco HG
 go_enter Tryz.func79,Tryz.ntmps79
 go_upto_region 1 with (fail)
 refine wp_named (fun V hV=>?_)
 have hX:Bk V w.heap.size 140 #[.string i,.string sg,.string ag,.int .i64 a,.int .u8 (p:Nat),.int .i64 t,.bool st,.int .i64 y,.string va,s0,s1,s2,s3,.int .i64 fr]:=by subst hV;exact ((Bk.new w _ _).alloc _).alloc _
 have hQ:Sg.Two V (w.heap.size+1) (w.heap.size+2) Sg.zrun #[.int .u8 0,.int .i64 0,.int .i64 0,.int .u64 0,.string ⟨#[]⟩,.int .u64 0,.string ⟨#[]⟩,.string ⟨#[]⟩,.int .i64 0,.string ⟨#[]⟩]:=by
  subst hV
  have h1:=Bk.new (w.alloc (.cells #[.string i,.string sg,.string ag,.int .i64 a,.int .u8 (p:Nat),.int .i64 t,.bool st,.int .i64 y,.string va,s0,s1,s2,s3,.int .i64 fr] 140)) 54 Sg.zrun
  have h2:=Bk.new ((w.alloc (.cells #[.string i,.string sg,.string ag,.int .i64 a,.int .u8 (p:Nat),.int .i64 t,.bool st,.int .i64 y,.string va,s0,s1,s2,s3,.int .i64 fr] 140)).alloc (.cells Sg.zrun 54)) 56 #[.int .u8 0,.int .i64 0,.int .i64 0,.int .u64 0,.string ⟨#[]⟩,.int .u64 0,.string ⟨#[]⟩,.string ⟨#[]⟩,.int .i64 0,.string ⟨#[]⟩]
  simp only [World.size_alloc] at h1 h2
  exact ⟨h1.alloc _,h2,by omega⟩
 have hB:Below w.heap.size w V:=by subst hV;exact (((Below.refl _ _).alloc (Nat.le_refl _) _).alloc (by simp) _).alloc (by simp;omega) _
 clear hV
 have hd:Below V.heap.size V V.drew:=(Below.refl _ _).drew
 have hS:=And.intro (hB.trans (hd.mono hB.size)) (And.intro (hX.below hd hX.lt) (hQ.below hd hQ.r.lt hQ.l.lt))
 clear hB hX hQ hd
 refine wp_region_L_calm (fun w'=>Below w.heap.size w w'∧Bk w' w.heap.size 140 #[.string i,.string sg,.string ag,.int .i64 a,.int .u8 (p:Nat),.int .i64 t,.bool st,.int .i64 y,.string va,s0,s1,s2,s3,.int .i64 fr]∧Sg.Two w' (w.heap.size+1) (w.heap.size+2) Sg.zrun #[.int .u8 0,.int .i64 0,.int .i64 0,.int .u64 0,.string ⟨#[]⟩,.int .u64 0,.string ⟨#[]⟩,.string ⟨#[]⟩,.int .i64 0,.string ⟨#[]⟩]) [4] (by kernel_rfl) hS (fun hHeld=>?_)
 (refine wpAnyL_take0 0 (v:=?_) rfl (by kernel_rfl) (by kernel_rfl) (by kernel_rfl) (by kernel_rfl) (fun _ _ _ h=>h) (fun _=>by assumption) (by rfl) ?_ ?_;rotate_left;· (intro w;go_simp;try with_reducible rfl);try simp only [Act.put,List.setIfInBounds_toArray,List.set_cons_zero,List.set_cons_succ])
 (refine Lst.takeM 4 1 (v:=.agg #[.string i,.string sg,.string ag,.int .i64 a,.int .u8 (p:Nat),.int .i64 t,.bool st,.int .i64 y,.string va]) rfl (by kernel_rfl) (by kernel_rfl) (by kernel_rfl) (by kernel_rfl) (by kernel_rfl) (by kernel_rfl) (fun _ _ _ h=>h) (by assumption) (by kernel_rfl) (fun w' hSw=>Sg.exec_part _ _ rfl w.heap.size 0 rfl _ _ _ _ hSw.2.1 HPS.out Tryz.underlying54 rfl (by kernel_rfl)) ?_;try simp only [Act.put,List.setIfInBounds_toArray,List.set_cons_zero,List.set_cons_succ])
 (refine Lst.takeM 4 2 (v:=.agg #[.string i,.string sg,.string ag,.int .i64 a,.int .u8 (p:Nat),.int .i64 t,.bool st,.int .i64 y,.string va,s0,s1,s2,s3,.int .i64 fr]) rfl (by kernel_rfl) (by kernel_rfl) (by kernel_rfl) (by kernel_rfl) (by kernel_rfl) (by kernel_rfl) (fun _ _ _ h=>h) (by assumption) (by kernel_rfl) (fun w' hSw=>Sg.exec_row _ _ rfl w.heap.size rfl _ _ _ hSw.2.1 Tryz.underlying140 rfl (by kernel_rfl)) ?_;try simp only [Act.put,List.setIfInBounds_toArray,List.set_cons_zero,List.set_cons_succ])
 (refine wpAnyL_step 3 (by kernel_rfl) rfl (fun K hK=>?_))
 go_simp
 refine (HCO.out _ (HKW.out.below hS.1) (Id.SchV.below hS.1 HV.out)).mono ?_
 rintro e X ⟨rfl,hb⟩
 have hS2:=And.intro (hS.1.trans (hb.mono hS.1.size)) (And.intro (hS.2.1.below hb hS.2.1.lt) (hS.2.2.below hb hS.2.2.r.lt hS.2.2.l.lt))
 (refine hK.out _ _ (fun hnn=>hS2) ?_;clear hK K;try simp only [Act.put,List.setIfInBounds_toArray,List.set_cons_zero,List.set_cons_succ])
 have hB:=hS2.1
 have hQ:=hS2.2.2
 (refine wpAnyL_step 4 (by kernel_rfl) rfl (fun K hK=>?_))
 rw [if_pos (by rfl)]
 (with_reducible refine wp_store_row 54 _ _ rfl (w.heap.size+1) #[.string i,.string sg,.string ag,.int .i64 a,.int .u8 (p:Nat),.int .i64 t,.bool st,.int .i64 y,.string va] (by kernel_rfl) (by kernel_rfl) 54 _ (Sg.bk hQ.r) (by kernel_rfl) (by kernel_rfl) (by simp [Value.oneCell']) ?_)
 (refine hK.out _ _ (fun hnn=>absurd hnn (by decide)) ?_;clear hK K;try simp only [Act.put,List.setIfInBounds_toArray,List.set_cons_zero,List.set_cons_succ])
 (refine wpAnyL_step 5 (by kernel_rfl) rfl (fun K hK=>?_))
 rw [if_pos (by rfl)]
 (with_reducible refine wp_store_row 56 _ _ rfl (w.heap.size+2) #[.int .u8 k0,.int .i64 k1,.int .i64 k2,.int .u64 k3,.string k4,.int .u64 k5,.string k6,.string k7,.int .i64 k8,.string k9] (by kernel_rfl) (by kernel_rfl) 56 _ (Sg.bk (hQ.setR _).l) (by kernel_rfl) (by kernel_rfl) (by simp [Value.oneCell']) ?_)
 (refine hK.out _ _ (fun hnn=>absurd hnn (by decide)) ?_;clear hK K;try simp only [Act.put,List.setIfInBounds_toArray,List.set_cons_zero,List.set_cons_succ])
 (refine wpAnyL_step 6 (by kernel_rfl) rfl (fun K hK=>?_))
 go_simp
 (refine hK.out _ _ (fun hnn=>absurd hnn (by decide)) ?_;clear hK K;try simp only [Act.put,List.setIfInBounds_toArray,List.set_cons_zero,List.set_cons_succ])
 (refine wpAnyL_step 7 (by kernel_rfl) rfl (fun K hK=>?_))
 go_simp
 (refine hK.out _ _ (fun hnn=>absurd hnn (by decide)) ?_;clear hK K;try simp only [Act.put,List.setIfInBounds_toArray,List.set_cons_zero,List.set_cons_succ])
 refine wpAnyL_done (by kernel_rfl) ?_ _
 refine NoPanic.normal ?_
 go_wp2_with fail
 (refine Sg.ret_cctt rfl _ _ rfl rfl _ _ _ _ _ _ (hQ.both _ _).r (hQ.both _ _).l Tryz.underlying54 rfl (by kernel_rfl) Tryz.underlying56 rfl (by kernel_rfl) rfl ⟨?_,Sg.below_both hB (by omega) (by omega) _ _⟩)
 rfl
set_option maxRecDepth 100000 in
set_option maxHeartbeats 16000000 in
theorem sgback_any (x:Id.Sch) (hF:Chk.Fine x) (r:Sg.Run) (hid:r.id.size≤100000) (s0 s1 s2 s3:Value) (fr why:Int) (ha:-9223372036854775808≤r.at_ - 1∧r.at_≤9223372036854775807) (w:World) (hk:Tk.KW w) (hv:Id.SchV w none (.agg #[s0,s1,s2,s3]) x) :
  Calls Tryz.prog 77 #[.agg (Sg.rv r s0 s1 s2 s3 fr),.int .i64 why] w fun e w'=>e=.returned (Sg.outV (Sg.back x r fr why))∧Below w.heap.size w w':=by
 have HF:=Lib.hid hF
 have HKW:=Lib.hid hk
 have HV:=Lib.hid hv
 obtain ⟨i,sg,ag,a,p,t,st,y,va⟩:=r
 obtain ⟨R,HR⟩:∃ R,Hid (Sg.back x ⟨i,sg,ag,a,p,t,st,y,va⟩ fr why=R):=⟨_,Lib.hid rfl⟩
 rw [HR.out]
 unfold Sg.back at HR
 simp only at HR ha
 have HA:=Lib.hid ha
 have HID:=Lib.hid hid
 clear hk hF hv ha hid
 unfold Sg.rv
 go_enter Tryz.func77,Tryz.ntmps77
 go_upto_region 1 with (fail)
 refine wp_named (fun V hV=>?_)
 have hX:Bk V w.heap.size 140 #[.string i,.string sg,.string ag,.int .i64 a,.int .u8 (p:Nat),.int .i64 t,.bool st,.int .i64 y,.string va,s0,s1,s2,s3,.int .i64 fr]:=by subst hV;exact ((Bk.new w _ _).alloc _).alloc _
 have hQ:Sg.Two V (w.heap.size+1) (w.heap.size+2) Sg.zrun #[.int .u8 0,.int .i64 0,.int .i64 0,.int .u64 0,.string ⟨#[]⟩,.int .u64 0,.string ⟨#[]⟩,.string ⟨#[]⟩,.int .i64 0,.string ⟨#[]⟩]:=by
  subst hV
  have h1:=Bk.new (w.alloc (.cells #[.string i,.string sg,.string ag,.int .i64 a,.int .u8 (p:Nat),.int .i64 t,.bool st,.int .i64 y,.string va,s0,s1,s2,s3,.int .i64 fr] 140)) 54 Sg.zrun
  have h2:=Bk.new ((w.alloc (.cells #[.string i,.string sg,.string ag,.int .i64 a,.int .u8 (p:Nat),.int .i64 t,.bool st,.int .i64 y,.string va,s0,s1,s2,s3,.int .i64 fr] 140)).alloc (.cells Sg.zrun 54)) 56 #[.int .u8 0,.int .i64 0,.int .i64 0,.int .u64 0,.string ⟨#[]⟩,.int .u64 0,.string ⟨#[]⟩,.string ⟨#[]⟩,.int .i64 0,.string ⟨#[]⟩]
  simp only [World.size_alloc] at h1 h2
  exact ⟨h1.alloc _,h2,by omega⟩
 have hB:Below w.heap.size w V:=by subst hV;exact (((Below.refl _ _).alloc (Nat.le_refl _) _).alloc (by simp) _).alloc (by simp;omega) _
 clear hV
 have x7:=hX.cell 7
 have x6:=hX.cell 6
 have x5:=hX.cell 5
 have f7:=hX.frozen 7
 have f6:=hX.frozen 6
 have f5:=hX.frozen 5
 simp only [List.getElem?_toArray,List.getElem?_cons_zero,List.getElem?_cons_succ] at x7 x6 x5
 go_upto_region 2 with (fail)
 refine wp_named (fun V2 hV=>?_)
 have hX2:Bk V2 w.heap.size 140 #[.string i,.string sg,.string ag,.int .i64 a,.int .u8 (p:Nat),.int .i64 0,.bool false,.int .i64 why,.string va,s0,s1,s2,s3,.int .i64 fr]:=by rw [hV];exact ((hX.set_ 7 _).set_ 6 _).set_ 5 _
 have hQ2:Sg.Two V2 (w.heap.size+1) (w.heap.size+2) Sg.zrun #[.int .u8 0,.int .i64 0,.int .i64 0,.int .u64 0,.string ⟨#[]⟩,.int .u64 0,.string ⟨#[]⟩,.string ⟨#[]⟩,.int .i64 0,.string ⟨#[]⟩]:=by
  rw [hV]
  exact ⟨((hQ.r.far (p:=⟨w.heap.size,7,none⟩) (by show w.heap.size+1≠w.heap.size;omega) _).far (p:=⟨w.heap.size,6,none⟩) (by show w.heap.size+1≠w.heap.size;omega) _).far (p:=⟨w.heap.size,5,none⟩) (by show w.heap.size+1≠w.heap.size;omega) _,((hQ.l.far (p:=⟨w.heap.size,7,none⟩) (by show w.heap.size+2≠w.heap.size;omega) _).far (p:=⟨w.heap.size,6,none⟩) (by show w.heap.size+2≠w.heap.size;omega) _).far (p:=⟨w.heap.size,5,none⟩) (by show w.heap.size+2≠w.heap.size;omega) _,hQ.ne⟩
 have hB2:Below w.heap.size w V2:=by
  rw [hV]
  exact ((hB.setCell (p:=⟨w.heap.size,7,none⟩) (Nat.le_refl _) _).setCell (p:=⟨w.heap.size,6,none⟩) (Nat.le_refl _) _).setCell (p:=⟨w.heap.size,5,none⟩) (Nat.le_refl _) _
 clear hV hX hQ hB x7 x6 x5 f7 f6 f5
 have hX:=hX2
 clear hX2
 have hQ:=hQ2
 clear hQ2
 have hB:=hB2
 clear hB2
 have x3:=hX.cell 3
 have x4:=hX.cell 4
 have f3:=hX.frozen 3
 have f4:=hX.frozen 4
 simp only [List.getElem?_toArray,List.getElem?_cons_zero,List.getElem?_cons_succ] at x3 x4
 by_cases h0:a=0
 ·subst h0
  have HE:Hid (R=(⟨i,sg,ag,0,4,0,false,why,va⟩,Ev.Letter.zero,false,true)):=Lib.hid (by rw [←HR.out,if_pos rfl])
  go_upto_region 4 with (fail)
  refine wp_named (fun V3 hV=>?_)
  have hX3:Bk V3 w.heap.size 140 #[.string i,.string sg,.string ag,.int .i64 0,.int .u8 4,.int .i64 0,.bool false,.int .i64 why,.string va,s0,s1,s2,s3,.int .i64 fr]:=by rw [hV];exact hX.set_ 4 _
  have hQ3:Sg.Two V3 (w.heap.size+1) (w.heap.size+2) Sg.zrun #[.int .u8 0,.int .i64 0,.int .i64 0,.int .u64 0,.string ⟨#[]⟩,.int .u64 0,.string ⟨#[]⟩,.string ⟨#[]⟩,.int .i64 0,.string ⟨#[]⟩]:=by rw [hV];exact ⟨hQ.r.far (p:=⟨w.heap.size,4,none⟩) (by show w.heap.size+1≠w.heap.size;omega) _,hQ.l.far (p:=⟨w.heap.size,4,none⟩) (by show w.heap.size+2≠w.heap.size;omega) _,hQ.ne⟩
  have hB3:Below w.heap.size w V3:=by rw [hV];exact hB.setCell (p:=⟨w.heap.size,4,none⟩) (Nat.le_refl _) _
  clear hV hX hQ hB x3 x4 f3 f4
  have hL:=hX3
  have hqo:=Lib.hid (sgquiet_any ⟨i,sg,ag,0,4,0,false,why,va⟩ s0 s1 s2 s3 fr)
  go_wp2_with (refine wpList_load_row rfl _ _ rfl _ rfl _ _ _ _ hL Tryz.underlying140 rfl (by kernel_rfl) ?_)
  refine (hqo.out _).mono ?_
  rintro e W1 ⟨rfl,hb⟩
  have hB:=hB3.trans (hb.mono hB3.size)
  have hQ:=hQ3.below hb hQ3.r.lt hQ3.l.lt
  clear hqo hb hB3 hQ3 hL hX3
  unfold Sg.outV Sg.Run.val Sg.Run.cells Ev.Letter.zero Ev.Letter.val
  (have hq1:=hQ.r;have hq2:=(hQ.setR #[.string i,.string sg,.string ag,.int .i64 0,.int .u8 4,.int .i64 0,.bool false,.int .i64 why,.string va]).l;unfold Bk at hq1 hq2)
  go_wp2_with (refine wpList_store_row rfl _ _ _ rfl _ _ rfl rfl _ _ (by with_reducible assumption) (by kernel_rfl) (by rfl) (by simp [Value.oneCell']) ?_)
  (refine Sg.ret_cctt rfl _ _ rfl rfl _ _ _ _ _ _ (hQ.both _ _).r (hQ.both _ _).l Tryz.underlying54 rfl (by kernel_rfl) Tryz.underlying56 rfl (by kernel_rfl) rfl ⟨?_,Sg.below_both hB (by omega) (by omega) _ _⟩)
  rw [HE.out]
  rfl
 ·have HE:Hid (R=(⟨i,sg,ag,a - 1,2,0,false,why,va⟩,Sg.nextL x ⟨i,sg,ag,a - 1,2,0,false,why,va⟩ fr,true,true)):=Lib.hid (by rw [←HR.out,if_neg h0])
  have t1:((a:Int)==0)=false:=by rw [beq_eq_false_iff_ne];exact h0
  have hwr:IntKind.i64.wrap (a - 1)=a - 1:=by have:=HA.out;rw [IntKind.wrap_i64];omega
  go_upto_region 6 with (fail)
  refine wp_named (fun V3 hV=>?_)
  have hX3:Bk V3 w.heap.size 140 #[.string i,.string sg,.string ag,.int .i64 (a - 1),.int .u8 2,.int .i64 0,.bool false,.int .i64 why,.string va,s0,s1,s2,s3,.int .i64 fr]:=by rw [hV];exact (hX.set_ 4 _).set_ 3 _
  have hQ3:Sg.Two V3 (w.heap.size+1) (w.heap.size+2) Sg.zrun #[.int .u8 0,.int .i64 0,.int .i64 0,.int .u64 0,.string ⟨#[]⟩,.int .u64 0,.string ⟨#[]⟩,.string ⟨#[]⟩,.int .i64 0,.string ⟨#[]⟩]:=by rw [hV];exact ⟨(hQ.r.far (p:=⟨w.heap.size,4,none⟩) (by show w.heap.size+1≠w.heap.size;omega) _).far (p:=⟨w.heap.size,3,none⟩) (by show w.heap.size+1≠w.heap.size;omega) _,(hQ.l.far (p:=⟨w.heap.size,4,none⟩) (by show w.heap.size+2≠w.heap.size;omega) _).far (p:=⟨w.heap.size,3,none⟩) (by show w.heap.size+2≠w.heap.size;omega) _,hQ.ne⟩
  have hB3:Below w.heap.size w V3:=by rw [hV];exact (hB.setCell (p:=⟨w.heap.size,4,none⟩) (Nat.le_refl _) _).setCell (p:=⟨w.heap.size,3,none⟩) (Nat.le_refl _) _
  clear hV hX hQ hB x3 x4 f3 f4 hwr
  have hL:=hX3
  have hco:=sgcalling_any x HF.out ⟨i,sg,ag,a - 1,2,0,false,why,va⟩ HID.out s0 s1 s2 s3 fr V3 (HKW.out.below hB3) (Id.SchV.below hB3 HV.out)
  have HCO:=Lib.hid hco
  clear hco
  obtain ⟨⟨k0,k1,k2,k3,k4,k5,k6,k7,k8,k9⟩,HGG⟩:∃ G,Hid (Sg.nextL x ⟨i,sg,ag,a - 1,2,0,false,why,va⟩ fr=G):=⟨_,Lib.hid rfl⟩
  have hco:=HCO.out
  rw [HGG.out] at HE hco
  have HCO2:=Lib.hid hco
  clear hco HCO
  go_wp2_with (refine wpList_load_row rfl _ _ rfl _ rfl _ _ _ _ hL Tryz.underlying140 rfl (by kernel_rfl) ?_)
  refine HCO2.out.mono ?_
  rintro e W1 ⟨rfl,hb⟩
  have hB:=hB3.trans (hb.mono hB3.size)
  have hQ:=hQ3.below hb hQ3.r.lt hQ3.l.lt
  clear HCO2 hb hB3 hQ3 hL hX3
  unfold Sg.outV Sg.Run.val Sg.Run.cells Ev.Letter.val
  (have hq1:=hQ.r;have hq2:=(hQ.setR #[.string i,.string sg,.string ag,.int .i64 (a - 1),.int .u8 2,.int .i64 0,.bool false,.int .i64 why,.string va]).l;unfold Bk at hq1 hq2)
  go_wp2_with (refine wpList_store_row rfl _ _ _ rfl _ _ rfl rfl _ _ (by with_reducible assumption) (by kernel_rfl) (by rfl) (by simp [Value.oneCell']) ?_)
  (refine Sg.ret_cctt rfl _ _ rfl rfl _ _ _ _ _ _ (hQ.both _ _).r (hQ.both _ _).l Tryz.underlying54 rfl (by kernel_rfl) Tryz.underlying56 rfl (by kernel_rfl) rfl ⟨?_,Sg.below_both hB (by omega) (by omega) _ _⟩)
  rw [HE.out]
  rfl
end Go.Proofs.YtogijkhenihaaaaGreatDoor
