/- redressref25: num, text, digits, some. No condition but the ones the theorems state. -/
import Derived.Test.YtogijkhenihaaaaGreatDoorGP19
import Derived.Test.YtogijkhenihaaaaGreatDoorGP26
set_option linter.unusedVariables false
set_option linter.unusedSimpArgs false
namespace Go.Proofs.YtogijkhenihaaaaGreatDoor
open Go.RowKit Go.BigFrame
theorem Sg.run_dig (c:Nat) (hc:c<10) (W:World) :
  Sem.run Tryz.prog (convert 120 9 (.slice (some ⟨W.heap.size,0,none⟩) 1 1)) (W.alloc (.cells #[.int .u8 (48+(c:Int))] 5))=.ok (.string ⟨#[UInt8.ofNat (48+c)]⟩) (W.alloc (.cells #[.int .u8 (48+(c:Int))] 5)):=by
 refine run_convert_bytes_back (P:=Tryz.prog) _ 120 9 5 ⟨W.heap.size,0,none⟩ 1 [UInt8.ofNat (48+c)] Tryz.underlying120 Tryz.underlying5 Tryz.underlying9 ?_
 intro j hj
 have hj:j<1:=hj
 obtain rfl:j=0:=by omega
 have e:((UInt8.ofNat (48+c)).toNat:Int)=48+(c:Int):=by
  have:(UInt8.ofNat (48+c)).toNat=(48+c) % 256:=by simp
  omega
 simp [go_sem,Addr.add]
 omega
theorem Sg.dig_split (n:Nat):Lib.decDigits n=(if n<10 then [] else Lib.decDigits (n / 10))++[UInt8.ofNat (48+n % 10)]:=by
 rw [Lib.decDigits]
 split
 next h=>rw [Nat.mod_eq_of_lt h];rfl
 next h=>rfl
theorem Sg.dec19 {n:Nat} (h:n≤9223372036854775807):(Lib.decDigits n).length≤19:=by
 have:=Sg.dec_len 19 n (by have:(10:Nat) ^ 19=10000000000000000000:=(by decide);omega)
 omega
set_option maxRecDepth 100000 in
set_option maxHeartbeats 4000000 in
theorem sgdnat_any (n:Nat) (hn:n≤9223372036854775807) (w:World) :
  Calls Tryz.prog 92 #[.int .i64 n] w fun e w'=>e=.returned (.string ⟨(Lib.decDigits n).toArray⟩)∧Below w.heap.size w w':=by
 have i0:(0:Int)≤(n:Int):=by omega
 have i1:¬(n:Int)<0:=by omega
 have HND:=Lib.hid (Sg.dec19 hn)
 have hrun0:=Sg.run_dig (n % 10) (by omega) w
 have e0:48+((n % 10:Nat):Int)=48+(n:Int) % 10:=by omega
 rw [e0] at hrun0
 obtain ⟨c0,Hc0⟩:∃ c,Hid (UInt8.ofNat (48+n % 10)=c):=⟨_,Lib.hid rfl⟩
 rw [Hc0.out] at hrun0
 have HN:=Lib.hid hn
 clear e0 hn
 go_enter Tryz.func92,Tryz.ntmps92
 go_wp2_with fail
 clear hrun0
 go_loopw [0,3] (fun z b wr=>∃ (m:Nat) (S:ByteArray),m≤9223372036854775807∧z=.int .i64 m∧b=.string S∧S.size≤19∧Hid ((if m<10 then [] else Lib.decDigits (m / 10))++S.data.toList=Lib.decDigits n)∧Below w.heap.size w wr) (fun z _ _=>(intOf z).toNat)
 case atStart=>exact ⟨n,_,HN.out,rfl,rfl,show 1≤19 by decide,Lib.hid (by rw [Sg.dig_split n,Hc0.out]),by first | exact (Below.refl _ _).alloc (Nat.le_refl _) _⟩
 case round =>
  obtain ⟨m,S,hm,rfl,rfl,hS,HP,hb⟩:=hrel
  obtain ⟨W1,rfl⟩:∃ w',w'=wr:=⟨_,rfl⟩
  have j0:(0:Int)≤(m:Int):=by omega
  have hz:=hb.size
  by_cases h9:9<m
  case neg =>
   have HE:Hid (S=⟨(Lib.decDigits n).toArray⟩):=Lib.hid (by
    have h:=HP.out
    rw [if_pos (by omega),List.nil_append] at h
    rw [←h])
   have j2:¬(9:Int)<(m:Int):=by omega
   go_wp2_with fail
   go_ret
   exact ⟨by rw [HE.out];rfl,hb⟩
  have j2:(9:Int)<(m:Int):=by omega
  have hrun1:=Sg.run_dig (m / 10 % 10) (by omega) W1
  have e1:48+((m / 10 % 10:Nat):Int)=48+(m:Int) / 10 % 10:=by omega
  rw [e1] at hrun1
  obtain ⟨c1,Hc1⟩:∃ c,Hid (UInt8.ofNat (48+m / 10 % 10)=c):=⟨_,Lib.hid rfl⟩
  rw [Hc1.out] at hrun1
  clear e1
  have hsz:(9223372036854775807<(⟨#[c1]⟩:ByteArray).size+S.size)=False:=by
   rw [show (⟨#[c1]⟩:ByteArray).size=1 from rfl]
   simp
   omega
  have hsz2:(9223372036854775807<1+S.size)=False:=by simp;omega
  have HP2:Hid ((if m / 10<10 then [] else Lib.decDigits (m / 10 / 10))++((⟨#[c1]⟩:ByteArray)++S).data.toList=Lib.decDigits n):=Lib.hid (by
   have h:=HP.out
   rw [if_neg (by omega),Sg.dig_split (m / 10),Hc1.out] at h
   rw [←h]
   simp)
  have hS2:((⟨#[c1]⟩:ByteArray)++S).size≤19:=by
   have h:=congrArg List.length HP2.out
   rw [List.length_append] at h
   have:=HND.out
   simp only [ByteArray.size] at *
   simp at h ⊢
   omega
  have e2:((m / 10:Nat):Int)=(m:Int) / 10:=by omega
  have HP3:=HP2
  clear HP2 HP
  go_wp2_with fail
  go_roundw
  case rel=>exact ⟨m / 10,_,by omega,by rw [e2],rfl,hS2,HP3,hb.alloc hz _⟩
  case measure=>simp [intOf] <;> omega
set_option maxRecDepth 100000 in
set_option maxHeartbeats 4000000 in
theorem sgdnum_any (n:Int) (h0:-9223372036854775808≤n) (h1:n≤9223372036854775807) (w:World) :
  Calls Tryz.prog 92 #[.int .i64 n] w fun e w'=>e=.returned (.string ⟨(Lib.itoa n).toArray⟩)∧Below w.heap.size w w':=by
 by_cases hn:n<0
 case neg =>
  obtain ⟨m,rfl⟩:∃ m:Nat,n=m:=⟨n.toNat,by omega⟩
  have e:Lib.itoa (m:Int)=Lib.decDigits m:=Lib.itoa_nonneg _
  rw [e]
  exact sgdnat_any m (by omega) w
 have hit:Lib.itoa n=45::Lib.decDigits n.natAbs:=by
  unfold Lib.itoa
  rw [if_pos hn]
 by_cases hmin:n=-9223372036854775808
 ·subst hmin
  have e:Lib.itoa (-9223372036854775808)=[45,57,50,50,51,51,55,50,48,51,54,56,53,52,55,55,53,56,48,56]:=by decide +kernel
  rw [e]
  clear hit e h0 h1
  go_enter Tryz.func92,Tryz.ntmps92
  go_wp2_with fail
  go_ret
  exact ⟨rfl,Below.refl _ _⟩
 obtain ⟨m,hm⟩:∃ m:Nat,-n=m:=⟨(-n).toNat,by omega⟩
 have hab:n.natAbs=m:=by omega
 rw [hit,hab]
 have hw:IntKind.i64.wrap (-n)=(m:Int):=by rw [IntKind.wrap_i64];omega
 have HNAT:=Lib.hid (sgdnat_any m (by omega))
 obtain ⟨D,HD⟩:∃ D:ByteArray,Hid ((⟨(Lib.decDigits m).toArray⟩:ByteArray)=D):=⟨_,Lib.hid rfl⟩
 have hD:D.size≤19:=by rw [←HD.out];show (Lib.decDigits m).toArray.size≤19;rw [List.size_toArray];exact Sg.dec19 (by omega)
 have HE:Hid ((⟨#[45]⟩:ByteArray)++D=⟨(45::Lib.decDigits m).toArray⟩):=Lib.hid (by rw [←HD.out];apply ByteArray.ext;apply Array.ext';simp)
 rw [HD.out] at HNAT
 rw [←HE.out]
 have z1:(9223372036854775807<1+D.size)=False:=by simp only [eq_iff_iff,iff_false];omega
 have hb1:(n==-9223372036854775808)=false:=beq_eq_false_iff_ne.2 hmin
 clear hit hab HD HE
 go_enter Tryz.func92,Tryz.ntmps92
 go_wp2_with fail
 refine (HNAT.out _).mono ?_
 rintro e w1 ⟨rfl,hb⟩
 go_wp2_with fail
 go_ret
 exact ⟨rfl,hb⟩
set_option maxRecDepth 100000 in
set_option maxHeartbeats 4000000 in
theorem sgdtext_any (s:ByteArray) (hs:s.size≤1000000) (w:World) :
  Calls Tryz.prog 91 #[.string s] w fun e w'=>e=.returned (.string ⟨(Sg.txt s).toArray⟩)∧Below w.heap.size w w':=by
 have hnum:=fun W=>sgdnum_any (s.size:Int) (by omega) (by omega) W
 obtain ⟨S,HS⟩:∃ S,Hid ((⟨(Lib.itoa (s.size:Int)).toArray⟩:ByteArray)=S):=⟨_,Lib.hid rfl⟩
 have hS:S.size≤20:=by rw [←HS.out];show (Lib.itoa (s.size:Int)).toArray.size≤20;rw [List.size_toArray];exact Sg.itoa_len (by omega) (by omega)
 have HT:Hid (S++⟨#[58]⟩++s=⟨(Sg.txt s).toArray⟩):=Lib.hid (by rw [←HS.out];exact Sg.txt_str s)
 simp only [HS.out] at hnum
 rw [←HT.out]
 have HNUM:=Lib.hid hnum
 clear hnum HT HS
 have z1:(9223372036854775807<S.size+1)=False:=by simp only [eq_iff_iff,iff_false];omega
 have z2:(9223372036854775807<S.size+1+s.size)=False:=by simp only [eq_iff_iff,iff_false];omega
 go_enter Tryz.func91,Tryz.ntmps91
 go_wp2_with fail
 refine (HNUM.out _).mono ?_
 rintro e w1 ⟨rfl,hb⟩
 go_wp2_with fail
 go_ret
 exact ⟨rfl,hb⟩
end Go.Proofs.YtogijkhenihaaaaGreatDoor
set_option linter.unusedVariables false
set_option linter.unusedSimpArgs false
namespace Go.Proofs.YtogijkhenihaaaaGreatDoor
open Go.RowKit Go.BigFrame
namespace Sg
/-- A place in a text; the rest behind it. -/
def Pos (b:ByteArray) (p:Int) (o:Option (List UInt8)):Prop:=(o=none∧p=-1)∨∃ k:Nat,k≤b.size∧p=k∧o=some (b.data.toList.drop k)
def digE (b:ByteArray) (c:UInt8) (o:Option (List UInt8)) (w:World) (e:Ending) (w':World):Prop:=∃ n p o',e=.returned (.tuple #[.int .i64 n,.int .i64 p])∧Got (dNum c) o n o'∧Pos b p o'∧Below w.heap.size w w'
theorem got_no {α:Type} {P:List UInt8→Option (α × List UInt8)} {l:List UInt8} (x:α) (h:P l=none):Got P (some l) x none :=
 ⟨by rw [Option.bind_some,h];rfl,fun q hq=>by rw [Option.bind_some,h] at hq;cases hq⟩
theorem got_yes {α:Type} {P:List UInt8→Option (α × List UInt8)} {l r:List UInt8} {x:α} (h:P l=some (x,r)):Got P (some l) x (some r) :=
 ⟨by rw [Option.bind_some,h];rfl,fun q hq=>by rw [Option.bind_some,h] at hq;injection hq with hq;rw [←hq]⟩
theorem got_lost {α:Type} {P:List UInt8→Option (α × List UInt8)} (x:α):Got P none x none:=⟨rfl,fun q hq=>by cases hq⟩
theorem wrap_i64' (n:Int):IntKind.i64.wrap n=i64 n:=by
 rw [IntKind.wrap_i64]
 unfold i64
 omega
theorem dacc_range:∀ (l:List UInt8) (n m:Int),(-9223372036854775808≤n∧n≤9223372036854775807)→dacc n l=some m→-9223372036854775808≤m∧m≤9223372036854775807
 | [],n,m,hn,h=>by injection h with h;subst h;exact hn
 | c::l,n,m,hn,h=>by
  have h:(if isDig c=true then dacc (dstep n c) l else none)=some m:=h
  split at h
  ·exact dacc_range l _ m (i64_range _) h
  ·cases h
theorem dsc_range {l:List UInt8} {q:Bool × Int} (h:dsc l=some q):-9223372036854775808≤q.2∧q.2≤9223372036854775807:=by
 cases l with
 | nil =>
  injection h with h
  subst h
  decide
 | cons c l =>
  have h:(if c=45 then (dacc 0 l).map (fun n=>(true,n)) else (dacc 0 (c::l)).map fun n=>(false,n))=some q:=h
  split at h
  ·obtain ⟨n,hn,rfl⟩:=Option.map_eq_some_iff.1 h
   exact dacc_range l 0 n (by decide) hn
  ·obtain ⟨n,hn,rfl⟩:=Option.map_eq_some_iff.1 h
   exact dacc_range (c::l) 0 n (by decide) hn
theorem take_while {c:UInt8} {l:List UInt8} {m:Nat} (h1:(l.take m).all (· != c)=true) (h2:m<l.length) (h3:l[m]=c):c∈l∧l.takeWhile (· != c)=l.take m∧(l.dropWhile (· != c)).drop 1=l.drop (m+1):=by
 have e:l=l.take m++c::l.drop (m+1):=by
  conv=>lhs;rw [←List.take_append_drop m l]
  rw [List.drop_eq_getElem_cons h2,h3]
 have hb:∀ x∈l.take m,x≠c:=fun x hx=>by
  have:=List.all_eq_true.1 h1 x hx
  simpa using this
 obtain ⟨t1,t2⟩:=take_end (r:=l.drop (m+1)) hb
 rw [←e] at t1 t2
 exact ⟨by rw [←h3];exact List.getElem_mem h2,t1,t2⟩
theorem dsc_step {T:List UInt8} {q:Nat} {lo:Bool} {n:Int} (h:dsc (T.take q)=some (lo,n)) (hq:q<T.length) :
  (q=0→T[q]=45→dsc (T.take (q+1))=some (true,n))∧(¬(q=0∧T[q]=45)→isDig T[q]=false→dsc T=none)∧(¬(q=0∧T[q]=45)→isDig T[q]=true→dsc (T.take (q+1))=some (lo,dstep n T[q])):=by
 have hs:T.take (q+1)=T.take q++[T[q]]:=List.take_succ_eq_append_getElem hq
 have hT:T=T.take (q+1)++T.drop (q+1):=(List.take_append_drop _ _).symm
 cases q with
 | zero =>
  have h0:(lo,n)=(false,0):=by
   have h:dsc []=some (lo,n):=by simpa using h
   injection h with h
   exact h.symm
  injection h0 with h1 h2
  subst h1 h2
  rw [List.take_zero,List.nil_append] at hs
  have h1:=dsc_one T[0]
  refine ⟨fun _ h45=>?_,fun hno hd=>?_,fun hno hd=>?_⟩
  ·rw [hs,h1,if_pos h45]
  ·have h2:dsc (T.take (0+1))=none:=by rw [hs,h1,if_neg (fun h=>hno ⟨rfl,h⟩),if_neg (by rw [hd];decide)]
   rw [hT]
   exact dsc_none _ h2
  ·rw [hs,h1,if_neg (fun h=>hno ⟨rfl,h⟩),if_pos hd]
 | succ q =>
  have hne:∃ b a,T.take (q+1)=b::a:=by
   cases hc:T.take (q+1) with
   | nil =>
    have h2:(T.take (q+1)).length=0:=by rw [hc];rfl
    rw [List.length_take] at h2
    omega
   | cons b a=>exact ⟨b,a,rfl⟩
  obtain ⟨b,a,hba⟩:=hne
  have h1:=dsc_next b a T[q+1]
  rw [←hba,←hs,h,Option.bind_some] at h1
  refine ⟨fun h0=>(by cases h0),fun _ hd=>?_,fun _ hd=>?_⟩
  ·rw [if_neg (by rw [hd];decide)] at h1
   rw [hT]
   exact dsc_none _ h1
  ·rw [if_pos hd] at h1
   exact h1
end Sg
set_option maxRecDepth 100000 in
set_option maxHeartbeats 8000000 in
theorem sgdig_any (b:ByteArray) (hb:b.size≤1000000) (p:Int) (o:Option (List UInt8)) (hp:Sg.Pos b p o) (c:UInt8) (hc:58≤c.toNat) (w:World) :
  Calls Tryz.prog 85 #[.string b,.int .i64 p,.int .u8 (c.toNat:Nat)] w (Sg.digE b c o w):=by
 rcases hp with ⟨rfl,rfl⟩ | ⟨k,hk,rfl,rfl⟩
 ·go_enter Tryz.func85,Tryz.ntmps85
  go_wp2_with fail
  go_ret2
  exact ⟨0,-1,none,rfl,Sg.got_lost 0,.inl ⟨rfl,rfl⟩,Below.refl _ _⟩
 obtain ⟨O,HO⟩:∃ o,Hid (some (b.data.toList.drop k)=o):=⟨_,Lib.hid rfl⟩
 rw [HO.out]
 obtain ⟨L,HL⟩:∃ l,Hid (b.data.toList.drop k=l):=⟨_,Lib.hid rfl⟩
 have hll:L.length+k=b.size:=by
  rw [←HL.out,List.length_drop]
  have:b.data.toList.length=b.size:=by simp
  omega
 have HLL:=Lib.hid hll
 have HBY:Hid (∀ (m:Nat) (hm:m<L.length) (h:k+m<b.size),(b[k+m]'h).toNat=L[m].toNat):=Lib.hid (fun m hm h=>by
  have h2:L[m]=b[k+m]'h:=by
   have h3:L[m]?=b.data.toList[k+m]?:=by rw [←HL.out,List.getElem?_drop]
   rw [List.getElem?_eq_getElem hm,List.getElem?_eq_getElem (by simpa using h)] at h3
   injection h3
  rw [h2])
 have HNO:Hid (Sg.dNum c L=none→Sg.digE b c O w (.returned (.tuple #[.int .i64 0,.int .i64 (-1)])) w):=Lib.hid (fun h=>⟨0,-1,none,rfl,by rw [←HO.out,HL.out];exact Sg.got_no 0 h,.inl ⟨rfl,rfl⟩,Below.refl _ _⟩)
 have HC:=Lib.hid hc
 have hc256:=c.toNat_lt
 have k0:(0:Int)≤(k:Int):=by omega
 have k1:¬(k:Int)<0:=by omega
 clear hll hc
 go_enter Tryz.func85,Tryz.ntmps85
 go_wp2_with fail
 go_loopw [8] (fun z wr=>∃ m:Nat,k+m≤b.size∧z=.int .i64 ((k+m:Nat):Int)∧Hid ((L.take m).all (· != c)=true)∧wr=w) (fun z _=>b.size - (intOf z).toNat)
 case atStart=>exact ⟨0,by omega,rfl,Lib.hid rfl,rfl⟩
 case round =>
  obtain ⟨m,hm,rfl,HA,rfl⟩:=hrel
  obtain ⟨j,hj⟩:∃ j,k+m=j:=⟨_,rfl⟩
  have hj0:(0:Int)≤(j:Int):=by omega
  rw [hj] at hm ⊢
  have HJ:=Lib.hid hj
  by_cases hlt:j<b.size
  case neg =>
   have h1:¬(j:Int)<(b.size:Int):=by omega
   have h2:(b.size:Int)≤(j:Int):=by omega
   have HE:=Lib.hid (HNO.out (Sg.dNum_no HC.out (.inl (fun hin=>by
    have h3:=HA.out
    rw [List.take_of_length_le (by have:=HLL.out;omega)] at h3
    have:=List.all_eq_true.1 h3 c hin
    simp at this))))
   clear hj
   go_wp2_with fail
   go_ret2
   exact HE.out
  have h1:(j:Int)<(b.size:Int):=by omega
  have h2:¬(b.size:Int)≤(j:Int):=by omega
  have hml:m<L.length:=by have:=HLL.out;omega
  have hby:∀ h,(b[j]'h).toNat=L[m].toNat:=fun h=>by
   subst hj
   exact HBY.out m hml h
  have HTK:=Lib.hid (List.take_succ_eq_append_getElem hml)
  by_cases hce:L[m]=c
  case neg =>
   have hx:(((L[m].toNat:Nat):Int) != ((c.toNat:Nat):Int))=true:=by
    rw [bne_iff_ne]
    intro h
    exact hce (UInt8.toNat_inj.1 (by omega))
   have HA2:Hid ((L.take (m+1)).all (· != c)=true):=Lib.hid (by
    rw [HTK.out,List.all_append,HA.out,Bool.true_and]
    simpa using hce)
   clear hj
   go_wp2_with fail
   go_roundw
   case rel=>exact ⟨m+1,by have:=HJ.out;omega,by have:=HJ.out;rw [show k+(m+1)=j+1 by omega];go_num,HA2,by first | rfl | trivial⟩
   case measure=>simp [intOf];omega
  have hx:(((L[m].toNat:Nat):Int) != ((c.toNat:Nat):Int))=false:=by rw [hce];simp
  obtain ⟨hin,hT,hR⟩:=Sg.take_while HA.out hml hce
  have HIN:=Lib.hid hin
  have HT:=Lib.hid hT
  have HR:=Lib.hid hR
  have hsub:(j:Int) - (k:Int)=(m:Int):=by omega
  clear hin hT hR hj hce
  by_cases h20:20<m
  ·have h20i:(20:Int)<(m:Int):=by omega
   have HE:=Lib.hid (HNO.out (Sg.dNum_no HC.out (.inr (.inl (by rw [HT.out,List.length_take];omega)))))
   go_wp2_with fail
   go_ret2
   exact HE.out
  have h20i:¬(20:Int)<(m:Int):=by omega
  obtain ⟨T,HTT⟩:∃ T,Hid (L.take m=T):=⟨_,Lib.hid rfl⟩
  have hTl:T.length=m:=by rw [←HTT.out,List.length_take];omega
  have HTL:=Lib.hid hTl
  have HBT:Hid (∀ (q:Nat) (hq:q<T.length) (h:k+q<b.size),(b[k+q]'h).toNat=T[q].toNat):=Lib.hid (fun q hq h=>by
   rw [HBY.out q (by omega) h]
   have h3:T[q]?=L[q]?:=by rw [←HTT.out,List.getElem?_take_of_lt (by omega)]
   rw [List.getElem?_eq_getElem hq,List.getElem?_eq_getElem (by omega)] at h3
   injection h3 with h3
   rw [h3])
  rw [HTT.out] at HT
  have HNT:Hid (Sg.dsc T=none→Sg.digE b c O wr (.returned (.tuple #[.int .i64 0,.int .i64 (-1)])) wr):=Lib.hid (fun h=>HNO.out (Sg.dNum_no HC.out (.inr (.inr (.inl (by rw [HT.out];exact h))))))
  clear HBY HTK HA hTl
  have HKM:=HJ
  go_wp2_with fail
  clear hby hx h1 h2
  go_loopw [9,10,11] (fun lv nv iv wx=>∃ (q:Nat) (lo:Bool) (n:Int),q≤m∧lv=.bool lo∧nv=.int .i64 n∧iv=.int .i64 ((k+q:Nat):Int)∧Hid (Sg.dsc (T.take q)=some (lo,n))∧wx=wr) (fun _ _ iv _=>j - (intOf iv).toNat)
  case atStart=>exact ⟨0,false,0,by omega,rfl,rfl,rfl,Lib.hid rfl,by first | rfl | trivial⟩
  case round =>
   obtain ⟨q,lo,n,hq,rfl,rfl,rfl,HD,rfl⟩:=hrel
   obtain ⟨y,hy⟩:∃ y,k+q=y:=⟨_,rfl⟩
   rw [hy]
   have HY:=Lib.hid hy
   have hkm:=HKM.out
   have y0:(0:Int)≤(y:Int):=by omega
   by_cases hqm:q<m
   case neg =>
    obtain rfl:q=m:=by omega
    have hyj:¬(y:Int)<(j:Int):=by omega
    have HD2:Hid (Sg.dsc T=some (lo,n)):=Lib.hid (by have h:=HD.out;rw [List.take_of_length_le (by rw [HTL.out];exact Nat.le_refl _)] at h;exact h)
    have HYES:Hid (∀ v,Sg.sgn (lo,n)=v→(-9223372036854775808≤v∧v≤9223372036854775807)→Lib.itoa v=T→∀ w',Below wr.heap.size wr w'→Sg.digE b c O wr (.returned (.tuple #[.int .i64 v,.int .i64 ((j:Int)+1)])) w'):=Lib.hid (fun v hv hr he w' hb=>by
     have h:=Sg.dNum_yes HC.out HIN.out (q:=(lo,n)) (by rw [hv];exact hr) (by rw [hv,HT.out];exact he)
     rw [hv,HR.out] at h
     have hjj:=HJ.out
     refine ⟨v,_,some (L.drop (q+1)),rfl,by rw [←HO.out,HL.out];exact Sg.got_yes h,.inr ⟨j+1,by omega,by omega,?_⟩,hb⟩
     rw [←HL.out,List.drop_drop,show k+(q+1)=j+1 by omega])
    have HNOT:Hid (∀ v,Sg.sgn (lo,n)=v→Lib.itoa v≠T→∀ w',Below wr.heap.size wr w'→Sg.digE b c O wr (.returned (.tuple #[.int .i64 0,.int .i64 (-1)])) w'):=Lib.hid (fun v hv he w' hb=>by
     have h:=Sg.dNum_no HC.out (l:=L) (.inr (.inr (.inr ⟨(lo,n),by rw [HT.out];exact HD2.out,by rw [hv,HT.out];exact he⟩)))
     exact ⟨0,-1,none,rfl,by rw [←HO.out,HL.out];exact Sg.got_no 0 h,.inl ⟨rfl,rfl⟩,hb⟩)
    have HSL:Hid ((b.extract k j).data.toList=T):=Lib.hid (by
     have hjj:=HJ.out
     rw [←HTT.out,←HL.out]
     simp
     rw [show j - k=q by omega])
    have hkj:(k:Int)≤(j:Int):=by omega
    have hjb:(j:Int)≤(b.size:Int):=by omega
    have HRN:=Lib.hid (Sg.dsc_range HD2.out)
    have hsz:∀ v:Int,(Lib.itoa v).length≤20→True:=fun _ _=>trivial
    obtain ⟨X,HX⟩:∃ X,Hid (b.extract k j=X):=⟨_,Lib.hid rfl⟩
    rw [HX.out] at HSL
    have hX:=HX.out
    clear hsz HNT HNO HD HBT hy
    cases lo with
    | true =>
     have hnum:=fun W=>sgdnum_any n HRN.out.1 HRN.out.2 W
     obtain ⟨S,HS⟩:∃ S,Hid ((⟨(Lib.itoa n).toArray⟩:ByteArray)=S):=⟨_,Lib.hid rfl⟩
     simp only [HS.out] at hnum
     have HNUM:=Lib.hid hnum
     clear hnum
     have HCMP:Hid ((S.toList==X.toList)=true↔Lib.itoa n=T):=Lib.hid (by
      rw [←HS.out,Lib.toList_data,Lib.toList_data,HSL.out,beq_iff_eq])
     have HY2:=Lib.hid (HYES.out n rfl HRN.out)
     have HN2:=Lib.hid (HNOT.out n rfl)
     clear HYES HNOT
     go_wp2_with fail
     refine wp_region_bl wr (by kernel_rfl) (by kernel_rfl) (Bl.refl _) ?_
     repeat (first | go_big_quiet_step ((intro hb;exact calls_bl hb (HNUM.out _))) | (refine wpQuiet_step (fun K hK=>?_);go_simp;refine ⟨_,fun _ _=>rfl,hK _ ?_⟩;clear hK K))
     refine wpQuiet_nil ?_
     intro W9 hW9
     cases e9:(S.toList==X.toList)
     ·have HE:=Lib.hid (HN2.out (fun h=>by rw [HCMP.out.2 h] at e9;cases e9) W9 hW9)
      have e10:(S.toList != X.toList)=true:=by rw [bne,e9];rfl
      go_wp2_with fail
      go_ret2
      exact HE.out
     ·have HE:=Lib.hid (HY2.out (HCMP.out.1 e9) W9 hW9)
      have e10:(S.toList != X.toList)=false:=by rw [bne,e9];rfl
      go_wp2_with fail
      go_ret2
      exact HE.out
    | false =>
     obtain ⟨v,HV⟩:∃ v,Hid (Sg.i64 (-n)=v):=⟨_,Lib.hid rfl⟩
     have HVR:Hid (-9223372036854775808≤v∧v≤9223372036854775807):=Lib.hid (by rw [←HV.out];exact Sg.i64_range _)
     have hwn:IntKind.i64.wrap (-n)=v:=by rw [Sg.wrap_i64',HV.out]
     have HSG:Hid (Sg.sgn (false,n)=v):=Lib.hid (by unfold Sg.sgn;rw [if_neg (fun h=>Bool.noConfusion h)];exact HV.out)
     have hnum:=fun W=>sgdnum_any v HVR.out.1 HVR.out.2 W
     obtain ⟨S,HS⟩:∃ S,Hid ((⟨(Lib.itoa v).toArray⟩:ByteArray)=S):=⟨_,Lib.hid rfl⟩
     simp only [HS.out] at hnum
     have HNUM:=Lib.hid hnum
     clear hnum
     have HCMP:Hid ((S.toList==X.toList)=true↔Lib.itoa v=T):=Lib.hid (by
      rw [←HS.out,Lib.toList_data,Lib.toList_data,HSL.out,beq_iff_eq])
     have HY2:=Lib.hid (HYES.out v HSG.out HVR.out)
     have HN2:=Lib.hid (HNOT.out v HSG.out)
     clear HYES HNOT
     go_wp2_with fail
     refine wp_region_bl wr (by kernel_rfl) (by kernel_rfl) (Bl.refl _) ?_
     repeat (first | go_big_quiet_step ((intro hb;exact calls_bl hb (HNUM.out _))) | (refine wpQuiet_step (fun K hK=>?_);go_simp;refine ⟨_,fun _ _=>rfl,hK _ ?_⟩;clear hK K))
     refine wpQuiet_nil ?_
     intro W9 hW9
     cases e9:(S.toList==X.toList)
     ·have HE:=Lib.hid (HN2.out (fun h=>by rw [HCMP.out.2 h] at e9;cases e9) W9 hW9)
      have e10:(S.toList != X.toList)=true:=by rw [bne,e9];rfl
      go_wp2_with fail
      go_ret2
      exact HE.out
     ·have HE:=Lib.hid (HY2.out (HCMP.out.1 e9) W9 hW9)
      have e10:(S.toList != X.toList)=false:=by rw [bne,e9];rfl
      go_wp2_with fail
      go_ret2
      exact HE.out
   have hqT:q<T.length:=by rw [HTL.out];exact hqm
   have hyj:(y:Int)<(j:Int):=by omega
   have hyb:(y:Int)<(b.size:Int):=by omega
   have hyb':y<b.size:=by omega
   have hby:∀ h,(b[y]'h).toNat=T[q].toNat:=fun h=>by
    subst hy
    exact HBT.out q hqT h
   have HST:=Lib.hid (Sg.dsc_step HD.out hqT)
   have hx256:=T[q].toNat_lt
   obtain ⟨X,HX⟩:∃ x:UInt8,Hid (T[q]=x):=⟨_,Lib.hid rfl⟩
   rw [HX.out] at HST hby hx256
   obtain ⟨x,Hx⟩:∃ x:Nat,Hid (X.toNat=x):=⟨_,Lib.hid rfl⟩
   rw [Hx.out] at hby hx256
   by_cases hfirst:q=0∧x=45
   case pos =>
    obtain ⟨hq0,rfl⟩:=hfirst
    have he:((y:Int)==(k:Int))=true:=by rw [beq_iff_eq];omega
    have HD2:=Lib.hid (HST.out.1 hq0 (UInt8.toNat_inj.1 (by rw [Hx.out];rfl)))
    clear hy HST
    go_wp2_with fail
    go_roundw
    case rel=>exact ⟨q+1,true,n,by omega,rfl,rfl,by have:=HY.out;rw [show k+(q+1)=y+1 by omega];go_num,HD2,by first | rfl | trivial⟩
    case measure=>simp [intOf];omega
   have HN1:Hid (¬(q=0∧X=45)):=Lib.hid (fun h=>hfirst ⟨h.1,by rw [←Hx.out,h.2];rfl⟩)
   have HGO:Hid ((((y:Int)==(k:Int))&&((x:Int)==45))=false):=Lib.hid (by
    rw [Bool.and_eq_false_iff,beq_eq_false_iff_ne,beq_eq_false_iff_ne]
    by_cases h0:q=0
    ·exact .inr (fun h=>hfirst ⟨h0,by omega⟩)
    ·exact .inl (by omega))
   by_cases hdig:48≤x∧x≤57
   case neg =>
    have HE:=Lib.hid (HNT.out (HST.out.2.1 HN1.out (by
     unfold Sg.isDig
     rw [Hx.out,Bool.and_eq_false_iff,decide_eq_false_iff_not,decide_eq_false_iff_not]
     omega)))
    clear hy HST hfirst
    rcases (show x<48∨57<x by omega) with hlo | hhi
    ·have t1:(x:Int)<48:=by omega
     have hgo:=HGO.out
     cases e1:((y:Int)==(k:Int))
     ·go_wp2_with fail
      go_ret2
      exact HE.out
     ·rw [e1,Bool.true_and] at hgo
      go_wp2_with fail
      go_ret2
      exact HE.out
    ·have t1:¬(x:Int)<48:=by omega
     have t2:(57:Int)<(x:Int):=by omega
     have hgo:=HGO.out
     cases e1:((y:Int)==(k:Int))
     ·go_wp2_with fail
      go_ret2
      exact HE.out
     ·rw [e1,Bool.true_and] at hgo
      go_wp2_with fail
      go_ret2
      exact HE.out
   have HD2:=Lib.hid (HST.out.2.2 HN1.out (by
    unfold Sg.isDig
    rw [Hx.out,Bool.and_eq_true,decide_eq_true_eq,decide_eq_true_eq]
    omega))
   have t1:¬(x:Int)<48:=by omega
   have t2:¬(57:Int)<(x:Int):=by omega
   obtain ⟨M,HM⟩:∃ M,Hid (Sg.i64 (10 * n)=M):=⟨_,Lib.hid rfl⟩
   obtain ⟨D,HDD⟩:∃ D:Int,Hid ((x:Int) - 48=D):=⟨_,Lib.hid rfl⟩
   obtain ⟨N2,HN2⟩:∃ N,Hid (Sg.dstep n X=N):=⟨_,Lib.hid rfl⟩
   have hDr:0≤D∧D≤9:=by have:=HDD.out;omega
   have hw1:IntKind.i64.wrap (10 * n)=M:=by rw [Sg.wrap_i64',HM.out]
   have hw2:IntKind.u8.wrap ((x:Int) - 48)=D:=by
    rw [←HDD.out]
    unfold IntKind.wrap
    simp [IntKind.bits,IntKind.signed]
    omega
   have hw3:IntKind.i64.wrap D=D:=by rw [IntKind.wrap_i64];omega
   have hw4:IntKind.i64.wrap (M - D)=N2:=by
    rw [Sg.wrap_i64',←HN2.out]
    unfold Sg.dstep
    rw [HM.out,Hx.out,HDD.out]
   rw [HN2.out] at HD2
   clear hy HST hfirst HM HDD HN2 hDr
   have hgo:=HGO.out
   cases e1:((y:Int)==(k:Int))
   ·go_wp2_with fail
    go_roundw
    case rel=>exact ⟨q+1,lo,N2,by omega,rfl,rfl,by have:=HY.out;rw [show k+(q+1)=y+1 by omega];go_num,HD2,by first | rfl | trivial⟩
    case measure=>simp [intOf];omega
   ·rw [e1,Bool.true_and] at hgo
    go_wp2_with fail
    go_roundw
    case rel=>exact ⟨q+1,lo,N2,by omega,rfl,rfl,by have:=HY.out;rw [show k+(q+1)=y+1 by omega];go_num,HD2,by first | rfl | trivial⟩
    case measure=>simp [intOf];omega
end Go.Proofs.YtogijkhenihaaaaGreatDoor
