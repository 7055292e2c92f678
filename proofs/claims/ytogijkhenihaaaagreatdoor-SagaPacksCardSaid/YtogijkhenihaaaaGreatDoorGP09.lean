/- prints, plain: the tokens of a text that is joined by single blanks. (Its first part is taken from XTokBackMath.) No condition. -/
import Derived.Test.YtogijkhenihaaaaGreatDoorGP08
import Derived.Test.YtogijkhenihaaaaGreatDoorGP04
set_option linter.unusedVariables false
set_option linter.unusedSimpArgs false
namespace Go.Proofs.YtogijkhenihaaaaGreatDoor
namespace Tk
theorem ok_byte:∀ x,x<256→(isLetter x||isDigit x||isSign x||decide (x=45))=true→isBlank x=false∧x≠47:=by decide +kernel
theorem one_first {d:Nat} {s:ByteArray} {k:Nat} (he:(oneAt d s k).2=0):(isLetter (byte s k)||isDigit (byte s k)||isSign (byte s k)||decide (byte s k=45))=true:=by
 unfold oneAt at he
 dsimp only at he
 split at he
 ·rename_i h;rw [h];rfl
 ·split at he
  ·rename_i h;rw [h];simp
  ·split at he
   ·rename_i h;rw [h];simp
   ·split at he
    ·rename_i h;simp [h.1]
    ·cases he
theorem gap_zero {d:Nat} {s:ByteArray} {k:Nat} (hk:k<s.size) (he:(oneAt d s k).2=0):gapEnd false s k=k:=by
 have h:=one_first he
 rw [byte_eq hk] at h
 obtain ⟨h1,h2⟩:=ok_byte _ s[k].toNat_lt h
 exact gapEnd_stop hk h1 (fun e=>h2 e.1)
theorem bytes_eq {a b:ByteArray} (h:a.data.toList=b.data.toList):a=b:=by
 have h3:a.data=b.data:=Array.toList_inj.1 h
 cases a;cases b
 simp only at h3
 rw [h3]
theorem extract_self (s:ByteArray):s.extract 0 s.size=s:=by
 apply bytes_eq
 rw [Lib.extract_data,List.drop_zero,Nat.sub_zero]
 exact List.take_of_length_le (by simp)
def placed:List Tok→Nat→List Tok
 | [],_=>[]
 | t::l,k=>{ t with at_:=k }::placed l (k+t.text.size+1)
def Owns (l:List Tok):Prop:=∀ t∈l,0<t.text.size∧oneAt 3 t.text 0=({ t with at_:=0 },0)
theorem front_first {c:ByteArray} {k:Nat} {t:Tok} {r:List UInt8} (hf:from_ c k=t.text.data.toList++r) (hr:r=[]∨∃ r',r=32::r') (h0:0<t.text.size) (ho:oneAt 3 t.text 0=({ t with at_:=0 },0)) (hz:k≤c.size) :
  oneAt 3 c k=({ t with at_:=k },0):=by
 obtain ⟨b,hb⟩:∃ b:ByteArray,b.data.toList=t.text.data.toList++r:=⟨⟨(t.text.data.toList++r).toArray⟩,by simp⟩
 have hcb:∀ j,from_ c (k+j)=from_ b j:=fun j=>by
  unfold from_ at hf ⊢
  rw [hb,←hf,List.drop_drop]
 have hsz:c.size=k+b.size:=by
  have:=congrArg List.length (hcb 0)
  rw [size_from,size_from] at this
  have h2:b.size=b.data.toList.length:=by simp
  omega
 have hs:=shift_one hcb hsz 3 0
 rw [Nat.add_zero] at hs
 have hbt:oneAt 3 b 0=oneAt 3 t.text 0:=by
  rcases hr with rfl | ⟨r',rfl⟩
  ·rw [List.append_nil] at hb
   rw [bytes_eq hb]
  ·exact front_one hb (by decide) (by decide) (by decide) 3 h0
 rw [hs,hbt,ho]
 rfl
def joinT:List Tok→List UInt8
 | []=>[]
 | t::l=>t.text.data.toList++l.flatMap fun u=>32::u.text.data.toList
def jtail:List Tok→List UInt8
 | []=>[]
 | u::r=>32::joinT (u::r)
theorem joinT_cons (t:Tok) (l:List Tok):joinT (t::l)=t.text.data.toList++jtail l:=by
 cases l with
 | nil=>simp [joinT,jtail]
 | cons u r=>simp [joinT,jtail]
theorem scan_joinT (c:ByteArray):∀ (l:List Tok) (f k:Nat) (acc:List Tok),Owns l→k≤c.size→from_ c k=joinT l→c.size<f+k →
  (l≠[]→gapEnd false c k=k)∧scan 3 c f k acc=(acc++placed l k,0,0)
 | [],f,k,acc,_,hk,hf,hF=>by
  have hz:¬k<c.size:=by
   have:=congrArg List.length hf
   rw [size_from] at this
   simp [joinT] at this
   omega
  exact ⟨fun h=>absurd rfl h,by rw [scan_end hz];simp [placed]⟩
 | t::l,f,k,acc,ho,hk,hf,hF=>by
  have ht:=ho t (by simp)
  have hl:Owns l:=fun u hu=>ho u (by simp [hu])
  rw [joinT_cons] at hf
  have hone:=front_first (r:=jtail l) hf (by cases l with | nil=>exact .inl rfl | cons u r=>exact .inr ⟨_,rfl⟩) ht.1 ht.2 hk
  have hlt:k<c.size:=by
   have:=congrArg List.length hf
   rw [size_from,List.length_append] at this
   have e:t.text.data.toList.length=t.text.size:=by simp
   omega
  refine ⟨fun _=>gap_zero hlt (by rw [hone]),?_⟩
  obtain ⟨f,rfl⟩:∃ f',f=f'+1:=⟨f - 1,by omega⟩
  rw [scan_ok hlt (by rw [hone]),hone]
  simp only
  have hok:=oneAt_ok hlt (d:=3) (by rw [hone])
  rw [hone] at hok
  simp only at hok
  have hnext:from_ c (k+t.text.size)=jtail l:=by
   have e1:from_ c (k+t.text.size)=(from_ c k).drop t.text.size:=by unfold from_;rw [List.drop_drop]
   have e2:t.text.size=t.text.data.toList.length:=by simp
   rw [e1,hf,e2,List.drop_append_length]
  cases l with
  | nil =>
   have hnext:from_ c (k+t.text.size)=[]:=hnext
   have hend:¬k+t.text.size<c.size:=by
    have:=congrArg List.length hnext
    rw [size_from] at this
    simp at this
    omega
   rw [gapEnd_end false (by omega),scan_end hend]
   simp [placed]
  | cons u r =>
   have hnext:from_ c (k+t.text.size)=32::joinT (u::r):=hnext
   have hlt2:k+t.text.size<c.size:=by
    have:=congrArg List.length hnext
    rw [size_from] at this
    simp at this
    omega
   have hb:c[k+t.text.size]=32∧from_ c (k+t.text.size+1)=joinT (u::r):=by
    rw [from_cons hlt2] at hnext
    injection hnext with n1 n2
    exact ⟨n1,n2⟩
   have ih:=scan_joinT c (u::r) f (k+t.text.size+1) (acc++[{ t with at_:=k }]) hl (by omega) hb.2 (by omega)
   rw [gapEnd_blank hlt2 (by rw [hb.1];decide),ih.1 (by simp),ih.2]
   simp [placed]
theorem all_joinT {l:List Tok} {c:ByteArray} (ho:Owns l) (hc:c.data.toList=joinT l) (hs:c.size≤65536):all c=(placed l 0,0,0):=by
 have hf:from_ c 0=joinT l:=by unfold from_;rw [hc,List.drop_zero]
 have h:=scan_joinT c l (c.size+1) 0 [] ho (Nat.zero_le _) hf (by omega)
 unfold all
 rw [if_neg (by omega)]
 cases l with
 | nil =>
  have hz:c.size=0:=by
   have:=congrArg List.length hf
   rw [size_from] at this
   simpa [joinT] using this
  rw [gapEnd_end false (by omega),h.2,List.nil_append]
 | cons t r=>rw [h.1 (by simp),h.2,List.nil_append]
end Tk
end Go.Proofs.YtogijkhenihaaaaGreatDoor
set_option linter.unusedVariables false
set_option linter.unusedSimpArgs false
namespace Go.Proofs.YtogijkhenihaaaaGreatDoor
namespace Id
/-- A token without its place. -/
def z (t:Tk.Tok):Tk.Tok:={ t with at_:=0 }
def zs (s:St):St:=(s.1.map z,s.2)
theorem is_z (s:St) (x:ByteArray):is (zs s) x=is s x:=by
 obtain ⟨l,b⟩:=s
 cases l <;> rfl
theorem zs_tail (s:St):((zs s).1.tail,(zs s).2)=zs (s.1.tail,s.2):=by
 obtain ⟨l,b⟩:=s
 cases l <;> rfl
theorem take_z (s:St) (x:ByteArray):take (zs s) x=((take s x).1,zs (take s x).2):=by
 unfold take
 rw [is_z]
 split
 ·rw [zs_tail]
 ·rfl
theorem want_z (s:St) (x:ByteArray):want (zs s) x=zs (want s x):=by
 unfold want
 rw [is_z]
 split
 ·rw [zs_tail]
 ·rfl
theorem one_z (s:St) (k:Nat) (p:Tk.Tok→Bool) (hp:∀ t,p (z t)=p t):(one (zs s) k p).1.text=(one s k p).1.text∧(one (zs s) k p).1.num=(one s k p).1.num∧(one (zs s) k p).2=zs (one s k p).2:=by
 obtain ⟨l,b⟩:=s
 cases b
 ·cases l with
  | nil=>exact ⟨rfl,rfl,rfl⟩
  | cons t r =>
   unfold one zs
   simp only [List.map_cons,hp]
   have hk:(z t).kind=t.kind:=rfl
   rw [hk]
   split
   ·exact ⟨rfl,rfl,rfl⟩
   ·exact ⟨rfl,rfl,rfl⟩
 ·cases l <;> exact ⟨rfl,rfl,rfl⟩
theorem name_z (s:St):name (zs s)=((name s).1,zs (name s).2):=by
 obtain ⟨h1,_,h3⟩:=one_z s 1 (fun t=>Tk.isName t.text) (fun t=>rfl)
 unfold name
 rw [h1,h3]
theorem words_z (ws:List ByteArray) (s:St):words ws (zs s)=((words ws s).1,zs (words ws s).2):=by
 obtain ⟨h1,_,h3⟩:=one_z s 1 (among ws) (fun t=>rfl)
 unfold words
 rw [h1,h3]
theorem num_z (s:St):num (zs s)=((num s).1,zs (num s).2):=by
 obtain ⟨_,h2,h3⟩:=one_z s 2 (fun _=>true) (fun t=>rfl)
 unfold num
 rw [h2,h3]
theorem ends_z (s:St):ends (zs s)=ends s∧head (zs s)=head s:=by
 obtain ⟨l,b⟩:=s
 cases l <;> exact ⟨rfl,rfl⟩
theorem sortsF_z:∀ (f:Nat) (s:St) (acc:List Srt),sortsF f (zs s) acc=((sortsF f s acc).1,zs (sortsF f s acc).2)
 | 0,s,acc=>rfl
 | f+1,s,acc=>by
  unfold sortsF
  have hb:(zs s).2=s.2:=rfl
  have ht:((zs s).1.tail,s.2)=zs (s.1.tail,s.2):=zs_tail s
  rw [hb,is_z,is_z,(ends_z s).1,(ends_z s).2,ht,name_z,sortsF_z f,sortsF_z f]
  split
  ·rfl
  ·split
   ·rfl
   ·split
    ·rfl
    ·split <;> rfl
theorem zs_len (s:St):(zs s).1.length=s.1.length:=by simp [zs]
theorem sorts_z (s:St):sorts (zs s)=((sorts s).1,zs (sorts s).2):=by
 unfold sorts
 rw [zs_len,sortsF_z]
theorem field_z (s:St):field (zs s)=((field s).1,zs (field s).2):=by
 simp only [field,name_z,want_z,sorts_z]
theorem arg_z (s:St):arg (zs s)=((arg s).1,zs (arg s).2):=by
 simp only [arg,name_z,want_z]
theorem step_z (s:St):step (zs s)=((step s).1,zs (step s).2):=by
 simp only [step,name_z,want_z,num_z]
theorem method_z (s:St):method (zs s)=((method s).1,zs (method s).2):=by
 simp only [method,name_z,want_z,words_z,arg_z,take_z]
 split
 ·simp only [name_z,want_z]
 ·simp only [want_z]
theorem withinF_z {α:Type} {read:St→α × St} (hr:∀ s,read (zs s)=((read s).1,zs (read s).2)):∀ (f:Nat) (s:St) (acc:List α),withinF read f (zs s) acc=((withinF read f s acc).1,zs (withinF read f s acc).2)
 | 0,s,acc=>rfl
 | f+1,s,acc=>by
  unfold withinF
  have hb:(zs s).2=s.2:=rfl
  have hb2:(zs (read s).2).2=(read s).2.2:=rfl
  have ht:((zs s).1.tail,s.2)=zs (s.1.tail,s.2):=zs_tail s
  rw [hb,is_z,ht,hr,withinF_z hr f]
  simp only [hb2]
  split
  ·rfl
  ·split <;> rfl
theorem within_z {α:Type} {read:St→α × St} (hr:∀ s,read (zs s)=((read s).1,zs (read s).2)) (s:St):within read (zs s)=((within read s).1,zs (within read s).2):=by
 unfold within
 rw [want_z,zs_len,withinF_z hr]
theorem record_z (c:Bool) (s:St):record c (zs s)=((record c s).1,zs (record c s).2):=by
 simp only [record,name_z,within_z field_z]
theorem service_z (s:St):service (zs s)=((service s).1,zs (service s).2):=by
 simp only [service,name_z,within_z method_z]
theorem saga_z (s:St):saga (zs s)=((saga s).1,zs (saga s).2):=by
 simp only [saga,name_z,arg_z,within_z step_z]
/-- One declaration: what it adds. -/
def round (s:St):(Sch→Sch) × St :=
 let y:=(words decls s).1
 let s4:=(words decls s).2
 if y.toList=[114,101,99,111,114,100] then (fun x=>{ x with records:=x.records++[(record false s4).1] },(record false s4).2) else
 if y.toList=[99,104,111,105,99,101] then (fun x=>{ x with records:=x.records++[(record true s4).1] },(record true s4).2) else
 if y.toList=[115,101,114,118,105,99,101] then (fun x=>{ x with services:=x.services++[(service s4).1] },(service s4).2) else
 if y.toList=[115,97,103,97] then (fun x=>{ x with sagas:=x.sagas++[(saga s4).1] },(saga s4).2) else
 (fun x=>x,s4)
theorem schemaF_round (f:Nat) (s:St) (x:Sch):schemaF (f+1) s x=if s.2=true∨s.1=[] then (x,s) else schemaF f (round s).2 ((round s).1 x):=by
 rw [schemaF]
 split
 ·rfl
 ·unfold round
  dsimp only
  split
  ·rfl
  ·split
   ·rfl
   ·split
    ·rfl
    ·split <;> rfl
theorem round_z (s:St):round (zs s)=((round s).1,zs (round s).2):=by
 unfold round
 dsimp only
 simp only [words_z,record_z,service_z,saga_z]
 split
 ·rfl
 ·split
  ·rfl
  ·split
   ·rfl
   ·split <;> rfl
theorem schemaF_z:∀ (f:Nat) (s:St) (x:Sch),schemaF f (zs s) x=((schemaF f s x).1,zs (schemaF f s x).2)
 | 0,s,x=>rfl
 | f+1,s,x=>by
  rw [schemaF_round,schemaF_round,round_z]
  have hb:(zs s).2=s.2:=rfl
  have hn:(zs s).1=[]↔s.1=[]:=by simp [zs]
  rw [hb]
  simp only [hn]
  rw [schemaF_z f]
  split <;> rfl
/-- f over more tokens is f, unless it ran out of tokens; behind a fault it does nothing. -/
structure RdW {α:Type} (f:St→α × St):Prop where
 loc:∀ r m,(f (r,false)).2=([],true)∨f (r++m,false)=((f (r,false)).1,((f (r,false)).2.1++m,(f (r,false)).2.2))
 bad:∃ c,∀ r,f (r,true)=(c,(r,true))
structure Rd {α:Type} (f:St→α × St):Prop extends RdW f where
 nil:(f ([],false)).2=([],true)
def bnd {α β:Type} (f:St→α × St) (g:α→St→β × St):St→β × St:=fun s=>g (f s).1 (f s).2
def ret {α:Type} (c:α):St→α × St:=fun s=>(c,s)
def wnt (x:ByteArray):St→Unit × St:=fun s=>((),want s x)
theorem RdW.bind {α β:Type} {f:St→α × St} {g:α→St→β × St} (hf:RdW f) (hg:∀ x,RdW (g x)):RdW (bnd f g):=by
 refine ⟨fun r m=>?_,?_⟩
 ·have key:∀ (x:α) (q:List Tk.Tok) (b:Bool),(g x (q,b)).2=([],true)∨g x (q++m,b)=((g x (q,b)).1,((g x (q,b)).2.1++m,(g x (q,b)).2.2)):=fun x q b=>by
   cases b
   ·exact (hg x).loc q m
   ·obtain ⟨c,hc⟩:=(hg x).bad
    right
    rw [hc,hc]
  rcases hf.loc r m with h | h
  ·left
   obtain ⟨c,hc⟩:=(hg (f (r,false)).1).bad
   show (g (f (r,false)).1 (f (r,false)).2).2=_
   rw [h,hc]
  ·have e:(f (r,false)).2=((f (r,false)).2.1,(f (r,false)).2.2):=rfl
   rcases key (f (r,false)).1 (f (r,false)).2.1 (f (r,false)).2.2 with k | k
   ·left
    exact k
   ·right
    show g (f (r++m,false)).1 (f (r++m,false)).2=_
    rw [h]
    exact k
 ·obtain ⟨c,hc⟩:=hf.bad
  obtain ⟨d,hd⟩:=(hg c).bad
  exact ⟨d,fun r=>by show g (f (r,true)).1 (f (r,true)).2=_;rw [hc,hd]⟩
theorem Rd.bind {α β:Type} {f:St→α × St} {g:α→St→β × St} (hf:Rd f) (hg:∀ x,RdW (g x)):Rd (bnd f g) :=
 ⟨hf.toRdW.bind hg,by
  obtain ⟨c,hc⟩:=(hg (f ([],false)).1).bad
  show (g (f ([],false)).1 (f ([],false)).2).2=_
  rw [hf.nil,hc]⟩
theorem RdW.ret {α:Type} (c:α):RdW (ret c):=⟨fun r m=>.inr rfl,⟨c,fun r=>rfl⟩⟩
theorem rd_one (k:Nat) (p:Tk.Tok→Bool):Rd (fun s=>one s k p):=by
 refine ⟨⟨fun r m=>?_,⟨⟨0,⟨#[]⟩,0,0⟩,fun r=>by cases r <;> rfl⟩⟩,rfl⟩
 cases r with
 | nil=>exact .inl rfl
 | cons t r =>
  right
  simp only [List.cons_append]
  unfold one
  dsimp only
  split <;> rfl
theorem rd_want (x:ByteArray):Rd (wnt x):=by
 refine ⟨⟨fun r m=>?_,⟨(),fun r=>rfl⟩⟩,rfl⟩
 cases r with
 | nil=>exact .inl rfl
 | cons t r =>
  right
  have h:is (t::r++m,false) x=is (t::r,false) x:=rfl
  unfold wnt want
  dsimp only
  rw [h]
  split <;> rfl
theorem rd_name:Rd name:=show Rd (bnd (fun s=>one s 1 (fun t=>Tk.isName t.text)) fun t=>ret t.text) from (rd_one 1 (fun t=>Tk.isName t.text)).bind fun t=>RdW.ret t.text
theorem rd_words (ws:List ByteArray):Rd (words ws):=show Rd (bnd (fun s=>one s 1 (among ws)) fun t=>ret t.text) from (rd_one 1 (among ws)).bind fun t=>RdW.ret t.text
theorem rd_num:Rd num:=show Rd (bnd (fun s=>one s 2 (fun _=>true)) fun t=>ret t.num) from (rd_one 2 (fun _=>true)).bind fun t=>RdW.ret t.num
theorem sortsF_more:∀ (f f':Nat) (r m:List Tk.Tok) (acc:List Srt),r.length<f→r.length+m.length<f' →
  (sortsF f (r,false) acc).2=([],true)∨sortsF f' (r++m,false) acc=((sortsF f (r,false) acc).1,((sortsF f (r,false) acc).2.1++m,(sortsF f (r,false) acc).2.2))
 | 0,f',r,m,acc,h,_=>by omega
 | f+1,0,r,m,acc,_,h=>by omega
 | f+1,f'+1,[],m,acc,h,h'=>by
  left
  unfold sortsF
  have h1:is ([],false) wList=false:=rfl
  have h2:is ([],false) wOpt=false:=rfl
  have h3:ends ([],false)=false:=rfl
  simp only [h1,h2,h3]
  rfl
 | f+1,f'+1,t::r,m,acc,h,h'=>by
  simp only [List.length_cons] at h h'
  have h1:is (t::r++m,false) wList=is (t::r,false) wList:=rfl
  have h2:is (t::r++m,false) wOpt=is (t::r,false) wOpt:=rfl
  have h3:ends (t::r++m,false)=ends (t::r,false):=rfl
  have h4:head (t::r++m,false)=head (t::r,false):=rfl
  have h5:((t::r++m,false):St).1.tail=r++m:=rfl
  have h6:((t::r,false):St).1.tail=r:=rfl
  unfold sortsF
  rw [h1,h2,h3,h4,h5,h6]
  simp only [Bool.false_eq_true,if_false]
  by_cases e1:is (t::r,false) wList=true
  ·simp only [if_pos e1]
   exact sortsF_more f f' r m _ (by omega) (by omega)
  ·simp only [if_neg e1]
   by_cases e2:is (t::r,false) wOpt=true
   ·simp only [if_pos e2]
    exact sortsF_more f f' r m _ (by omega) (by omega)
   ·simp only [if_neg e2]
    by_cases e3:ends (t::r,false)=true
    ·simp only [if_pos e3]
     exact .inr trivial
    ·simp only [if_neg e3]
     rcases rd_name.loc (t::r) m with k | k
     ·exact .inl k
     ·right
      rw [k]
theorem rd_sorts:Rd sorts:=by
 refine ⟨⟨fun r m=>?_,⟨[],fun r=>?_⟩⟩,?_⟩
 ·exact sortsF_more _ _ r m [] (Nat.lt_succ_self _) (by simp)
 ·unfold sorts sortsF;rfl
 ·rcases sortsF_more 1 1 [] [] [] (by simp) (by simp) with h | h
  ·exact h
  ·unfold sorts sortsF
   have h1:is ([],false) wList=false:=rfl
   have h2:is ([],false) wOpt=false:=rfl
   have h3:ends ([],false)=false:=rfl
   simp only [h1,h2,h3]
   rfl
theorem rd_field:Rd field:=show Rd (bnd name fun n=>(bnd (wnt sColon) fun _=>(bnd sorts fun ty=>(bnd (wnt sSemi) fun _=>ret (⟨n,ty⟩:Fld))))) from rd_name.bind fun n=>((rd_want sColon).bind fun _=>(rd_sorts.bind fun ty=>((rd_want sSemi).bind fun _=>RdW.ret _).toRdW).toRdW).toRdW
theorem rd_arg:Rd arg:=show Rd (bnd (wnt sOpen) fun _=>(bnd name fun n=>(bnd (wnt sClose) fun _=>ret (n:ByteArray)))) from (rd_want sOpen).bind fun _=>(rd_name.bind fun n=>((rd_want sClose).bind fun _=>RdW.ret _).toRdW).toRdW
theorem rd_step:Rd step:=show Rd (bnd (wnt wDo) fun _=>(bnd name fun a=>(bnd (wnt sDot) fun _=>(bnd name fun b=>(bnd (wnt wAt) fun _=>(bnd num fun d=>(bnd (wnt sSemi) fun _=>ret (⟨a,b,d⟩:Stp)))))))) from (rd_want wDo).bind fun _=>(rd_name.bind fun a=>((rd_want sDot).bind fun _=>(rd_name.bind fun b=>((rd_want wAt).bind fun _=>(rd_num.bind fun d=>((rd_want sSemi).bind fun _=>RdW.ret _).toRdW).toRdW).toRdW).toRdW).toRdW).toRdW
/-- 'undo' or not, and the end. -/
def undoing (s:St):ByteArray × St :=
 let t:=take s wUndo
 let u:=if t.1 then name t.2 else (⟨#[]⟩,t.2)
 (u.1,want u.2 sSemi)
theorem rd_undoing:Rd undoing:=by
 have hN:Rd (bnd name fun n=>bnd (wnt sSemi) fun _=>ret n):=rd_name.bind fun n=>((rd_want sSemi).bind fun _=>RdW.ret n).toRdW
 have hW:Rd (bnd (wnt sSemi) fun _=>ret (⟨#[]⟩:ByteArray)):=(rd_want sSemi).bind fun _=>RdW.ret (⟨#[]⟩:ByteArray)
 have hu:∀ s,undoing s=if is s wUndo=true then ((name (s.1.tail,s.2)).1,want (name (s.1.tail,s.2)).2 sSemi) else (⟨#[]⟩,want s sSemi):=fun s=>by
  unfold undoing take
  by_cases h:is s wUndo=true
  ·simp only [if_pos h,if_true]
  ·simp only [if_neg h,Bool.false_eq_true,if_false]
 refine ⟨⟨fun r m=>?_,⟨⟨#[]⟩,fun r=>rfl⟩⟩,rfl⟩
 rw [hu,hu]
 cases r with
 | nil=>exact .inl rfl
 | cons t r =>
  have h:is (t::r++m,false) wUndo=is (t::r,false) wUndo:=rfl
  rw [h]
  by_cases e:is (t::r,false) wUndo=true
  ·simp only [if_pos e]
   exact hN.loc r m
  ·simp only [if_neg e]
   exact hW.loc (t::r) m
theorem rd_method:Rd method:=show Rd (bnd (words [wGive,wTake,wNote]) fun e=>(bnd name fun n=>(bnd arg fun a=>(bnd (wnt sArrow) fun _=>(bnd (words [wInt,wNone]) fun d=>(bnd undoing fun u=>ret (⟨n,a,endW d,e,u⟩:Mth))))))) from (rd_words [wGive,wTake,wNote]).bind fun e=>(rd_name.bind fun n=>(rd_arg.bind fun a=>((rd_want sArrow).bind fun _=>((rd_words [wInt,wNone]).bind fun d=>(rd_undoing.bind fun u=>RdW.ret _).toRdW).toRdW).toRdW).toRdW).toRdW
theorem withinF_more {α:Type} {read:St→α × St} (hr:Rd read) (hp:∀ s,(read s).2.2=false→(read s).2.1.length<s.1.length):∀ (f f':Nat) (r m:List Tk.Tok) (acc:List α),r.length+2≤f→r.length+m.length+2≤f' →
  (withinF read f (r,false) acc).2=([],true)∨withinF read f' (r++m,false) acc=((withinF read f (r,false) acc).1,((withinF read f (r,false) acc).2.1++m,(withinF read f (r,false) acc).2.2))
 | 0,f',r,m,acc,h,_=>by omega
 | f+1,0,r,m,acc,_,h=>by omega
 | f+1,f'+1,[],m,acc,h,h'=>by
  left
  have h1:is ([],false) sRight=false:=rfl
  unfold withinF
  simp only [h1,Bool.false_eq_true,if_false]
  have:=hr.nil
  generalize read ([],false)=q at *
  obtain ⟨x,s⟩:=q
  simp only at this
  subst this
  simp only [if_true]
  cases f <;> rfl
 | f+1,f'+1,t::r,m,acc,h,h'=>by
  simp only [List.length_cons] at h h'
  have h1:is (t::r++m,false) sRight=is (t::r,false) sRight:=rfl
  have h5:((t::r++m,false):St).1.tail=r++m:=rfl
  have h6:((t::r,false):St).1.tail=r:=rfl
  unfold withinF
  rw [h1,h5,h6]
  simp only [Bool.false_eq_true,if_false]
  by_cases e1:is (t::r,false) sRight=true
  ·simp only [if_pos e1]
   exact .inr trivial
  ·simp only [if_neg e1]
   have hp1:=hp (t::r,false)
   rcases hr.loc (t::r) m with k | k
   ·left
    generalize read (t::r,false)=q at *
    obtain ⟨x,s⟩:=q
    simp only at k
    subst k
    simp only [if_true]
    cases f <;> rfl
   ·rw [k]
    generalize read (t::r,false)=q at *
    obtain ⟨x,⟨q1,b⟩⟩:=q
    cases b
    ·simp only [Bool.false_eq_true,if_false]
     have:=hp1 rfl
     simp only [List.length_cons] at this
     exact withinF_more hr hp f f' q1 m _ (by omega) (by omega)
    ·right
     simp only [if_true]
     have e:∀ (F:Nat) (q:List Tk.Tok),withinF read F (q,true) acc=(acc,(q,true)):=fun F q=>by cases F <;> simp [withinF]
     rw [e,e]
theorem rd_within {α:Type} {read:St→α × St} (hr:Rd read) (hp:∀ s,(read s).2.2=false→(read s).2.1.length<s.1.length):Rd (within read):=by
 have e:∀ (F:Nat) (q:List Tk.Tok) (acc:List α),withinF read F (q,true) acc=(acc,(q,true)):=fun F q acc=>by cases F <;> simp [withinF]
 refine ⟨⟨fun r m=>?_,⟨[],fun r=>by unfold within;rw [show want (r,true) sLeft=(r,true) from rfl,e]⟩⟩,by unfold within;rw [show want ([],false) sLeft=([],true) from rfl,e]⟩
 unfold within
 rcases (rd_want sLeft).loc r m with k | k
 ·left
  have k':want (r,false) sLeft=([],true):=k
  rw [k',e]
 ·have k2:want (r++m,false) sLeft=((want (r,false) sLeft).1++m,(want (r,false) sLeft).2):=congrArg Prod.snd k
  rw [k2]
  generalize want (r,false) sLeft=q at *
  obtain ⟨q1,b⟩:=q
  cases b
  ·exact withinF_more hr hp _ _ q1 m [] (Nat.le_refl _) (by simp)
  ·right
   rw [e,e]
theorem rd_record (c:Bool):Rd (record c):=show Rd (bnd name fun n=>(bnd (within field) fun fs=>ret (⟨n,c,fs⟩:Rec))) from rd_name.bind fun n=>((rd_within rd_field (fun s=>field_good)).bind fun fs=>RdW.ret _).toRdW
theorem rd_service:Rd service:=show Rd (bnd name fun n=>(bnd (within method) fun fs=>ret (⟨n,fs⟩:Svc))) from rd_name.bind fun n=>((rd_within rd_method (fun s=>method_good)).bind fun fs=>RdW.ret _).toRdW
theorem rd_saga:Rd saga:=show Rd (bnd name fun n=>(bnd arg fun a=>(bnd (within step) fun fs=>ret (⟨n,a,fs⟩:Sag)))) from rd_name.bind fun n=>(rd_arg.bind fun a=>((rd_within rd_step (fun s=>step_good)).bind fun fs=>RdW.ret _).toRdW).toRdW
theorem rd_round:Rd round:=by
 have e:round=bnd (words decls) (fun y=>if y.toList=[114,101,99,111,114,100] then bnd (record false) (fun r=>ret (fun x:Sch=>{ x with records:=x.records++[r] })) else
   if y.toList=[99,104,111,105,99,101] then bnd (record true) (fun r=>ret (fun x:Sch=>{ x with records:=x.records++[r] })) else
   if y.toList=[115,101,114,118,105,99,101] then bnd service (fun r=>ret (fun x:Sch=>{ x with services:=x.services++[r] })) else
   if y.toList=[115,97,103,97] then bnd saga (fun r=>ret (fun x:Sch=>{ x with sagas:=x.sagas++[r] })) else ret (fun x:Sch=>x)):=by
  funext s
  unfold round bnd
  dsimp only
  split
  ·rfl
  ·split
   ·rfl
   ·split
    ·rfl
    ·split <;> rfl
 rw [e]
 refine (rd_words _).bind fun y=>?_
 split
 ·exact ((rd_record false).bind fun r=>RdW.ret _).toRdW
 ·split
  ·exact ((rd_record true).bind fun r=>RdW.ret _).toRdW
  ·split
   ·exact (rd_service.bind fun r=>RdW.ret _).toRdW
   ·split
    ·exact (rd_saga.bind fun r=>RdW.ret _).toRdW
    ·exact RdW.ret _
theorem round_good {s:St} (h0:s.2=false) (h:(round s).2.2=false):(round s).2.1.length<s.1.length:=by
 have hw:=words_cases decls s h0
 unfold round at h ⊢
 dsimp only at h ⊢
 generalize words decls s=wd at *
 obtain ⟨y,s4⟩:=wd
 simp only at hw h ⊢
 rcases hw with ⟨h1,h2⟩ | ⟨h1,h2⟩
 ·have k1:=record_le false s4
  have k2:=record_le true s4
  have k3:=service_le s4
  have k4:=saga_le s4
  split
  ·simp only;omega
  ·split
   ·simp only;omega
   ·split
    ·simp only;omega
    ·split
     ·simp only;omega
     ·simp only;omega
 ·subst h2
  have hn:∀ L:List UInt8,L≠[]→¬(⟨#[]⟩:ByteArray).toList=L:=fun L hL e=>hL (by rw [empty_toList] at e;exact e.symm)
  rw [if_neg (hn _ (by simp)),if_neg (hn _ (by simp)),if_neg (hn _ (by simp)),if_neg (hn _ (by simp))] at h
  simp only at h
  rw [h1] at h
  cases h
theorem schemaF_true (f:Nat) (q:List Tk.Tok) (x:Sch):schemaF f (q,true) x=(x,(q,true)):=by
 cases f with
 | zero=>rfl
 | succ f=>rw [schemaF_round,if_pos (.inl rfl)]
theorem schemaF_nil (f:Nat) (x:Sch):schemaF f ([],false) x=(x,([],false)):=by
 cases f with
 | zero=>rfl
 | succ f=>rw [schemaF_round,if_pos (.inr rfl)]
theorem schemaF_cons (f:Nat) (t:Tk.Tok) (r:List Tk.Tok) (x:Sch):schemaF (f+1) (t::r,false) x=schemaF f (round (t::r,false)).2 ((round (t::r,false)).1 x):=by
 rw [schemaF_round,if_neg (by simp)]
theorem schemaF_fuel:∀ (f f':Nat) (r:List Tk.Tok) (x:Sch),r.length+2≤f→r.length+2≤f'→schemaF f (r,false) x=schemaF f' (r,false) x
 | 0,f',r,x,h,_=>by omega
 | f+1,0,r,x,_,h=>by omega
 | f+1,f'+1,[],x,_,_=>by rw [schemaF_nil,schemaF_nil]
 | f+1,f'+1,t::r,x,h,h'=>by
  simp only [List.length_cons] at h h'
  rw [schemaF_cons,schemaF_cons]
  have hg:=@round_good (t::r,false) rfl
  generalize round (t::r,false)=q at *
  obtain ⟨g,⟨q1,b⟩⟩:=q
  cases b
  ·have:=hg rfl
   simp only [List.length_cons] at this
   exact schemaF_fuel f f' q1 _ (by omega) (by omega)
  ·rw [schemaF_true,schemaF_true]
theorem schemaF_ahead:∀ (f f':Nat) (r m:List Tk.Tok) (x y:Sch) (t:Tk.Tok) (q:List Tk.Tok),r.length+2≤f→r.length+m.length+2≤f' →
  schemaF f (r,false) x=(y,(t::q,true))→schemaF f' (r++m,false) x=(y,(t::q++m,true))
 | 0,f',r,m,x,y,t,q,h,_,_=>by omega
 | f+1,0,r,m,x,y,t,q,_,h,_=>by omega
 | f+1,f'+1,[],m,x,y,t,q,_,_,e=>by rw [schemaF_nil] at e;cases e
 | f+1,f'+1,u::r,m,x,y,t,q,h,h',e=>by
  simp only [List.length_cons] at h h'
  rw [schemaF_cons] at e
  rw [List.cons_append,schemaF_cons]
  have hg:=@round_good (u::r,false) rfl
  rcases rd_round.loc (u::r) m with k | k
  ·rw [k,schemaF_true] at e
   cases e
  ·rw [List.cons_append] at k
   rw [k]
   generalize round (u::r,false)=w at *
   obtain ⟨g,⟨q1,b⟩⟩:=w
   cases b
   ·have:=hg rfl
    simp only [List.length_cons] at this
    exact schemaF_ahead f f' q1 m _ y t q (by omega) (by omega) e
   ·simp only at e ⊢
    rw [schemaF_true] at e ⊢
    injection e with e1 e2
    injection e2 with e3 _
    rw [e1,e3]
theorem schemaF_more:∀ (f f' f'':Nat) (r m:List Tk.Tok) (x y:Sch),r.length+2≤f→r.length+m.length+2≤f'→m.length+2≤f'' →
  schemaF f (r,false) x=(y,([],false))→schemaF f' (r++m,false) x=schemaF f'' (m,false) y
 | 0,f',f'',r,m,x,y,h,_,_,_=>by omega
 | f+1,0,f'',r,m,x,y,_,h,_,_=>by omega
 | f+1,f'+1,f'',[],m,x,y,_,h',h'',e=>by
  rw [schemaF_nil] at e
  injection e with e _
  subst e
  rw [List.nil_append]
  exact schemaF_fuel _ _ m _ (by simpa using h') h''
 | f+1,f'+1,f'',u::r,m,x,y,h,h',h'',e=>by
  simp only [List.length_cons] at h h'
  rw [schemaF_cons] at e
  rw [List.cons_append,schemaF_cons]
  have hg:=@round_good (u::r,false) rfl
  rcases rd_round.loc (u::r) m with k | k
  ·rw [k,schemaF_true] at e
   cases e
  ·rw [List.cons_append] at k
   rw [k]
   generalize round (u::r,false)=w at *
   obtain ⟨g,⟨q1,b⟩⟩:=w
   cases b
   ·have:=hg rfl
    simp only [List.length_cons] at this
    exact schemaF_more f f' f'' q1 m _ y (by omega) (by omega) h'' e
   ·simp only at e
    rw [schemaF_true] at e
    cases e
/-- The declarations of another one behind. -/
def cat (x y:Sch):Sch:=⟨x.name,x.records++y.records,x.services++y.services,x.sagas++y.sagas⟩
theorem round_cat (s:St) (x y:Sch):(round s).1 (cat x y)=cat x ((round s).1 y):=by
 unfold round
 dsimp only
 split
 ·simp [cat]
 ·split
  ·simp [cat]
  ·split
   ·simp [cat]
   ·split
    ·simp [cat]
    ·rfl
theorem schemaF_cat:∀ (f:Nat) (s:St) (x y:Sch),schemaF f s (cat x y)=(cat x (schemaF f s y).1,(schemaF f s y).2)
 | 0,s,x,y=>rfl
 | f+1,s,x,y=>by
  rw [schemaF_round,schemaF_round,round_cat,schemaF_cat f]
  split <;> rfl
end Id
end Go.Proofs.YtogijkhenihaaaaGreatDoor
