/- prints: the writer: put, text, sorts (printed by gen_prna.py). No condition. -/
import Derived.Test.YtjfdohhdkdjifaaGreatDoorPE04
import Derived.Test.YtjfdohhdkdjifaaGreatDoorPE01
import Derived.Test.YtjfdohhdkdjifaaGreatDoorPE05
import Derived.Test.YtjfdohhdkdjifaaGreatDoorPE02
set_option linter.unusedVariables false
set_option linter.unusedSimpArgs false
namespace Go.Proofs.YtjfdohhdkdjifaaGreatDoor
open Go.RowKit Go.BigFrame
/-- Nothing but cells of blocks of two types was written; memory may have grown. -/
structure Onl (a b:TypeId) (w w':World):Prop where
 os:w'.os=w.os
 tape:w'.tape=w.tape
 output:w'.output=w.output
 size:w.heap.size≤w'.heap.size
 block:∀ (g:Nat) (o:Obj),w.heap[g]?=some o→(∀ (cs:Array Value) (fr:Nat × Nat),o≠Obj.cells cs a fr)→(∀ (cs:Array Value) (fr:Nat × Nat),o≠Obj.cells cs b fr)→w'.heap[g]?=some o
theorem Onl.refl (a b:TypeId) (w:World):Onl a b w w:=⟨rfl,rfl,rfl,Nat.le_refl _,fun _ _ h _ _=>h⟩
theorem Onl.trans {a b:TypeId} {w w' w'':World} (h:Onl a b w w') (k:Onl a b w' w''):Onl a b w w'':=⟨k.os.trans h.os,k.tape.trans h.tape,k.output.trans h.output,Nat.le_trans h.size k.size,fun g o hg h1 h2=>k.block g o (h.block g o hg h1 h2) h1 h2⟩
theorem Onl.left {a b:TypeId} {w w':World} (h:Only a w w'):Onl a b w w':=⟨h.os,h.tape,h.output,h.size,fun g o hg h1 _=>h.block g o hg h1⟩
theorem Onl.right {a b:TypeId} {w w':World} (h:Only b w w'):Onl a b w w':=⟨h.os,h.tape,h.output,h.size,fun g o hg _ h2=>h.block g o hg h2⟩
theorem Onl.below {a b:TypeId} {w w':World} (h:Below w.heap.size w w'):Onl a b w w':=Onl.left (Only.below h)
theorem Onl.bk {a b:TypeId} {w w':World} (h:Onl a b w w') {g:Nat} {t:TypeId} {cs:Array Value} (hg:Bk w g t cs) (h1:t≠a) (h2:t≠b):Bk w' g t cs :=
 h.block g _ hg (fun cs' fr' e'=>by injection e' with _ e2;exact h1 e2) (fun cs' fr' e'=>by injection e' with _ e2;exact h2 e2)
namespace Prn
open Go.Proofs.YtjfdohhdkdjifaaGreatDoor.Id
abbrev On (w w':World):Prop:=Onl 9 75 w w'
/-- The writer's block, with the words so far. -/
structure Wr (w:World) (base b:Nat) (L:List ByteArray):Prop where
 lo:base≤b
 hi:base≤w.heap.size
 at_:∃ v,Bk w b 75 #[v]∧StrsR w (some base) v L
theorem Wr.below {w w':World} {base b:Nat} {L:List ByteArray} (h:Wr w base b L) (hb:Below w.heap.size w w'):Wr w' base b L :=
 let ⟨v,h1,h2⟩:=h.at_
 ⟨h.lo,Nat.le_trans h.hi hb.size,v,h1.below hb h1.lt,ERow.below h2 hb (fun _ _ h=>h)⟩
/-- Behind a call that put words: the base world lies as it did. -/
structure Put (w0 w:World) (b:Nat) (L M:List ByteArray) (w':World):Prop where
 wr:Wr w' w0.heap.size b (L++M)
 bel:Below w0.heap.size w0 w'
 on:On w w'
end Prn
theorem ne_writer_string:75≠9:=by decide
/-- A literal row of words. -/
theorem flat_single (l:List ByteArray):(l.map fun x=>[Value.string x]).flatten=l.map Value.string:=by
 induction l with
 | nil=>rfl
 | cons a l ih=>simp only [List.map_cons,List.flatten_cons,ih,List.singleton_append]
theorem strs_lit {W W1:World} {l:List ByteArray} (h:W1=W.alloc (.cells (l.map Value.string).toArray 9)) (hl:l.length≤9223372036854775807):StrsR W1 (some W.heap.size) (.slice (some ⟨W.heap.size,0,none⟩) l.length l.length) l:=by
 subst h
 refine ⟨l.map fun x=>[.string x],by simp,fun cs hcs=>?_,?_,fun i h h'=>?_⟩
 ·obtain ⟨x,_,rfl⟩:=List.mem_map.1 hcs
  rfl
 ·show World.ownsRow _ _ _ _ _ _ _
  rw [flat_single]
  refine ⟨by simp,.inr ⟨W.heap.size,l.length,(l.map Value.string).toArray,rfl,Nat.le_refl _,heap_alloc_new W _,Nat.le_refl _,by simpa [maxLen] using hl,by simp,?_⟩⟩
  rw [Nat.mul_one]
  simp only [List.toList_toArray]
  rw [List.take_of_length_le (by simp)]
 ·show _=_
  simp
set_option maxRecDepth 100000 in
set_option maxHeartbeats 4000000 in
theorem pwput_any (b:Nat) (L M:List ByteArray) (v:Value) (w0 w:World) (hb:Below w0.heap.size w0 w) (hw:Prn.Wr w w0.heap.size b L) (hv:StrsR w (some w0.heap.size) v M) (hl:L.length+M.length≤8000000000000) :
  Calls Tryz.prog 39 #[.pointer (some ⟨b,0,none⟩),v] w fun e w'=>e=.returned (.tuple #[])∧Prn.Put w0 w b L M w':=by
 obtain ⟨hlo,hhi,v0,hk,hr⟩:=hw
 obtain ⟨A,m,c,rfl⟩:=ERow.is hv
 obtain ⟨c0,f0⟩:=hk.k1
 have HB:=Lib.hid hb
 have HK:=Lib.hid hk
 have HR:=Lib.hid hr
 have HV:=Lib.hid hv
 clear hb hk hr hv
 go_enter Tryz.func39,Tryz.ntmps39
 go_wp2_with (at_builtin;go_must (refine wpList_append_rowsS rfl _ _ _ rfl w0.heap.size 9 _ 1 16 Tryz.underlying73 info_strs rfl (by decide) StrE v0 L rfl HR.out A m c M rfl HV.out (fun cs x h u hu=>by unfold StrE at h;subst h;simp at hu;subst hu;rfl) (fun w' _ cs x h=>h) (by simp only [maxLen];omega) (by omega) hhi ?_);intro v2 w2 hrow2 hb2 ho2 hg2;obtain ⟨A2,n2,c2,rfl⟩:=ERow.is hrow2;have HR2:=Lib.hid hrow2;have HB2:=Lib.hid (HB.out.trans hb2);have HO2:=Lib.hid ho2;have hk2:=ho2.bk HK.out ne_writer_string;have HK2:=Lib.hid hk2;obtain ⟨d0,e0⟩:=hk2.k1;clear hrow2 hb2 ho2 hg2 hk2)
 refine bodyPost_end (results_none rfl _ _ _) rfl ?_
 have hon:Only 75 w2 (w2.setCell ⟨b,0,none⟩ (.slice A2 n2 c2)):=Only.set HK2.out 0 _
 have hst:Prn.On w (w2.setCell ⟨b,0,none⟩ (.slice A2 n2 c2)):=(Onl.left HO2.out).trans (Onl.right hon)
 have hrow:StrsR (w2.setCell ⟨b,0,none⟩ (.slice A2 n2 c2)) (some w0.heap.size) (.slice A2 n2 c2) (L++M):=ERow.kp HR2.out (hon.kp w0.heap.size (T:=[9]) (by decide)) (Nat.le_refl _) (by decide) (fun _ _ h=>h)
 exact ⟨rfl,⟨hlo,by have:=HO2.out.size;simp;omega,.slice A2 n2 c2,HK2.out.set_ 0 _,hrow⟩,HB2.out.setCell (p:=⟨b,0,none⟩) hlo _,hst⟩
namespace Prn
section
variable {w0 w w1 w2 : World} {b : Nat} {L M N : List ByteArray}
theorem Put.start (hb:Below w0.heap.size w0 w) (hw:Wr w w0.heap.size b L):Put w0 w b L [] w:=⟨by rw [List.append_nil];exact hw,hb,Onl.refl _ _ _⟩
theorem Put.below (h:Put w0 w b L M w1) (hb:Below w1.heap.size w1 w2):Put w0 w b L M w2:=⟨h.wr.below hb,h.bel.trans (hb.mono h.bel.size),h.on.trans (Onl.below hb)⟩
theorem Put.step (h:Put w0 w b L M w1) (k:Put w0 w1 b (L++M) N w2):Put w0 w b L (M++N) w2:=⟨by rw [←List.append_assoc];exact k.wr,k.bel,h.on.trans k.on⟩
theorem Put.cast (h:Put w0 w b L M w1) (e:M=N):Put w0 w b L N w1:=e ▸ h
end
theorem jl_join (l:List ByteArray):Lib.join (l.map (·.data.toList)) (⟨#[32]⟩:ByteArray).data.toList=jl l:=by
 cases l with
 | nil=>rfl
 | cons a l =>
  rw [List.map_cons,Lib.join_cons]
  show _++_=_++_
  congr 1
  unfold Lib.joinTail
  induction l with
  | nil=>rfl
  | cons b l ih=>rw [List.map_cons,List.map_cons,List.flatten_cons,ih,List.flatMap_cons];rfl
end Prn
set_option maxRecDepth 100000 in
theorem pwput_lit (b:Nat) (L xs:List ByteArray) (n:Nat) (cs:Array Value) (hn:xs.length=n) (hc:(xs.map Value.string).toArray=cs) (w0 w W:World) (M:List ByteArray) (h:Prn.Put w0 w b L M W) (hl:L.length+M.length+xs.length≤8000000000000) :
  Calls Tryz.prog 39 #[.pointer (some ⟨b,0,none⟩),.slice (some ⟨W.heap.size,0,none⟩) n n] (W.alloc (.cells cs 9)) fun e w'=>e=.returned (.tuple #[])∧Prn.Put w0 w b L (M++xs) w':=by
 subst hn hc
 have h1:=h.below (w2:=W.alloc (.cells (xs.map Value.string).toArray 9)) ((Below.refl _ _).alloc (Nat.le_refl _) _)
 have hrow:=strs_lit (W:=W) (l:=xs) rfl (by omega)
 have hbs:=h.bel.size
 refine (pwput_any b (L++M) xs _ w0 _ h1.bel h1.wr (ERow.mono hrow (fun _ _ hr=>hr.weak (fun b' e'=>⟨_,rfl,by injection e' with e';omega⟩)) (fun _ _ h=>h)) (by rw [List.length_append];omega)).mono ?_
 exact fun e w' ⟨h2,h3⟩=>⟨h2,h1.step h3⟩
set_option maxRecDepth 100000 in
set_option maxHeartbeats 4000000 in
theorem pwtext_any (b:Nat) (L:List ByteArray) (base:Nat) (w:World) (hw:Prn.Wr w base b L) (hl:L.length≤8000000000000) (hj:(Prn.jl L).length≤140737488355328) :
  Calls Tryz.prog 43 #[.pointer (some ⟨b,0,none⟩)] w fun e w'=>e=.returned (.string (Prn.jn L))∧Below w.heap.size w w':=by
 obtain ⟨-,-,v0,hk,hr⟩:=hw
 obtain ⟨A,c,rfl,hnc,hcm,hA⟩:=ERow.slice hr
 obtain ⟨c0,f0⟩:=hk.k1
 have HJ:Hid ((⟨(Lib.join (L.map (·.data.toList)) (⟨#[32]⟩:ByteArray).data.toList).toArray⟩:ByteArray)=Prn.jn L):=Lib.hid (by rw [Prn.jl_join];rfl)
 have HR:=Lib.hid hr
 have HL:=Lib.hid hj
 have HNC:=Lib.hid hnc
 have HLL:=Lib.hid hl
 clear hr hk hj hnc hl
 cases L with
 | nil =>
  go_enter Tryz.func43,Tryz.ntmps43
  go_wp2_with fail
  refine (Tryz.strings_Join_none A c ⟨#[32]⟩ w).mono ?_
  rintro e w' ⟨rfl,rfl⟩
  go_wp2_with fail
  go_ret
  exact ⟨rfl,Below.refl _ _⟩
 | cons x L =>
  obtain ⟨g,off,cs,rfl,-,e1,hc⟩:=ERow.get HR.out (i:=0) (by simp) (by omega)
  unfold StrE at e1
  subst e1
  have hg:g<w.heap.size:=World.block_lt_of_cell? w _ (hc 0 _ rfl)
  have hcells:∀ (j:Nat) y,(x::L)[j]?=some y→w.cell? ⟨g,off+j,none⟩=some (.string y):=fun j y hj=>by
   obtain ⟨hlt,rfl⟩:=List.getElem?_eq_some_iff.1 hj
   obtain ⟨g',off',cs',e',-,e1,hc'⟩:=ERow.get HR.out hlt (by omega)
   injection e' with e'
   injection e' with e2 e3
   subst e2 e3
   unfold StrE at e1
   subst e1
   have:=hc' 0 _ rfl
   simpa using this
  have HC:=Lib.hid hcells
  clear hc hcells
  generalize hn:(x::L).length=n at *
  have HN:=Lib.hid hn
  clear hn
  have hcall:=Tryz.strings_Join g off c (x::L) ⟨#[32]⟩ w HC.out hg (by rw [HN.out];have:=HLL.out;omega) (by rw [HN.out];exact HNC.out) (by rw [Prn.jl_join];exact HL.out)
  rw [HN.out,HJ.out] at hcall
  have HCALL:=Lib.hid hcall
  clear hcall
  go_enter Tryz.func43,Tryz.ntmps43
  go_wp2_with fail
  refine HCALL.out.mono ?_
  rintro e w' ⟨rfl,hb⟩
  go_wp2_with fail
  go_ret
  exact ⟨rfl,hb⟩
set_option maxRecDepth 100000 in
set_option maxHeartbeats 8000000 in
theorem pwsorts_any (b:Nat) (L:List ByteArray) (t:List Id.Srt) (tv:Value) (w0 w:World) (hb:Below w0.heap.size w0 w) (hw:Prn.Wr w w0.heap.size b L) (hs:∀ w',Below w0.heap.size w0 w'→Prn.On w w'→Id.SortsR w' none tv t) (hl:L.length+t.length≤8000000000000) :
  Calls Tryz.prog 99 #[.pointer (some ⟨b,0,none⟩),tv] w fun e w'=>e=.returned (.tuple #[])∧Prn.Put w0 w b L (t.map Prn.sortW) w':=by
 have ht:=hs w hb (Onl.refl _ _ _)
 obtain ⟨A,n,c,rfl⟩:=ERow.is ht
 have HN:Hid (n=t.length):=Lib.hid (by obtain ⟨_,_,e,_⟩:=ERow.slice ht;injection e)
 have hm:n≤9223372036854775807:=by obtain ⟨_,_,e,_,_⟩:=ERow.slice ht;injection e;omega
 have HS:=Lib.hid hs
 have HP0:=Lib.hid (Prn.Put.start hb hw)
 have hln:L.length+n≤8000000000000:=by rw [HN.out];exact hl
 clear hs ht hb hw hl
 go_enter Tryz.func99,Tryz.ntmps99
 go_wp2_with fail
 go_loopw [8] (fun i wr=>∃ (k:Nat),k≤n∧i=.int .i64 k∧Hid (Prn.Put w0 w b L ((t.take k).map Prn.sortW) wr)) (fun i _=>n - (intOf i).toNat)
 case atStart=>exact ⟨0,by omega,rfl,HP0⟩
 case round =>
  clear HP0
  obtain ⟨k,hk,rfl,HP⟩:=hrel
  obtain ⟨V,rfl⟩:∃ w',w'=wr:=⟨_,rfl⟩
  have ik0:(0:Int)≤(k:Int):=by omega
  by_cases hlt:k<n
  case neg =>
   have HPx:Hid (Prn.Put w0 w b L (t.map Prn.sortW) V):=Lib.hid (by have h:=HP.out;rw [List.take_of_length_le (by have:=HN.out;omega)] at h;exact h)
   go_wp2_with fail
   exact bodyPost_end (results_none rfl _ _ _) rfl ⟨rfl,HPx.out⟩
  have hka:k<t.length:=by rw [←HN.out];exact hlt
  obtain ⟨g,off,cs,rfl,-,e1,hc⟩:=ERow.get (HS.out V HP.out.bel HP.out.on) hka (by omega)
  obtain ⟨⟨xk,xn⟩,Hx⟩:∃ y,Hid (t[k]=y):=⟨_,Lib.hid rfl⟩
  rw [Hx.out] at e1
  unfold Id.SortE Id.Srt.cells at e1
  subst e1
  have a0:=hc 0 _ rfl
  have a1:=hc 1 _ rfl
  simp only [Nat.add_zero] at a0
  have hgl:g<V.heap.size:=World.block_lt_of_cell? V _ a0
  have hgne:¬g=V.heap.size:=by omega
  have ik1:(k:Int)<(n:Int):=by omega
  have HTK:Hid ((t.take (k+1)).map Prn.sortW=(t.take k).map Prn.sortW++[Prn.sortW ⟨xk,xn⟩]):=Lib.hid (by rw [List.take_succ_eq_append_getElem hka,List.map_append,Hx.out];rfl)
  have hml:((t.take k).map Prn.sortW).length≤k:=by simp only [List.length_map,List.length_take];omega
  clear hc Hx hka
  go_upto_region 3 with (fail)
  refine wp_named (fun V1 hW=>?_)
  obtain ⟨hbx,hqx,-⟩:=fresh_box hW
  have HP1:=Lib.hid (HP.out.below hbx)
  have HQV1:=Lib.hid hqx
  clear hW hbx hqx HP a0 a1
  obtain ⟨⟨b0,b1⟩,-⟩:=HQV1.out.k2
  by_cases h1:xk=1
  case pos =>
   subst h1
   go_wp2_with fail
   refine (pwput_lit b L [Id.wNone] 1 #[.string Id.wNone] rfl rfl w0 w _ ((t.take k).map Prn.sortW) HP1.out (by simp only [List.length_cons,List.length_nil];omega)).mono ?_
   rintro e V2 ⟨rfl,hp⟩
   have HP2:=Lib.hid hp
   clear hp
   have HP3:Hid (Prn.Put w0 w b L ((t.take (k+1)).map Prn.sortW) V2):=Lib.hid (HP2.out.cast (by rw [HTK.out];rfl))
   clear HP2
   go_wp2_with fail
   go_roundw
   case rel=>exact ⟨k+1,by omega,by go_num,HP3⟩
   case measure=>simp [intOf] <;> omega
  have t1:((xk:Int)==1)=false:=by rw [beq_eq_false_iff_ne];omega
  by_cases h2:xk=2
  case pos =>
   subst h2
   go_wp2_with fail
   refine (pwput_lit b L [Prn.wBool] 1 #[.string Prn.wBool] rfl rfl w0 w _ ((t.take k).map Prn.sortW) HP1.out (by simp only [List.length_cons,List.length_nil];omega)).mono ?_
   rintro e V2 ⟨rfl,hp⟩
   have HP2:=Lib.hid hp
   clear hp
   have HP3:Hid (Prn.Put w0 w b L ((t.take (k+1)).map Prn.sortW) V2):=Lib.hid (HP2.out.cast (by rw [HTK.out];rfl))
   clear HP2
   go_wp2_with fail
   go_roundw
   case rel=>exact ⟨k+1,by omega,by go_num,HP3⟩
   case measure=>simp [intOf] <;> omega
  have t2:((xk:Int)==2)=false:=by rw [beq_eq_false_iff_ne];omega
  by_cases h3:xk=3
  case pos =>
   subst h3
   go_wp2_with fail
   refine (pwput_lit b L [Id.wInt] 1 #[.string Id.wInt] rfl rfl w0 w _ ((t.take k).map Prn.sortW) HP1.out (by simp only [List.length_cons,List.length_nil];omega)).mono ?_
   rintro e V2 ⟨rfl,hp⟩
   have HP2:=Lib.hid hp
   clear hp
   have HP3:Hid (Prn.Put w0 w b L ((t.take (k+1)).map Prn.sortW) V2):=Lib.hid (HP2.out.cast (by rw [HTK.out];rfl))
   clear HP2
   go_wp2_with fail
   go_roundw
   case rel=>exact ⟨k+1,by omega,by go_num,HP3⟩
   case measure=>simp [intOf] <;> omega
  have t3:((xk:Int)==3)=false:=by rw [beq_eq_false_iff_ne];omega
  by_cases h4:xk=4
  case pos =>
   subst h4
   go_wp2_with fail
   refine (pwput_lit b L [Prn.wText] 1 #[.string Prn.wText] rfl rfl w0 w _ ((t.take k).map Prn.sortW) HP1.out (by simp only [List.length_cons,List.length_nil];omega)).mono ?_
   rintro e V2 ⟨rfl,hp⟩
   have HP2:=Lib.hid hp
   clear hp
   have HP3:Hid (Prn.Put w0 w b L ((t.take (k+1)).map Prn.sortW) V2):=Lib.hid (HP2.out.cast (by rw [HTK.out];rfl))
   clear HP2
   go_wp2_with fail
   go_roundw
   case rel=>exact ⟨k+1,by omega,by go_num,HP3⟩
   case measure=>simp [intOf] <;> omega
  have t4:((xk:Int)==4)=false:=by rw [beq_eq_false_iff_ne];omega
  by_cases h5:xk=5
  case pos =>
   subst h5
   go_wp2_with fail
   refine (pwput_lit b L [Id.wList] 1 #[.string Id.wList] rfl rfl w0 w _ ((t.take k).map Prn.sortW) HP1.out (by simp only [List.length_cons,List.length_nil];omega)).mono ?_
   rintro e V2 ⟨rfl,hp⟩
   have HP2:=Lib.hid hp
   clear hp
   have HP3:Hid (Prn.Put w0 w b L ((t.take (k+1)).map Prn.sortW) V2):=Lib.hid (HP2.out.cast (by rw [HTK.out];rfl))
   clear HP2
   go_wp2_with fail
   go_roundw
   case rel=>exact ⟨k+1,by omega,by go_num,HP3⟩
   case measure=>simp [intOf] <;> omega
  have t5:((xk:Int)==5)=false:=by rw [beq_eq_false_iff_ne];omega
  by_cases h6:xk=6
  case pos =>
   subst h6
   go_wp2_with fail
   refine (pwput_lit b L [Id.wOpt] 1 #[.string Id.wOpt] rfl rfl w0 w _ ((t.take k).map Prn.sortW) HP1.out (by simp only [List.length_cons,List.length_nil];omega)).mono ?_
   rintro e V2 ⟨rfl,hp⟩
   have HP2:=Lib.hid hp
   clear hp
   have HP3:Hid (Prn.Put w0 w b L ((t.take (k+1)).map Prn.sortW) V2):=Lib.hid (HP2.out.cast (by rw [HTK.out];rfl))
   clear HP2
   go_wp2_with fail
   go_roundw
   case rel=>exact ⟨k+1,by omega,by go_num,HP3⟩
   case measure=>simp [intOf] <;> omega
  have t6:((xk:Int)==6)=false:=by rw [beq_eq_false_iff_ne];omega
  have HWX:Hid (Prn.sortW ⟨xk,xn⟩=xn):=Lib.hid (by unfold Prn.sortW;simp only [h1,h2,h3,h4,h5,h6,if_false])
  clear h1 h2 h3 h4 h5 h6
  go_wp2_with fail
  refine (pwput_lit b L [xn] 1 #[.string xn] rfl rfl w0 w _ ((t.take k).map Prn.sortW) HP1.out (by simp only [List.length_cons,List.length_nil];omega)).mono ?_
  rintro e V2 ⟨rfl,hp⟩
  have HP2:=Lib.hid hp
  clear hp
  have HP3:Hid (Prn.Put w0 w b L ((t.take (k+1)).map Prn.sortW) V2):=Lib.hid (HP2.out.cast (by rw [HTK.out,HWX.out]))
  clear HP2
  go_wp2_with fail
  go_roundw
  case rel=>exact ⟨k+1,by omega,by go_num,HP3⟩
  case measure=>simp [intOf] <;> omega
end Go.Proofs.YtjfdohhdkdjifaaGreatDoor
set_option linter.unusedVariables false
set_option linter.unusedSimpArgs false
namespace Go.Proofs.YtjfdohhdkdjifaaGreatDoor
open Go.RowKit Go.BigFrame
end Go.Proofs.YtjfdohhdkdjifaaGreatDoor
set_option linter.unusedVariables false
namespace Go.Proofs.YtjfdohhdkdjifaaGreatDoor
namespace Tk
/-- What stands at a place, in words of what stands from there on. -/
theorem byte_from (s:ByteArray) (k:Nat):byte s k=((from_ s k).getD 0 0).toNat:=by
 unfold byte from_
 simp [List.getD_eq_getElem?_getD]
theorem extract_eq {s t:ByteArray} {k e k' e':Nat} (h:(from_ s k).take (e - k)=(from_ t k').take (e' - k')):s.extract k e=t.extract k' e':=by
 have h1:=Lib.extract_data s k e
 have h2:=Lib.extract_data t k' e'
 unfold from_ at h
 rw [h,←h2] at h1
 have h3:(s.extract k e).data=(t.extract k' e').data:=Array.toList_inj.1 h1
 cases hs:s.extract k e
 cases ht:t.extract k' e'
 rw [hs,ht] at h3
 simp only at h3
 rw [h3]
theorem num_from (s:ByteArray) (k e:Nat):num s k e=numOn 0 ((from_ s k).take (e - k)):=by
 unfold num from_
 rw [List.drop_take]
theorem size_from (s:ByteArray) (k:Nat):(from_ s k).length=s.size - k:=by unfold from_;simp
/-- A token, moved. -/
def Tok.move (m:Nat) (t:Tok):Tok:={ t with at_:=m+t.at_ }
theorem scan_ok {d:Nat} {s:ByteArray} {k f:Nat} {acc:List Tok} (h:k<s.size) (he:(oneAt d s k).2=0):scan d s (f+1) k acc=scan d s f (gapEnd false s (k+(oneAt d s k).1.text.size)) (acc++[(oneAt d s k).1]):=by
 rw [scan,if_pos h,if_neg (by simpa using he)]
theorem scan_err {d:Nat} {s:ByteArray} {k f:Nat} {acc:List Tok} (h:k<s.size) (he:(oneAt d s k).2≠0):scan d s (f+1) k acc=([],k,(oneAt d s k).2):=by
 rw [scan,if_pos h,if_pos he]
section shift
variable {c b : ByteArray} {m : Nat} (hc : ∀ k, from_ c (m + k) = from_ b k) (hz : c.size = m + b.size)
include hc
theorem shift_byte (k:Nat):byte c (m+k)=byte b k:=by rw [byte_from,byte_from,hc]
theorem shift_run (p:Nat→Bool) (k:Nat):runEnd p c (m+k)=m+runEnd p b k:=by unfold runEnd;rw [hc];omega
theorem shift_gap (g:Bool) (k:Nat):gapEnd g c (m+k)=m+gapEnd g b k:=by unfold gapEnd;rw [hc];omega
theorem shift_extract (k e:Nat):c.extract (m+k) (m+e)=b.extract k e:=extract_eq (by rw [hc];congr 1;omega)
theorem shift_num (k e:Nat):num c (m+k) (m+e)=num b k e:=by rw [num_from,num_from,hc];congr 2;omega
include hz
theorem shift_one (d k:Nat):oneAt d c (m+k)=((oneAt d b k).1.move m,(oneAt d b k).2):=by
 unfold oneAt
 dsimp only
 rw [shift_byte hc,Nat.add_assoc,shift_byte hc,shift_run hc,shift_run hc,shift_extract hc,shift_extract hc,shift_extract hc,shift_num hc]
 have e1:∀ x,m+x - (m+k)=x - k:=fun x=>by omega
 have e2:(m+(k+1)<c.size)=(k+1<b.size):=by rw [hz];simp
 simp only [e1,e2]
 split
 ·rfl
 ·split
  ·split
   ·rfl
   ·split <;> rfl
  ·split
   ·rfl
   ·split <;> rfl
theorem shift_scan (d:Nat) (pre:List Tok):∀ (f k:Nat) (acc:List Tok),scan d c f (m+k) (pre++acc.map (Tok.move m)) =
  if (scan d b f k acc).2.2≠0 then ([],m+(scan d b f k acc).2.1,(scan d b f k acc).2.2) else (pre++(scan d b f k acc).1.map (Tok.move m),0,0)
 | 0,k,acc=>rfl
 | f+1,k,acc=>by
  by_cases h1:k<b.size
  ·by_cases h2:(oneAt d b k).2=0
   ·have ih:=shift_scan d pre f (gapEnd false b (k+(oneAt d b k).1.text.size)) (acc++[(oneAt d b k).1])
    rw [scan_ok h1 h2,←ih,scan_ok (by omega) (by rw [shift_one hc hz];exact h2),shift_one hc hz]
    rw [show m+k+((oneAt d b k).1.move m).text.size=m+(k+(oneAt d b k).1.text.size) from by unfold Tok.move;simp;omega,shift_gap hc]
    simp
   ·rw [scan_err h1 h2,scan_err (by omega) (by rw [shift_one hc hz];exact h2),shift_one hc hz]
    simp only
    rw [if_pos h2]
  ·rw [scan_end h1,scan_end (by omega)]
   simp
end shift
/-- A run, and a gap, where a new line follows. -/
theorem run_app {p:Nat→Bool} {x:UInt8} (hp:p x.toNat=false) (r:List UInt8):∀ l:List UInt8,run p (l++x::r)=run p l
 | []=>by simp [run,hp]
 | c::l=>by
  have ih:=run_app hp r l
  simp only [List.cons_append,run]
  rw [ih]
theorem gap_false (c:UInt8) (r:List UInt8):gap false (c::r)=if isBlank c.toNat then 1+gap false r else if c.toNat=47∧r.head?.map UInt8.toNat=some 47 then 1+gap true r else 0:=by rw [gap]
theorem gap_app (r:List UInt8):∀ (g:Bool) (l:List UInt8),gap g (l++10::r)=if gap g l=l.length then l.length+1+gap false r else gap g l
 | true,[]=>by
  rw [List.nil_append,gap_true,if_pos (show (10:UInt8).toNat=10 from rfl)]
  simp [gap]
 | false,[]=>by rw [List.nil_append,gap_blank10];simp [gap]
 | true,c::l=>by
  have ih1:=gap_app r false l
  have ih2:=gap_app r true l
  have l1:=gap_le false l
  have l2:=gap_le true l
  rw [List.cons_append,gap_true,gap_true,ih1,ih2]
  simp only [List.length_cons]
  split
  ·by_cases h:gap false l=l.length
   ·rw [if_pos h,if_pos (by omega)];omega
   ·rw [if_neg h,if_neg (by omega)]
  ·by_cases h:gap true l=l.length
   ·rw [if_pos h,if_pos (by omega)];omega
   ·rw [if_neg h,if_neg (by omega)]
 | false,c::l=>by
  have ih1:=gap_app r false l
  have ih2:=gap_app r true l
  have l1:=gap_le false l
  have l2:=gap_le true l
  rw [List.cons_append,gap_false,gap_false]
  have hh:(c.toNat=47∧(l++10::r).head?.map UInt8.toNat=some 47)↔(c.toNat=47∧l.head?.map UInt8.toNat=some 47):=by
   cases l with
   | nil=>simp
   | cons x l=>simp
  rw [ih1,ih2,List.length_cons]
  by_cases hb:isBlank c.toNat=true
  ·simp only [hb,if_true]
   by_cases h:gap false l=l.length
   ·rw [if_pos h,if_pos (by omega)];omega
   ·rw [if_neg h,if_neg (by omega)]
  ·simp only [hb,Bool.false_eq_true,if_false,hh]
   by_cases h2:c.toNat=47∧l.head?.map UInt8.toNat=some 47
   ·simp only [h2,and_self,if_true]
    by_cases h:gap true l=l.length
    ·rw [if_pos h,if_pos (by omega)];omega
    ·rw [if_neg h,if_neg (by omega)]
   ·simp only [h2,if_false]
    rw [if_neg (by omega)]
section front
variable {c a : ByteArray} {x : UInt8} {r : List UInt8} (hc : c.data.toList = a.data.toList ++ x :: r)
include hc
theorem front_from {k:Nat} (hk:k≤a.size):from_ c k=from_ a k++x::r:=by
 unfold from_;rw [hc,List.drop_append_of_le_length (by simpa using hk)]
theorem front_size:c.size=a.size+1+r.length:=by
 have:=congrArg List.length hc
 simp at this
 omega
theorem front_byte {k:Nat} (hk:k<a.size):byte c k=byte a k:=by
 unfold byte
 rw [hc,List.getD_eq_getElem?_getD,List.getD_eq_getElem?_getD,List.getElem?_append_left (by simpa using hk)]
theorem front_byte_end:byte c a.size=x.toNat:=by
 unfold byte
 rw [hc,List.getD_eq_getElem?_getD,List.getElem?_append_right (by simp)]
 simp
theorem front_run {p:Nat→Bool} (hp:p x.toNat=false) {k:Nat} (hk:k≤a.size):runEnd p c k=runEnd p a k:=by
 unfold runEnd;rw [front_from hc hk,run_app hp]
theorem front_extract {k e:Nat} (he:e≤a.size):c.extract k e=a.extract k e:=by
 by_cases hk:k≤a.size
 ·refine extract_eq ?_
  rw [front_from hc hk,List.take_append_of_le_length (by rw [size_from];omega)]
 ·refine extract_eq ?_
  rw [show e - k=0 from by omega];simp
theorem front_num {k e:Nat} (hk:k≤a.size) (he:e≤a.size):num c k e=num a k e:=by
 rw [num_from,num_from,front_from hc hk,List.take_append_of_le_length (by rw [size_from];omega)]
theorem front_one (hi:isInner x.toNat=false) (hd:isDigit x.toNat=false) (h62:x.toNat≠62) (d:Nat) {k:Nat} (hk:k<a.size):oneAt d c k=oneAt d a k:=by
 have h1:=runEnd_le (p:=isInner) (s:=a) (k:=k+1) (by omega)
 have h2:=runEnd_le (p:=isDigit) (s:=a) (k:=k+1) (by omega)
 have h3:=runEnd_ge isDigit a (k+1)
 unfold oneAt
 dsimp only
 rw [front_byte hc hk,front_run hc hi (by omega),front_run hc hd (by omega),front_extract hc h1,front_extract hc h2,front_num hc (by omega) h2,front_extract hc (by omega)]
 have e:(byte a k=45∧k+1<c.size∧byte c (k+1)=62)↔(byte a k=45∧k+1<a.size∧byte a (k+1)=62):=by
  by_cases h:k+1<a.size
  ·rw [front_byte hc h]
   have:=front_size hc
   simp only [h,show k+1<c.size from by omega,true_and]
  ·have e2:k+1=a.size:=by omega
   rw [e2,front_byte_end hc]
   constructor
   ·rintro ⟨_,_,h4⟩;exact absurd h4 h62
   ·rintro ⟨_,h4,_⟩;exact absurd h4 (by omega)
 simp only [e]
theorem front_gap (hx:x=10) {k:Nat} (hk:k≤a.size):gapEnd false c k=if gapEnd false a k=a.size then gapEnd false c (a.size+1) else gapEnd false a k:=by
 subst hx
 have hl:=gap_le false (from_ a k)
 have hs:=size_from a k
 unfold gapEnd
 rw [front_from hc hk,gap_app]
 have e:from_ c (a.size+1)=r:=by
  unfold from_
  rw [hc,List.drop_append,List.drop_of_length_le (by simp)]
  simp
 rw [e]
 by_cases h:gap false (from_ a k)=(from_ a k).length
 ·rw [if_pos h,if_pos (by omega)];omega
 ·rw [if_neg h,if_neg (by omega)]
end front
/-- Fuel enough is as good as any other. -/
theorem scan_fuel (d:Nat) (s:ByteArray):∀ (f k:Nat) (acc:List Tok) (f':Nat),s.size<f+k→s.size<f'+k→scan d s f k acc=scan d s f' k acc
 | 0,k,acc,f',h,h'=>by rw [scan_end (by omega),scan_end (by omega)]
 | f+1,k,acc,0,h,h'=>by rw [scan_end (by omega),scan_end (by omega)]
 | f+1,k,acc,f'+1,h,h'=>by
  by_cases h1:k<s.size
  ·by_cases h2:(oneAt d s k).2=0
   ·rw [scan_ok h1 h2,scan_ok h1 h2]
    have:=oneAt_ok h1 h2
    have hg:=gapEnd_ge false s (k+(oneAt d s k).1.text.size)
    exact scan_fuel d s f _ _ f' (by omega) (by omega)
   ·rw [scan_err h1 h2,scan_err h1 h2]
  ·rw [scan_end h1,scan_end h1]
/-- A text with a new line and another one behind: its own tokens come first. -/
theorem front_scan {c a:ByteArray} {r:List UInt8} (hc:c.data.toList=a.data.toList++10::r) (d:Nat):∀ (f k:Nat) (acc:List Tok),k≤a.size→a.size<f+k →
  ∀ F F',c.size<F+k→c.size<F'+k→scan d c F (gapEnd false c k) acc=if (scan d a f (gapEnd false a k) acc).2.2≠0 then scan d a f (gapEnd false a k) acc else scan d c F' (gapEnd false c (a.size+1)) (scan d a f (gapEnd false a k) acc).1
 | f,k,acc,hk,hf,F,F',hF,hF'=>by
  have hle:=gapEnd_le (s:=a) (k:=k) false hk
  have hge:=gapEnd_ge false a k
  have hsz:=front_size hc
  rw [front_gap hc rfl hk]
  by_cases h:gapEnd false a k=a.size
  ·have e:=scan_end (d:=d) (s:=a) (k:=a.size) (f:=f) (acc:=acc) (by omega)
   rw [if_pos h,h,e,if_neg (by simp)]
   have:=gapEnd_ge false c (a.size+1)
   exact scan_fuel d c _ _ _ _ (by omega) (by omega)
  ·rw [if_neg h]
   generalize hK:gapEnd false a k=K at *
   have hK2:K<a.size:=by omega
   obtain ⟨f,rfl⟩:∃ f',f=f'+1:=⟨f - 1,by omega⟩
   obtain ⟨F,rfl⟩:∃ f',F=f'+1:=⟨F - 1,by omega⟩
   have ho:=front_one hc (by decide) (by decide) (by decide) d hK2
   by_cases h2:(oneAt d a K).2=0
   ·have hok:=oneAt_ok hK2 h2
    rw [scan_ok hK2 h2,scan_ok (show K<c.size by omega) (by rw [ho];exact h2),ho]
    exact front_scan hc d f (K+(oneAt d a K).1.text.size) _ (by omega) (by omega) F F' (by omega) (by omega)
   ·rw [scan_err hK2 h2,scan_err (show K<c.size by omega) (by rw [ho];exact h2),ho]
    simp only
    rw [if_pos h2]
theorem back_from {c a b:ByteArray} {x:UInt8} (hc:c.data.toList=a.data.toList++x::b.data.toList) (k:Nat):from_ c (a.size+1+k)=from_ b k:=by
 unfold from_
 rw [hc,List.drop_append,List.drop_of_length_le (by simp;omega),List.nil_append]
 rw [show a.size+1+k - a.data.toList.length=k+1 from by simp;omega,List.drop_succ_cons]
/-- The tokens of both. -/
theorem all_join {c a b:ByteArray} (hc:c.data.toList=a.data.toList++10::b.data.toList) (hs:c.size≤65536) :
  all c=if (all a).2.2≠0 then all a else if (all b).2.2≠0 then ([],a.size+1+(all b).2.1,(all b).2.2) else ((all a).1++(all b).1.map (Tok.move (a.size+1)),0,0):=by
 have hsz:=front_size hc
 have hbz:b.data.toList.length=b.size:=by simp
 have hA:all a=scan 3 a (a.size+1) (gapEnd false a 0) []:=by unfold all;rw [if_neg (by omega)]
 have hB:all b=scan 3 b (b.size+1) (gapEnd false b 0) []:=by unfold all;rw [if_neg (by omega)]
 have hC:all c=scan 3 c (c.size+1) (gapEnd false c 0) []:=by unfold all;rw [if_neg (by omega)]
 rw [hC,hA,hB,front_scan hc 3 (a.size+1) 0 [] (by omega) (by omega) (c.size+1) (c.size+1) (by omega) (by omega)]
 generalize scan 3 a (a.size+1) (gapEnd false a 0) []=ra
 by_cases h:ra.2.2=0
 ·rw [if_neg (by simpa using h),if_neg (by simpa using h)]
  have e:=shift_scan (back_from hc) (by omega) 3 ra.1 (b.size+1) (gapEnd false b 0) []
  have hg:=shift_gap (back_from hc) false 0
  rw [Nat.add_zero] at hg
  rw [hg,←e]
  simp only [List.map_nil,List.append_nil]
  exact scan_fuel 3 c _ _ _ _ (by omega) (by omega)
 ·rw [if_pos h,if_pos h]
end Tk
end Go.Proofs.YtjfdohhdkdjifaaGreatDoor
set_option linter.unusedVariables false
set_option linter.unusedSimpArgs false
namespace Go.Proofs.YtjfdohhdkdjifaaGreatDoor
namespace Tk
theorem ok_byte:∀ x,x<256→(isLetter x||isDigit x||isSign x||decide (x=45))=true→isBlank x=false∧x≠47:=by decide +kernel
theorem one_first {d:Nat} {s:ByteArray} {k:Nat} (he:(oneAt d s k).2=0):(isLetter (byte s k)||isDigit (byte s k)||isSign (byte s k)||decide (byte s k=45))=true:=by
 unfold oneAt at he
 dsimp only at he
 split at he
 ·rename_i h;rw [h];rfl
 ·split at he
  ·rename_i h;rw [h];simp
  ·split at he
   ·rename_i h;rw [h];simp
   ·split at he
    ·rename_i h;simp [h.1]
    ·cases he
theorem gap_zero {d:Nat} {s:ByteArray} {k:Nat} (hk:k<s.size) (he:(oneAt d s k).2=0):gapEnd false s k=k:=by
 have h:=one_first he
 rw [byte_eq hk] at h
 obtain ⟨h1,h2⟩:=ok_byte _ s[k].toNat_lt h
 exact gapEnd_stop hk h1 (fun e=>h2 e.1)
theorem bytes_eq {a b:ByteArray} (h:a.data.toList=b.data.toList):a=b:=by
 have h3:a.data=b.data:=Array.toList_inj.1 h
 cases a;cases b
 simp only at h3
 rw [h3]
theorem extract_self (s:ByteArray):s.extract 0 s.size=s:=by
 apply bytes_eq
 rw [Lib.extract_data,List.drop_zero,Nat.sub_zero]
 exact List.take_of_length_le (by simp)
def placed:List Tok→Nat→List Tok
 | [],_=>[]
 | t::l,k=>{ t with at_:=k }::placed l (k+t.text.size+1)
def Owns (l:List Tok):Prop:=∀ t∈l,0<t.text.size∧oneAt 3 t.text 0=({ t with at_:=0 },0)
theorem front_first {c:ByteArray} {k:Nat} {t:Tok} {r:List UInt8} (hf:from_ c k=t.text.data.toList++r) (hr:r=[]∨∃ r',r=32::r') (h0:0<t.text.size) (ho:oneAt 3 t.text 0=({ t with at_:=0 },0)) (hz:k≤c.size) :
  oneAt 3 c k=({ t with at_:=k },0):=by
 obtain ⟨b,hb⟩:∃ b:ByteArray,b.data.toList=t.text.data.toList++r:=⟨⟨(t.text.data.toList++r).toArray⟩,by simp⟩
 have hcb:∀ j,from_ c (k+j)=from_ b j:=fun j=>by
  unfold from_ at hf ⊢
  rw [hb,←hf,List.drop_drop]
 have hsz:c.size=k+b.size:=by
  have:=congrArg List.length (hcb 0)
  rw [size_from,size_from] at this
  have h2:b.size=b.data.toList.length:=by simp
  omega
 have hs:=shift_one hcb hsz 3 0
 rw [Nat.add_zero] at hs
 have hbt:oneAt 3 b 0=oneAt 3 t.text 0:=by
  rcases hr with rfl | ⟨r',rfl⟩
  ·rw [List.append_nil] at hb
   rw [bytes_eq hb]
  ·exact front_one hb (by decide) (by decide) (by decide) 3 h0
 rw [hs,hbt,ho]
 rfl
def joinT:List Tok→List UInt8
 | []=>[]
 | t::l=>t.text.data.toList++l.flatMap fun u=>32::u.text.data.toList
def jtail:List Tok→List UInt8
 | []=>[]
 | u::r=>32::joinT (u::r)
theorem joinT_cons (t:Tok) (l:List Tok):joinT (t::l)=t.text.data.toList++jtail l:=by
 cases l with
 | nil=>simp [joinT,jtail]
 | cons u r=>simp [joinT,jtail]
theorem scan_joinT (c:ByteArray):∀ (l:List Tok) (f k:Nat) (acc:List Tok),Owns l→k≤c.size→from_ c k=joinT l→c.size<f+k →
  (l≠[]→gapEnd false c k=k)∧scan 3 c f k acc=(acc++placed l k,0,0)
 | [],f,k,acc,_,hk,hf,hF=>by
  have hz:¬k<c.size:=by
   have:=congrArg List.length hf
   rw [size_from] at this
   simp [joinT] at this
   omega
  exact ⟨fun h=>absurd rfl h,by rw [scan_end hz];simp [placed]⟩
 | t::l,f,k,acc,ho,hk,hf,hF=>by
  have ht:=ho t (by simp)
  have hl:Owns l:=fun u hu=>ho u (by simp [hu])
  rw [joinT_cons] at hf
  have hone:=front_first (r:=jtail l) hf (by cases l with | nil=>exact .inl rfl | cons u r=>exact .inr ⟨_,rfl⟩) ht.1 ht.2 hk
  have hlt:k<c.size:=by
   have:=congrArg List.length hf
   rw [size_from,List.length_append] at this
   have e:t.text.data.toList.length=t.text.size:=by simp
   omega
  refine ⟨fun _=>gap_zero hlt (by rw [hone]),?_⟩
  obtain ⟨f,rfl⟩:∃ f',f=f'+1:=⟨f - 1,by omega⟩
  rw [scan_ok hlt (by rw [hone]),hone]
  simp only
  have hok:=oneAt_ok hlt (d:=3) (by rw [hone])
  rw [hone] at hok
  simp only at hok
  have hnext:from_ c (k+t.text.size)=jtail l:=by
   have e1:from_ c (k+t.text.size)=(from_ c k).drop t.text.size:=by unfold from_;rw [List.drop_drop]
   have e2:t.text.size=t.text.data.toList.length:=by simp
   rw [e1,hf,e2,List.drop_append_length]
  cases l with
  | nil =>
   have hnext:from_ c (k+t.text.size)=[]:=hnext
   have hend:¬k+t.text.size<c.size:=by
    have:=congrArg List.length hnext
    rw [size_from] at this
    simp at this
    omega
   rw [gapEnd_end false (by omega),scan_end hend]
   simp [placed]
  | cons u r =>
   have hnext:from_ c (k+t.text.size)=32::joinT (u::r):=hnext
   have hlt2:k+t.text.size<c.size:=by
    have:=congrArg List.length hnext
    rw [size_from] at this
    simp at this
    omega
   have hb:c[k+t.text.size]=32∧from_ c (k+t.text.size+1)=joinT (u::r):=by
    rw [from_cons hlt2] at hnext
    injection hnext with n1 n2
    exact ⟨n1,n2⟩
   have ih:=scan_joinT c (u::r) f (k+t.text.size+1) (acc++[{ t with at_:=k }]) hl (by omega) hb.2 (by omega)
   rw [gapEnd_blank hlt2 (by rw [hb.1];decide),ih.1 (by simp),ih.2]
   simp [placed]
theorem all_joinT {l:List Tok} {c:ByteArray} (ho:Owns l) (hc:c.data.toList=joinT l) (hs:c.size≤65536):all c=(placed l 0,0,0):=by
 have hf:from_ c 0=joinT l:=by unfold from_;rw [hc,List.drop_zero]
 have h:=scan_joinT c l (c.size+1) 0 [] ho (Nat.zero_le _) hf (by omega)
 unfold all
 rw [if_neg (by omega)]
 cases l with
 | nil =>
  have hz:c.size=0:=by
   have:=congrArg List.length hf
   rw [size_from] at this
   simpa [joinT] using this
  rw [gapEnd_end false (by omega),h.2,List.nil_append]
 | cons t r=>rw [h.1 (by simp),h.2,List.nil_append]
end Tk
end Go.Proofs.YtjfdohhdkdjifaaGreatDoor
