/- A text's print, the program's and the document's. No condition but the text's length. -/
import Derived.Test.YtlbihaikppkecaaGreatDoorPS00
import Derived.Test.YtlbihaikppkecaaGreatDoorPS01
import Derived.Shelf.Strings.Builder1
import Derived.Shelf.Strings.Builder2
import Derived.Shelf.Strings.OnBuilder
import Derived.Shelf.Strings.BuilderF
import Derived.Shelf.Strings.BuilderK
import Derived.Shelf.Strings.Builder2Cap
import Derived.Shelf.Strconv.Itoa0
import Derived.Shelf.Strconv.Itoa1
import Derived.Shelf.LaysM
import Derived.Shelf.Strconv.Itoa2
import Derived.Shelf.Strconv.Itoa3
import Derived.Shelf.Strings.Search1
import Derived.Shelf.Strings.Search2
import Derived.Shelf.Strings.Cut
import Derived.Shelf.Strings.Shaped
import Derived.Shelf.Slices.Turned
import Derived.Test.YtlbihaikppkecaaGreatDoorProg
import Derived.Lib.ConvBytes
import Derived.Deep.QuietTactic
import Derived.BigQuiet
set_option linter.unusedVariables false
namespace Go.Proofs.YtlbihaikppkecaaGreatDoor
open Go.BigFrame
open Go.RowKit
theorem take_snoc (s:ByteArray) (k:Nat) (h:k<s.size):s.data.toList.take (k+1)=s.data.toList.take k++[s[k]]:=by
 rw [List.take_succ_eq_append_getElem (by simpa using h)];rfl
namespace Sm
def base:Nat:=14695981039346656037
theorem base_lt:base<18446744073709551616:=by unfold base;omega
def printTo (s:ByteArray) (k:Nat):Nat:=printOn base (s.data.toList.take k)
theorem printTo_lt (s:ByteArray) (k:Nat):printTo s k<18446744073709551616:=printOn_lt base_lt _
theorem printTo_succ (s:ByteArray) (k:Nat) (h:k<s.size):printTo s (k+1)=print1 (printTo s k) s[k].toNat:=by
 unfold printTo
 rw [take_snoc s k h,printOn_snoc]
theorem print_step {h x:Nat} (hh:h<18446744073709551616) (hx:x<256) :
  IntKind.u64.wrap (bits BinOp.xor IntKind.u64 (h:Int) (IntKind.u64.wrap (x:Int)) * 1099511628211)=((print1 h x:Nat):Int):=by
 have e1:IntKind.u64.wrap (x:Int)=(x:Int):=by rw [IntKind.wrap_u64];omega
 rw [e1,u64_xor_nat h x hh (by omega),IntKind.wrap_u64,print1]
 rfl
theorem printTo_all (s:ByteArray):printTo s s.size=print s.data.toList:=by
 unfold printTo print base
 rw [List.take_of_length_le (by simp)]
end Sm
set_option maxHeartbeats 400000 in
theorem long_any (s:ByteArray) (hs:s.size≤maxLen) (w:World) :
  Calls Tryz.prog 53 #[.string s] w fun e w'=>e=.returned (.int .u64 (Sm.print s.data.toList))∧w=w':=by
 unfold maxLen at hs
 go_enter Tryz.func53,Tryz.ntmps53
 go_wp2
 go_loop [3,7] (fun r i=>∃ k:Nat,k≤s.size∧i=.int .i64 k∧r=.int .u64 (Sm.printTo s k)) (fun _ i=>s.size - (intOf i).toNat)
 case atStart=>exact ⟨0,by omega,rfl,rfl⟩
 case round =>
  obtain ⟨k,hk,rfl,rfl⟩:=hrel
  have hR:=Sm.printTo_lt s k
  by_cases hlt:k<s.size
  ·have HS:=Lib.hid (Sm.printTo_succ s k hlt)
   have HP:=Lib.hid (Sm.print_step hR s[k].toNat_lt)
   clear hR
   go_wp2
   go_round
   case rel=>exact ⟨k+1,by omega,by go_num,by rw [HS.out,HP.out]⟩
   case measure=>simp [intOf];omega
  ·obtain rfl:k=s.size:=by omega
   have HA:=Lib.hid (Sm.printTo_all s)
   clear hlt
   go_wp2
   go_ret
   exact ⟨by rw [HA.out];rfl,rfl⟩
namespace Sm
def le4 (n:Nat):List UInt8:=[UInt8.ofNat n,UInt8.ofNat (n / 256),UInt8.ofNat (n / 65536),UInt8.ofNat (n / 16777216)]
theorem ofNat_toNat (n:Nat):(UInt8.ofNat n).toNat=n % 256:=by simp
end Sm
set_option maxHeartbeats 400000 in
theorem reflong_any (s:ByteArray) (hs:s.size≤maxLen) (w:World) :
  Calls Tryz.prog 44 #[.string s] w fun e w'=>e=.returned (.int .u64 (Sm.print s.data.toList))∧w=w':=by
 unfold maxLen at hs
 go_enter Tryz.func44,Tryz.ntmps44
 go_wp2
 go_loop [3,4] (fun r i=>∃ k:Nat,k≤s.size∧i=.int .i64 k∧r=.int .u64 (Sm.printTo s k)) (fun _ i=>s.size - (intOf i).toNat)
 case atStart=>exact ⟨0,by omega,rfl,rfl⟩
 case round =>
  obtain ⟨k,hk,rfl,rfl⟩:=hrel
  have hR:=Sm.printTo_lt s k
  by_cases hlt:k<s.size
  ·have HS:=Lib.hid (Sm.printTo_succ s k hlt)
   have HP:=Lib.hid (Sm.print_step hR s[k].toNat_lt)
   clear hR
   go_wp2
   go_round
   case rel=>exact ⟨k+1,by omega,by go_num,by rw [HS.out,HP.out]⟩
   case measure=>simp [intOf];omega
  ·obtain rfl:k=s.size:=by omega
   have HA:=Lib.hid (Sm.printTo_all s)
   clear hlt
   go_wp2
   go_ret
   exact ⟨by rw [HA.out];rfl,rfl⟩
end Go.Proofs.YtlbihaikppkecaaGreatDoor
set_option linter.unusedVariables false
set_option linter.unusedSimpArgs false
namespace Go.Proofs.YtlbihaikppkecaaGreatDoor
namespace Sd
def idC (c:UInt8):Bool:=(decide (97≤c.toNat)&&decide (c.toNat≤122))||(decide (48≤c.toNat)&&decide (c.toNat≤57))||c.toNat==95
def idL (l:List UInt8):Bool:=decide (1≤l.length)&&decide (l.length≤24)&&l.all idC
def way (back:Bool):UInt8:=if back then 99 else 102
def tailL (i:Nat) (back:Bool):List UInt8:=[46,UInt8.ofNat (48+i),way back]
def keyL (l:List UInt8) (i:Int) (back:Bool):List UInt8:=if idL l=true∧0≤i∧i<8 then l++tailL i.toNat back else []
/-- What a key says, as the document reads it. -/
def readL (k:List UInt8):Option (List UInt8 × Int × Bool) :=
 if k.length<4∨k.getD (k.length - 3) 0≠46∨idL (k.take (k.length - 3))=false then none
 else if (k.getD (k.length - 2) 0).toNat<48∨55<(k.getD (k.length - 2) 0).toNat∨(k.getD (k.length - 1) 0≠102∧k.getD (k.length - 1) 0≠99) then none
 else some (k.take (k.length - 3),((k.getD (k.length - 2) 0).toNat:Int) - 48,k.getD (k.length - 1) 0==99)
/-- As the program reads it. -/
def cutL (k:List UInt8):List UInt8 × List UInt8:=(k.takeWhile (· != 46),(k.dropWhile (· != 46)).drop 1)
def readP (k:List UInt8):Option (List UInt8 × Int × Bool) :=
 if (cutL k).2.length≠2 then none
 else if keyL (cutL k).1 (((cutL k).2.getD 0 0).toNat - 48) ((cutL k).2.getD 1 0==99)=[]∨keyL (cutL k).1 (((cutL k).2.getD 0 0).toNat - 48) ((cutL k).2.getD 1 0==99)≠k then none
 else some ((cutL k).1,((cutL k).2.getD 0 0).toNat - 48,(cutL k).2.getD 1 0==99)
theorem idC_dot:idC 46=false:=by decide
theorem id_dot {l:List UInt8} (h:idL l=true):∀ c∈l,(c != 46)=true:=fun c hc=>by
 unfold idL at h
 simp only [Bool.and_eq_true] at h
 have:=List.all_eq_true.1 h.2 c hc
 rw [bne_iff_ne]
 intro e
 subst e
 rw [idC_dot] at this
 cases this
theorem key_some {l:List UInt8} {i:Int} {b:Bool} (h:keyL l i b≠[]):idL l=true∧0≤i∧i<8∧keyL l i b=l++tailL i.toNat b:=by
 unfold keyL at h ⊢
 split at h
 ·rename_i hc
  exact ⟨hc.1,hc.2.1,hc.2.2,if_pos hc⟩
 ·exact absurd rfl h
theorem key_of {l:List UInt8} {i:Int} {b:Bool} (h1:idL l=true) (h2:0≤i) (h3:i<8):keyL l i b=l++tailL i.toNat b:=if_pos ⟨h1,h2,h3⟩
theorem key_none {l:List UInt8} {i:Int} {b:Bool}:keyL l i b=[]↔(idL l=false∨i<0∨8≤i):=by
 unfold keyL
 split
 ·rename_i h
  constructor
  ·intro e
   have:=congrArg List.length e
   simp [tailL] at this
  ·intro e
   rcases e with e | e | e
   ·rw [h.1] at e;cases e
   ·omega
   ·omega
 ·rename_i h
  refine ⟨fun _=>?_,fun _=>rfl⟩
  by_cases h1:idL l=true
  ·by_cases h2:0≤i
   ·exact .inr (.inr (by
     rcases Int.lt_or_le i 8 with h3 | h3
     ·exact absurd ⟨h1,h2,h3⟩ h
     ·exact h3))
   ·exact .inr (.inl (by omega))
  ·exact .inl (by simpa using h1)
theorem cut_key {l:List UInt8} (h:idL l=true) (r:List UInt8):cutL (l++46::r)=(l,r):=by
 have h1:∀ l:List UInt8,(∀ c∈l,(c != 46)=true)→(l++46::r).takeWhile (· != 46)=l∧(l++46::r).dropWhile (· != 46)=46::r:=fun l=>by
  induction l with
  | nil=>intro _;exact ⟨rfl,rfl⟩
  | cons c l ih =>
   intro hc
   obtain ⟨a,b⟩:=ih (fun d hd=>hc d (by simp [hd]))
   have h0:=hc c (by simp)
   refine ⟨?_,?_⟩
   ·rw [List.cons_append,List.takeWhile_cons,if_pos h0,a]
   ·rw [List.cons_append,List.dropWhile_cons,if_pos h0,b]
 obtain ⟨a,b⟩:=h1 l (id_dot h)
 unfold cutL
 rw [a,b]
 rfl
theorem way_byte (b:Bool):((way b)==99)=b:=by cases b <;> decide
theorem dig_byte {i:Nat} (h:i<8):(UInt8.ofNat (48+i)).toNat=48+i:=by rw [Sm.ofNat_toNat,Nat.mod_eq_of_lt (by omega)]
/-- A key is read as what it was made of, by both. -/
theorem readP_key {l:List UInt8} {i:Int} {b:Bool} (h:keyL l i b≠[]):readP (keyL l i b)=some (l,i,b):=by
 obtain ⟨h1,h2,h3,h4⟩:=key_some h
 obtain ⟨n,rfl⟩:∃ n:Nat,i=n:=⟨i.toNat,by omega⟩
 have hc:cutL (keyL l n b)=(l,[UInt8.ofNat (48+n),way b]):=by
  rw [h4]
  exact cut_key h1 _
 unfold readP
 rw [hc]
 simp only [List.length_cons,List.length_nil,ne_eq,not_true_eq_false,if_false,List.getD_cons_zero,List.getD_cons_succ]
 rw [dig_byte (by omega),way_byte]
 have e:(((48+n:Nat):Int) - 48)=(n:Int):=by omega
 rw [e,if_neg (by rintro (h5 | h5);exact h h5;exact h5 rfl)]
theorem readP_some {k l:List UInt8} {i:Int} {b:Bool} (h:readP k=some (l,i,b)):k=keyL l i b∧k≠[]:=by
 unfold readP at h
 split at h
 ·cases h
 ·split at h
  ·cases h
  ·rename_i h1
   injection h with h
   injection h with e1 h
   injection h with e2 e3
   subst e1 e2 e3
   constructor
   ·exact Classical.byContradiction fun h2=>h1 (.inr fun e=>h2 e.symm)
   ·intro e
    exact h1 (.inl (Classical.byContradiction fun h2=>h1 (.inr fun e3=>h2 (by rw [e3];exact e))))
theorem readL_key {l:List UInt8} {i:Int} {b:Bool} (h:keyL l i b≠[]):readL (keyL l i b)=some (l,i,b):=by
 obtain ⟨h1,h2,h3,h4⟩:=key_some h
 obtain ⟨n,rfl⟩:∃ n:Nat,i=n:=⟨i.toNat,by omega⟩
 rw [h4]
 have hn:1≤l.length:=by unfold idL at h1;simp only [Bool.and_eq_true,decide_eq_true_eq] at h1;exact h1.1.1
 have hlen:(l++tailL ((n:Int)).toNat b).length=l.length+3:=by rw [List.length_append];rfl
 have g0:(l++tailL ((n:Int)).toNat b).getD l.length 0=46:=by
  rw [List.getD_eq_getElem?_getD,List.getElem?_append_right (Nat.le_refl _),Nat.sub_self];rfl
 have g1:(l++tailL ((n:Int)).toNat b).getD (l.length+1) 0=UInt8.ofNat (48+n):=by
  rw [List.getD_eq_getElem?_getD,List.getElem?_append_right (by omega),Nat.add_sub_cancel_left,Int.toNat_natCast];rfl
 have g2:(l++tailL ((n:Int)).toNat b).getD (l.length+2) 0=way b:=by
  rw [List.getD_eq_getElem?_getD,List.getElem?_append_right (by omega),Nat.add_sub_cancel_left];rfl
 have ht:(l++tailL ((n:Int)).toNat b).take l.length=l:=by rw [List.take_left]
 unfold readL
 rw [hlen,show l.length+3 - 3=l.length by omega,show l.length+3 - 2=l.length+1 by omega,show l.length+3 - 1=l.length+2 by omega,g0,g1,g2,ht,h1,dig_byte (by omega),way_byte]
 rw [if_neg (by rintro (h | h | h);omega;exact h rfl;cases h),if_neg (by rintro (h | h | h);omega;omega;cases b;exact h.1 rfl;exact h.2 rfl)]
 rw [show (((48+n:Nat):Int) - 48)=(n:Int) by omega]
theorem readL_some {k l:List UInt8} {i:Int} {b:Bool} (h:readL k=some (l,i,b)):k=keyL l i b∧k≠[]:=by
 unfold readL at h
 split at h
 ·cases h
 ·rename_i h1
  split at h
  ·cases h
  ·rename_i h2
   injection h with h
   injection h with e1 h
   injection h with e2 e3
   subst e1 e2 e3
   have hl:4≤k.length:=by
    rcases Nat.lt_or_ge k.length 4 with h | h
    ·exact absurd (.inl h) h1
    ·exact h
   have hd:k.getD (k.length - 3) 0=46:=Classical.byContradiction fun h=>h1 (.inr (.inl h))
   have hi:idL (k.take (k.length - 3))=true:=by
    cases hx:idL (k.take (k.length - 3))
    ·exact absurd (.inr (.inr hx)) h1
    ·rfl
   have h3:48≤(k.getD (k.length - 2) 0).toNat∧(k.getD (k.length - 2) 0).toNat≤55:=by
    constructor
    ·exact Nat.le_of_not_lt fun h=>h2 (.inl h)
    ·exact Nat.le_of_not_lt fun h=>h2 (.inr (.inl h))
   have h4:k.getD (k.length - 1) 0=102∨k.getD (k.length - 1) 0=99:=Classical.byContradiction fun h=>h2 (.inr (.inr ⟨fun e=>h (.inl e),fun e=>h (.inr e)⟩))
   refine ⟨?_,fun e=>by subst e;simp at hl⟩
   rw [key_of hi (by omega) (by omega)]
   have hk:k=k.take (k.length - 3)++k.drop (k.length - 3):=(List.take_append_drop _ _).symm
   conv=>lhs;rw [hk]
   congr 1
   have e0:∀ j (hj:j<k.length),k.drop j=k.getD j 0::k.drop (j+1):=fun j hj=>by
    rw [List.drop_eq_getElem_cons hj,List.getD_eq_getElem?_getD,List.getElem?_eq_getElem hj,Option.getD_some]
   rw [e0 _ (by omega),e0 _ (by omega),e0 _ (by omega),List.drop_of_length_le (by omega),hd,show k.length - 3+1=k.length - 2 by omega,show k.length - 2+1=k.length - 1 by omega]
   unfold tailL
   rw [show 48+(((k.getD (k.length - 2) 0).toNat:Int) - 48).toNat=(k.getD (k.length - 2) 0).toNat by omega,UInt8.ofNat_toNat]
   rcases h4 with h4 | h4 <;> rw [h4] <;> rfl
/-- Both read the same. -/
theorem read_same (k:List UInt8):readP k=readL k:=by
 cases hp:readP k with
 | some p =>
  obtain ⟨l,i,b⟩:=p
  obtain ⟨e,h0⟩:=readP_some hp
  rw [e] at h0 ⊢
  exact (readL_key h0).symm
 | none =>
  cases hl:readL k with
  | none=>rfl
  | some p =>
   obtain ⟨l,i,b⟩:=p
   obtain ⟨e,h0⟩:=readL_some hl
   rw [e] at h0 hp
   rw [readP_key h0] at hp
   cases hp
theorem key_inj {a b:List UInt8} {i j:Int} {x y:Bool} (h0:keyL a i x≠[]):keyL a i x=keyL b j y↔(a=b∧i=j∧x=y):=by
 constructor
 ·intro e
  have h1:=readP_key h0
  rw [e] at h1 h0
  have h2:=readP_key h0
  rw [h1] at h2
  injection h2 with h
  injection h with e1 h
  injection h with e2 e3
  exact ⟨e1,e2,e3⟩
 ·rintro ⟨rfl,rfl,rfl⟩
  rfl
theorem key_len {a:List UInt8} {i:Int} {x:Bool}:(keyL a i x).length≤27:=by
 unfold keyL
 split
 ·rename_i h
  have:=h.1
  unfold idL at this
  simp only [Bool.and_eq_true,decide_eq_true_eq] at this
  rw [List.length_append]
  show a.length+3≤27
  omega
 ·exact Nat.zero_le _
end Sd
end Go.Proofs.YtlbihaikppkecaaGreatDoor
/-
  DERIVED: THE SHELF's CONTRACTS AT THIS DUMP, IN PLAIN WORDS (tools/lay-plain.mjs out of 'TryzShelf.lean', which tools/lay-shelf.mjs wrote): THE SAME DECLARATIONS UNDER THE SAME NAMES: 'import', 'namespace', 'open', 'def', 'theorem' AND NOTHING ELSE: no command of the shelf's: FOR A HAND-IN. Each laying: the table of numbers ('.._ren') and one theorem, a field a fact of the dump's own or the kernel's comparison; each contract: ONE APPLICATION.
-/
namespace Go.Proofs
open Go.Shelf
def Tryz.lays156_ren:Go.Shelf.Ren:=⟨fun | 156=>110 | 165=>131 | 166=>132 | 169=>133 | 240=>138 | 241=>139 | 276=>146 | 277=>147 | n=>n,fun | 31=>127 | 9=>9 | 3=>3 | 4=>4 | 0=>0 | 20=>20 | 72=>174 | 76=>178 | 70=>172 | 37=>50 | 75=>177 | 127=>183 | 164=>191 | 5=>5 | 80=>134 | n=>n,fun | n=>n⟩
theorem Tryz.lays156:Go.Proofs.Lays.n156 Tryz.prog Tryz.lays156_ren:={
 mixed:=by kernel_rfl
 f156:=Tryz.func110.trans (congrArg some (by kernel_rfl))
 f165:=Tryz.func131.trans (congrArg some (by kernel_rfl))
 f166:=Tryz.func132.trans (congrArg some (by kernel_rfl))
 f169:=Tryz.func133.trans (congrArg some (by kernel_rfl))
 f240:=Tryz.func138.trans (congrArg some (by kernel_rfl))
 f241:=Tryz.func139.trans (congrArg some (by kernel_rfl))
 f276:=Tryz.func146.trans (congrArg some (by kernel_rfl))
 f277:=Tryz.func147.trans (congrArg some (by kernel_rfl))
 t0:=Tryz.underlying0
 a0:=Tryz.isAgg0
 z0:=Tryz.sizeOf0
 v0:=Tryz.zeroValue0
 t3:=Tryz.underlying3
 a3:=Tryz.isAgg3
 z3:=Tryz.sizeOf3
 v3:=Tryz.zeroValue3
 t4:=Tryz.underlying4
 a4:=Tryz.isAgg4
 z4:=Tryz.sizeOf4
 v4:=Tryz.zeroValue4
 t9:=Tryz.underlying9
 a9:=Tryz.isAgg9
 z9:=Tryz.sizeOf9
 v9:=Tryz.zeroValue9
 t20:=Tryz.underlying20
 a20:=Tryz.isAgg20
 z20:=Tryz.sizeOf20
 v20:=Tryz.zeroValue20
 t31:=Tryz.underlying127
 a31:=Tryz.isAgg127
 z31:=Tryz.sizeOf127
 v31:=Tryz.zeroValue127
 t37:=Tryz.underlying50
 a37:=Tryz.isAgg50
 z37:=Tryz.sizeOf50
 v37:=Tryz.zeroValue50
 t70:=Tryz.underlying172
 a70:=Tryz.isAgg172
 z70:=Tryz.sizeOf172
 v70:=Tryz.zeroValue172
 t72:=Tryz.underlying174
 a72:=Tryz.isAgg174
 z72:=Tryz.sizeOf174
 v72:=Tryz.zeroValue174
 t75:=Tryz.underlying177
 a75:=Tryz.isAgg177
 z75:=Tryz.sizeOf177
 v75:=Tryz.zeroValue177
 t76:=Tryz.underlying178
 a76:=Tryz.isAgg178
 z76:=Tryz.sizeOf178
 v76:=Tryz.zeroValue178
 t127:=Tryz.underlying183
 a127:=Tryz.isAgg183
 z127:=Tryz.sizeOf183
 v127:=Tryz.zeroValue183
 t164:=Tryz.underlying191
 a164:=Tryz.isAgg191
 z164:=Tryz.sizeOf191
 v164:=Tryz.zeroValue191 }
theorem Tryz.Builder_Extra_156:Builder.Extra Tryz.prog Tryz.lays156_ren:={
 sizeBuilder:=by kernel_rfl
 liesBuilder:=by kernel_rfl
 t5:=Tryz.underlying5
 a5:=Tryz.isAgg5
 z5:=Tryz.sizeOf5
 v5:=Tryz.zeroValue5
 infoByte:=by kernel_rfl
 cellsByte:=by kernel_rfl
 sizeByte:=by kernel_rfl
 neB5:=by decide }
open Go.RowKit in
/-- No element: the empty string; the world is as it was. (Whatever the slice's address and capacity: a nil slice too.) (LAID: no walk: one application.) -/
theorem Tryz.strings_Join_none (a:Option Addr) (c:Nat) (sep:ByteArray) (w:World) :
  Calls Tryz.prog 110 #[.slice a 0 c,.string sep] w fun e w'=>e=.returned (.string ⟨#[]⟩)∧w'=w:=Any.strings_Join_none Tryz.lays156 Tryz.Builder_Extra_156 a c sep w
open Go.RowKit in
/-- strings.Join: "Join concatenates the elements of its first argument to create a single string. The separator string sep is placed between elements in the resulting string.": HOWEVER MANY ELEMENTS. Below the heap's end the world is as it was. (LAID: no walk: one application.) -/
theorem Tryz.strings_Join (bk o c:Nat) (xs:List ByteArray) (sep:ByteArray) (w:World) (hcells:∀ (j:Nat) x,xs[j]?=some x→w.cell? ⟨bk,o+j,none⟩=some (.string x)) (hbk:bk<w.heap.size) (hN:xs.length≤140737488355328) (hcap:xs.length≤c) (hlen:(Lib.join (xs.map (·.data.toList)) sep.data.toList).length≤140737488355328) :
  Calls Tryz.prog 110 #[.slice (some ⟨bk,o,none⟩) xs.length c,.string sep] w fun e w'=>e=.returned (.string ⟨(Lib.join (xs.map (·.data.toList)) sep.data.toList).toArray⟩)∧Below w.heap.size w w':=Any.strings_Join Tryz.lays156 Tryz.Builder_Extra_156 bk o c xs sep w hcells hbk hN hcap hlen
def Tryz.lays171_ren:Go.Shelf.Ren:=⟨fun | 171=>109 | 243=>130 | 246=>137 | 283=>142 | 284=>143 | 285=>144 | 286=>145 | 129=>149 | 317=>148 | 318=>150 | 319=>151 | 320=>152 | 337=>153 | 338=>154 | n=>n,fun | 3=>3 | 9=>9 | 2=>2 | 4=>4 | 171=>186 | 0=>0 | 53=>38 | 37=>50 | 5=>5 | 173=>189 | 212=>195 | 51=>77 | 20=>20 | 213=>196 | 46=>89 | 232=>199 | 233=>200 | n=>n,fun | 17=>2 | 18=>3 | 19=>4 | n=>n⟩
theorem Tryz.lays171:Go.Proofs.Lays.n171 Tryz.prog Tryz.lays171_ren:={
 mixed:=by kernel_rfl
 f129:=Tryz.func149.trans (congrArg some (by kernel_rfl))
 f171:=Tryz.func109.trans (congrArg some (by kernel_rfl))
 f243:=Tryz.func130.trans (congrArg some (by kernel_rfl))
 f246:=Tryz.func137.trans (congrArg some (by kernel_rfl))
 f283:=Tryz.func142.trans (congrArg some (by kernel_rfl))
 f284:=Tryz.func143.trans (congrArg some (by kernel_rfl))
 f285:=Tryz.func144.trans (congrArg some (by kernel_rfl))
 f286:=Tryz.func145.trans (congrArg some (by kernel_rfl))
 f317:=Tryz.func148.trans (congrArg some (by kernel_rfl))
 f318:=Tryz.func150.trans (congrArg some (by kernel_rfl))
 f319:=Tryz.func151.trans (congrArg some (by kernel_rfl))
 f320:=Tryz.func152.trans (congrArg some (by kernel_rfl))
 f337:=Tryz.func153.trans (congrArg some (by kernel_rfl))
 f338:=Tryz.func154.trans (congrArg some (by kernel_rfl))
 t0:=Tryz.underlying0
 a0:=Tryz.isAgg0
 z0:=Tryz.sizeOf0
 v0:=Tryz.zeroValue0
 t2:=Tryz.underlying2
 a2:=Tryz.isAgg2
 z2:=Tryz.sizeOf2
 v2:=Tryz.zeroValue2
 t3:=Tryz.underlying3
 a3:=Tryz.isAgg3
 z3:=Tryz.sizeOf3
 v3:=Tryz.zeroValue3
 t4:=Tryz.underlying4
 a4:=Tryz.isAgg4
 z4:=Tryz.sizeOf4
 v4:=Tryz.zeroValue4
 t5:=Tryz.underlying5
 a5:=Tryz.isAgg5
 z5:=Tryz.sizeOf5
 v5:=Tryz.zeroValue5
 t9:=Tryz.underlying9
 a9:=Tryz.isAgg9
 z9:=Tryz.sizeOf9
 v9:=Tryz.zeroValue9
 t20:=Tryz.underlying20
 a20:=Tryz.isAgg20
 z20:=Tryz.sizeOf20
 v20:=Tryz.zeroValue20
 t37:=Tryz.underlying50
 a37:=Tryz.isAgg50
 z37:=Tryz.sizeOf50
 v37:=Tryz.zeroValue50
 t46:=Tryz.underlying89
 a46:=Tryz.isAgg89
 z46:=Tryz.sizeOf89
 v46:=Tryz.zeroValue89
 t51:=Tryz.underlying77
 a51:=Tryz.isAgg77
 z51:=Tryz.sizeOf77
 v51:=Tryz.zeroValue77
 t53:=Tryz.underlying38
 a53:=Tryz.isAgg38
 z53:=Tryz.sizeOf38
 v53:=Tryz.zeroValue38
 t171:=Tryz.underlying186
 a171:=Tryz.isAgg186
 z171:=Tryz.sizeOf186
 v171:=Tryz.zeroValue186
 t173:=Tryz.underlying189
 a173:=Tryz.isAgg189
 z173:=Tryz.sizeOf189
 v173:=Tryz.zeroValue189
 t212:=Tryz.underlying195
 a212:=Tryz.isAgg195
 z212:=Tryz.sizeOf195
 v212:=Tryz.zeroValue195
 t213:=Tryz.underlying196
 a213:=Tryz.isAgg196
 z213:=Tryz.sizeOf196
 t232:=Tryz.underlying199
 a232:=Tryz.isAgg199
 z232:=Tryz.sizeOf199
 v232:=Tryz.zeroValue199
 t233:=Tryz.underlying200
 a233:=Tryz.isAgg200
 z233:=Tryz.sizeOf200
 v233:=Tryz.zeroValue200
 g17:=by kernel_rfl
 g18:=by kernel_rfl
 g19:=by kernel_rfl }
open Go.RowKit Go.Sort Go.Lib in
/-- THE ROAD WITHOUT THE TABLE: 0 <= i < 100: NO PREMISE ON THE WORLD, AND THE WORLD IS AS IT WAS: a row that keeps its argument in that range need list no table ('laid = []'). (LAID: no walk: one application.) -/
theorem Tryz.strconv_Itoa_small (i:Nat) (hi:i<100) (w:World) :
  Calls Tryz.prog 109 #[.int .i64 i] w fun e w'=>e=.returned (.string ⟨(Lib.decDigits i).toArray⟩)∧w'=w:=Any.strconv_Itoa_small Tryz.lays171 i hi w
def Tryz.lays219_ren:Go.Shelf.Ren:=⟨fun | 219=>48 | 217=>64 | 225=>65 | 224=>66 | 267=>67 | 266=>92 | 314=>93 | n=>n,fun | 9=>9 | 3=>3 | 4=>4 | 5=>5 | 46=>89 | 146=>142 | 51=>77 | n=>n,fun | 1=>0 | n=>n⟩
theorem Tryz.lays219:Go.Proofs.Lays.n219 Tryz.prog Tryz.lays219_ren:={
 mixed:=by kernel_rfl
 f217:=Tryz.func64.trans (congrArg some (by kernel_rfl))
 f219:=Tryz.func48.trans (congrArg some (by kernel_rfl))
 f224:=Tryz.func66.trans (congrArg some (by kernel_rfl))
 f225:=Tryz.func65.trans (congrArg some (by kernel_rfl))
 f266:=Tryz.func92.trans (congrArg some (by kernel_rfl))
 f267:=Tryz.func67.trans (congrArg some (by kernel_rfl))
 f314:=Tryz.func93.trans (congrArg some (by kernel_rfl))
 t3:=Tryz.underlying3
 a3:=Tryz.isAgg3
 z3:=Tryz.sizeOf3
 v3:=Tryz.zeroValue3
 t4:=Tryz.underlying4
 a4:=Tryz.isAgg4
 z4:=Tryz.sizeOf4
 v4:=Tryz.zeroValue4
 t5:=Tryz.underlying5
 a5:=Tryz.isAgg5
 z5:=Tryz.sizeOf5
 v5:=Tryz.zeroValue5
 t9:=Tryz.underlying9
 a9:=Tryz.isAgg9
 z9:=Tryz.sizeOf9
 v9:=Tryz.zeroValue9
 t46:=Tryz.underlying89
 a46:=Tryz.isAgg89
 z46:=Tryz.sizeOf89
 v46:=Tryz.zeroValue89
 t51:=Tryz.underlying77
 a51:=Tryz.isAgg77
 z51:=Tryz.sizeOf77
 v51:=Tryz.zeroValue77
 t146:=Tryz.underlying142
 a146:=Tryz.isAgg142
 z146:=Tryz.sizeOf142
 v146:=Tryz.zeroValue142
 g1:=by kernel_rfl }
open Go.RowKit Go.Lib in
/-- internal/stringslite.Index (what strings.Index calls) AT A substr OF ONE BYTE c: IT RETURNS 'Lib.indexByte s c'; the world is as it was. (LAID: no walk: one application.) -/
theorem Tryz.stringslite_Index_one (s:ByteArray) (c:UInt8) (w:World) :
  Calls Tryz.prog 48 #[.string s,.string ⟨#[c]⟩] w fun e w'=>e=.returned (.int .i64 (Lib.indexByte s.data.toList c))∧w'=w:=Any.stringslite_Index_one Tryz.lays219 s c w
def Tryz.lays110_ren:Go.Shelf.Ren:=⟨fun | 110=>90 | 109=>119 | n=>n,fun | 31=>127 | 9=>9 | 4=>4 | 3=>3 | 0=>0 | n=>n,fun | n=>n⟩
theorem Tryz.lays110:Go.Proofs.Lays.n110 Tryz.prog Tryz.lays110_ren:={
 mixed:=by kernel_rfl
 f109:=Tryz.func119.trans (congrArg some (by kernel_rfl))
 f110:=Tryz.func90.trans (congrArg some (by kernel_rfl))
 t0:=Tryz.underlying0
 a0:=Tryz.isAgg0
 z0:=Tryz.sizeOf0
 v0:=Tryz.zeroValue0
 t3:=Tryz.underlying3
 a3:=Tryz.isAgg3
 z3:=Tryz.sizeOf3
 v3:=Tryz.zeroValue3
 t4:=Tryz.underlying4
 a4:=Tryz.isAgg4
 z4:=Tryz.sizeOf4
 v4:=Tryz.zeroValue4
 t9:=Tryz.underlying9
 a9:=Tryz.isAgg9
 z9:=Tryz.sizeOf9
 v9:=Tryz.zeroValue9
 t31:=Tryz.underlying127
 a31:=Tryz.isAgg127
 z31:=Tryz.sizeOf127
 v31:=Tryz.zeroValue127 }
open Go.Lib in
/-- slices.Contains at []string: "Contains reports whether v is present in s.": IT RETURNS 'Lib.containsS (the elements) v', which is true just where v is among them ('Lib.containsS_iff'); the world is as it was. ITS CALLEE slices.Index IS MET BY ITS OWN CONTRACT OFF THE SHELF (lay that first): no loop is walked here. (LAID: no walk: one application.) -/
theorem Tryz.slices_Contains_string (b off n c:Nat) (zs:List ByteArray) (x:ByteArray) (w:World) (hz:n≤zs.length) (hbig:n≤9223372036854775807) (hc:∀ j,j<zs.length→w.cell? ⟨b,off+j,none⟩=some (.string (zs.getD j ByteArray.empty))) :
  Calls Tryz.prog 90 #[.slice (some ⟨b,off,none⟩) n c,.string x] w fun e w'=>e=.returned (.bool (Lib.containsS (zs.take n) x))∧w'=w:=Any.slices_Contains_string Tryz.lays110 b off n c zs x w hz hbig hc
end Go.Proofs
set_option linter.unusedVariables false
set_option linter.unusedSimpArgs false
namespace Go.Proofs.YtlbihaikppkecaaGreatDoor
open Go.RowKit Go.BigFrame
theorem Sd.bytes_below (w:World) (e:TypeId) (s:ByteArray):Below w.heap.size w (Lib.bytesWorld w e s) :=
 ⟨rfl,rfl,rfl,by rw [Lib.bytesWorld_size];omega,fun i hi=>Lib.bytesWorld_at_old w e s i hi⟩
theorem Sd.retB {a b:Bool} (h:a=b):Ending.returned (.bool a)=Ending.returned (.bool b):=by rw [h]
theorem Sd.idL_bad {l:List UInt8} {k:Nat} (h:k<l.length) (hc:Sd.idC l[k]=false):Sd.idL l=false:=by
 unfold Sd.idL
 have:l.all Sd.idC=false:=by
  rw [List.all_eq_false]
  exact ⟨_,List.getElem_mem h,by rw [hc];decide⟩
 rw [this,Bool.and_false]
set_option maxRecDepth 100000 in
set_option maxHeartbeats 4000000 in
theorem sid_any (s:ByteArray) (hs:s.size≤100000) (w:World):Calls Tryz.prog 9 #[.string s] w fun e w'=>e=.returned (.bool (Sd.idL s.data.toList))∧Below w.heap.size w w':=by
 obtain ⟨R,HR⟩:∃ R,Hid (Sd.idL s.data.toList=R):=⟨_,Lib.hid rfl⟩
 rw [HR.out]
 have hcv:=fun W=>Lib.run_convert_string_bytes (P:=Tryz.prog) W 9 50 5 s Tryz.underlying9 Tryz.underlying50 Tryz.underlying5
 have hll:s.data.toList.length=s.size:=by simp
 have HLL:=Lib.hid hll
 clear hll
 go_enter Tryz.func9,Tryz.ntmps9
 go_wp2_with fail
 have HB:=Lib.hid (Sd.bytes_below w 5 s)
 have HC:=Lib.hid (Lib.bytesWorld_cell w 5 s)
 clear hcv
 generalize Lib.bytesWorld w 5 s=W1 at *
 go_loopw [8] (fun i wr=>∃ k:Nat,k≤s.size∧i=.int .i64 k∧Hid ((s.data.toList.take k).all Sd.idC=true)∧wr=W1) (fun i _=>s.size - (intOf i).toNat)
 case atStart=>exact ⟨0,by omega,rfl,Lib.hid rfl,rfl⟩
 case round =>
  obtain ⟨k,hk,rfl,HA,rfl⟩:=hrel
  by_cases hlt:k<s.size
  case neg =>
   have h1:¬(k:Int)<(s.size:Int):=by omega
   have HE:Hid (R=(decide (1≤s.size)&&decide (s.size≤24))):=Lib.hid (by
    have h2:=HA.out
    rw [List.take_of_length_le (by rw [HLL.out];omega)] at h2
    rw [←HR.out]
    unfold Sd.idL
    rw [h2,HLL.out,Bool.and_true])
   obtain rfl:=HE.out
   go_wp2_with fail
   all_goals
    go_ret
    refine ⟨?_,HB.out⟩
    first
     | rfl
     | (refine Sd.retB ?_;rw [Bool.eq_iff_iff,Bool.and_eq_true,decide_eq_true_eq,decide_eq_true_eq];first | (rw [decide_eq_true_eq];omega) | (constructor <;> intro hh <;> first | omega | (cases hh)))
  have h1:(k:Int)<(s.size:Int):=by omega
  have h0:(0:Int)≤(k:Int):=by omega
  have hkl:k<s.data.toList.length:=by rw [HLL.out];exact hlt
  have c0:=HC.out k hlt
  obtain ⟨c,Hc⟩:∃ c:Nat,Hid ((s.data.toList.getD k 0).toNat=c):=⟨_,Lib.hid rfl⟩
  rw [Hc.out] at c0
  have hcg:s.data.toList.getD k 0=s.data.toList[k]:=by rw [List.getD_eq_getElem?_getD,List.getElem?_eq_getElem hkl,Option.getD_some]
  have HBAD:Hid (¬((97≤c∧c≤122)∨(48≤c∧c≤57)∨c=95)→R=false):=Lib.hid (fun h=>by
   rw [←HR.out]
   refine Sd.idL_bad hkl ?_
   rw [←hcg]
   unfold Sd.idC
   rw [Hc.out]
   simp
   omega)
  have HOK:Hid (((97≤c∧c≤122)∨(48≤c∧c≤57)∨c=95)→(s.data.toList.take (k+1)).all Sd.idC=true):=Lib.hid (fun h=>by
   rw [List.take_succ_eq_append_getElem hkl,List.all_append,HA.out,Bool.true_and,←hcg]
   simp only [List.all_cons,List.all_nil,Bool.and_true]
   unfold Sd.idC
   rw [Hc.out]
   simp
   omega)
  clear hcg hkl
  by_cases hgood:(97≤c∧c≤122)∨(48≤c∧c≤57)∨c=95
  case neg =>
   obtain rfl:=HBAD.out hgood
   go_wp2_with fail
   all_goals first
    | (go_ret;exact ⟨rfl,HB.out⟩)
    | (exfalso;simp only [Bool.not_eq_true',decide_eq_false_iff_not,Bool.not_eq_false',decide_eq_true_eq,beq_iff_eq,beq_eq_false_iff_ne,bne_iff_ne,ne_eq] at *;omega)
  have HNX:=Lib.hid (HOK.out hgood)
  go_wp2_with fail
  all_goals first
   | (go_roundw
      case rel=>exact ⟨k+1,by omega,by go_num,HNX,by first | rfl | trivial⟩
      case measure=>simp [intOf];omega)
   | (exfalso;simp only [Bool.not_eq_true',decide_eq_false_iff_not,Bool.not_eq_false',decide_eq_true_eq,beq_iff_eq,beq_eq_false_iff_ne,bne_iff_ne,ne_eq] at *;omega)
def Sd.keyB (id:ByteArray) (i:Int) (b:Bool):ByteArray:=⟨(Sd.keyL id.data.toList i b).toArray⟩
theorem Sd.enc8:∀ n,n<8→Utf8.encode (48+(n:Nat))=⟨#[UInt8.ofNat (48+n)]⟩:=by decide +kernel
theorem Sd.keyB_of {id:ByteArray} {n:Nat} {b:Bool} (h:Sd.idL id.data.toList=true) (hn:n<8):((id++⟨#[46]⟩)++⟨#[UInt8.ofNat (48+n)]⟩)++⟨#[Sd.way b]⟩=Sd.keyB id n b:=by
 unfold Sd.keyB
 rw [Sd.key_of h (by omega) (by omega),Int.toNat_natCast]
 apply ByteArray.ext
 apply Array.ext'
 simp [Sd.tailL]
theorem Sd.keyB_none {id:ByteArray} {i:Int} {b:Bool} (h:Sd.idL id.data.toList=false∨i<0∨8≤i):Sd.keyB id i b=⟨#[]⟩:=by
 unfold Sd.keyB
 rw [Sd.key_none.2 h]
set_option maxRecDepth 100000 in
set_option maxHeartbeats 4000000 in
theorem skey_any (s:ByteArray) (hs:s.size≤100000) (i:Int) (b:Bool) (w:World):Calls Tryz.prog 11 #[.string s,.int .i64 i,.bool b] w fun e w'=>e=.returned (.string (Sd.keyB s i b))∧Below w.heap.size w w':=by
 obtain ⟨R,HR⟩:∃ R,Hid (Sd.keyB s i b=R):=⟨_,Lib.hid rfl⟩
 rw [HR.out]
 go_enter Tryz.func11,Tryz.ntmps11
 go_wp2_with fail
 refine (sid_any s hs w).mono ?_
 obtain ⟨B,HB⟩:∃ B,Hid (Sd.idL s.data.toList=B):=⟨_,Lib.hid rfl⟩
 rw [HB.out]
 rintro e w1 ⟨rfl,hb⟩
 have HBL:=Lib.hid hb
 clear hb
 by_cases hbad:B=false∨i<0∨8≤i
 case pos =>
  have HE:Hid (R=⟨#[]⟩):=Lib.hid (by rw [←HR.out,Sd.keyB_none (by rw [HB.out];exact hbad)])
  obtain rfl:=HE.out
  rcases hbad with rfl | hi | hi
  ·go_wp2_with fail
   go_ret
   exact ⟨rfl,HBL.out⟩
  ·cases B
   ·go_wp2_with fail
    go_ret
    exact ⟨rfl,HBL.out⟩
   ·go_wp2_with fail
    go_ret
    exact ⟨rfl,HBL.out⟩
  ·have hi0:¬i<0:=by omega
   cases B
   ·go_wp2_with fail
    go_ret
    exact ⟨rfl,HBL.out⟩
   ·go_wp2_with fail
    go_ret
    exact ⟨rfl,HBL.out⟩
 have hB:B=true:=by
  cases B
  ·exact absurd (.inl rfl) hbad
  ·rfl
 subst hB
 have hi0:¬i<0:=by omega
 have hi8:¬8≤i:=by omega
 have hsz:s.size≤24:=by
  have h:=HB.out
  unfold Sd.idL at h
  simp only [Bool.and_eq_true,decide_eq_true_eq] at h
  have:=h.1.2
  simpa using this
 obtain ⟨c,Hc⟩:∃ c:UInt8,Hid (UInt8.ofNat (48+i.toNat)=c):=⟨_,Lib.hid rfl⟩
 have HEN:Hid (Utf8.encode (48+i)=⟨#[c]⟩):=Lib.hid (by have h:=Sd.enc8 i.toNat (by omega);rw [Int.toNat_of_nonneg (by omega),Hc.out] at h;exact h)
 have HW1:Hid (IntKind.i64.wrap (48+i)=48+i):=Lib.hid (by rw [IntKind.wrap_i64];omega)
 have HW2:Hid (IntKind.i32.wrap (48+i)=48+i):=Lib.hid (by unfold IntKind.wrap;simp [IntKind.bits,IntKind.signed];omega)
 have HE:Hid (((s++⟨#[46]⟩)++⟨#[c]⟩)++⟨#[Sd.way b]⟩=R):=Lib.hid (by rw [←Hc.out,Sd.keyB_of HB.out (by omega),←HR.out,Int.toNat_of_nonneg (by omega)])
 clear hbad
 cases b
 ·go_upto_region 6 with (fail)
  have hen:=HEN.out
  have hw1:=HW1.out
  have hw2:=HW2.out
  clear HEN HW1 HW2
  go_wp2_with fail
  go_ret
  exact ⟨by rw [←HE.out];rfl,HBL.out⟩
 ·go_upto_region 6 with (fail)
  have hen:=HEN.out
  have hw1:=HW1.out
  have hw2:=HW2.out
  clear HEN HW1 HW2
  go_wp2_with fail
  go_ret
  exact ⟨by rw [←HE.out];rfl,HBL.out⟩
namespace Sd
theorem cut_ix:∀ l:List UInt8,(Lib.indexByte l 46=-1∧cutL l=(l,[]))∨∃ i:Nat,Lib.indexByte l 46=i∧i<l.length∧cutL l=(l.take i,l.drop (i+1))
 | []=>.inl ⟨rfl,rfl⟩
 | b::l=>by
  by_cases hb:b=46
  ·subst hb
   exact .inr ⟨0,rfl,by simp,rfl⟩
  ·have h1:(b==46)=false:=by simpa using hb
   have h2:(b != 46)=true:=by simpa using hb
   rcases cut_ix l with ⟨e1,e2⟩ | ⟨i,e1,hi,e2⟩
   ·left
    unfold cutL at e2 ⊢
    unfold Lib.indexByte
    rw [List.takeWhile_cons,List.dropWhile_cons,if_pos h2,if_pos h2,h1,e1]
    simp only [Prod.mk.injEq] at e2
    exact ⟨rfl,by rw [e2.1,e2.2]⟩
   ·right
    refine ⟨i+1,?_,by simp;omega,?_⟩
    ·unfold Lib.indexByte
     rw [h1,e1]
     have:((i:Int)==-1)=false:=by rw [beq_eq_false_iff_ne];omega
     rw [this]
     simp
    ·unfold cutL at e2 ⊢
     rw [List.takeWhile_cons,List.dropWhile_cons,if_pos h2,if_pos h2]
     simp only [Prod.mk.injEq] at e2
     rw [e2.1,e2.2]
     rfl
end Sd
set_option maxRecDepth 100000 in
set_option maxHeartbeats 4000000 in
theorem slcut_any (s:ByteArray) (hs:s.size≤100000) (w:World):Calls Tryz.prog 39 #[.string s,.string ⟨#[46]⟩] w fun e w'=>∃ b,e=.returned (.tuple #[.string ⟨(Sd.cutL s.data.toList).1.toArray⟩,.string ⟨(Sd.cutL s.data.toList).2.toArray⟩,.bool b])∧Below w.heap.size w w':=by
 have HIX:=Lib.hid (Tryz.stringslite_Index_one s 46 w)
 have hll:s.data.toList.length=s.size:=by simp
 rcases Sd.cut_ix s.data.toList with ⟨e1,e2⟩ | ⟨i,e1,hi,e2⟩
 ·rw [e1] at HIX
  rw [e2]
  have HE:Hid ((⟨s.data.toList.toArray⟩:ByteArray)=s):=Lib.hid (by cases s;simp)
  rw [HE.out]
  go_enter Tryz.func39,Tryz.ntmps39
  go_wp2_with fail
  refine HIX.out.mono ?_
  rintro e w1 ⟨rfl,rfl⟩
  go_wp2_with fail
  go_ret3
  exact ⟨_,rfl,Below.refl _ _⟩
 ·rw [e1] at HIX
  rw [e2]
  rw [hll] at hi
  have HE1:Hid ((⟨(s.data.toList.take i).toArray⟩:ByteArray)=s.extract 0 i):=Lib.hid (by apply ByteArray.ext;apply Array.ext';simp)
  have HE2:Hid ((⟨(s.data.toList.drop (i+1)).toArray⟩:ByteArray)=s.extract (i+1) s.size):=Lib.hid (by apply ByteArray.ext;apply Array.ext';simp [List.take_of_length_le])
  rw [HE1.out,HE2.out]
  have i0:(0:Int)≤(i:Int):=by omega
  have i1:(i:Int)≤(s.size:Int):=by omega
  have i2:(i:Int)+1≤(s.size:Int):=by omega
  have i3:(0:Int)≤(i:Int)+1:=by omega
  have i4:((i:Int)+1).toNat=i+1:=by omega
  have hw:IntKind.i64.wrap ((i:Int)+1)=(i:Int)+1:=by rw [IntKind.wrap_i64];omega
  go_enter Tryz.func39,Tryz.ntmps39
  go_wp2_with fail
  refine HIX.out.mono ?_
  rintro e w1 ⟨rfl,rfl⟩
  go_wp2_with fail
  go_quiet (fail)
  go_wp2_with fail
  go_ret3
  exact ⟨_,rfl,below_drewN (Below.refl _ _) _⟩
set_option maxRecDepth 100000 in
set_option maxHeartbeats 4000000 in
theorem scut_any (s:ByteArray) (hs:s.size≤100000) (w:World):Calls Tryz.prog 22 #[.string s,.string ⟨#[46]⟩] w fun e w'=>∃ b,e=.returned (.tuple #[.string ⟨(Sd.cutL s.data.toList).1.toArray⟩,.string ⟨(Sd.cutL s.data.toList).2.toArray⟩,.bool b])∧Below w.heap.size w w':=by
 go_enter Tryz.func22,Tryz.ntmps22
 go_wp2_with fail
 refine (slcut_any s hs w).mono ?_
 rintro e w1 ⟨b,rfl,hb⟩
 go_wp2_with fail
 go_ret3
 exact ⟨_,rfl,hb⟩
theorem Sd.res_t4 {fn:Func} {a b c d:Tmp} (h:fn.results=#[.tmp a,.tmp b,.tmp c,.tmp d]) (tmps:Array Value) (P:Program) (w:World) :
  (results fn tmps).run P w=.ok (.tuple #[tmps.getD a undef,tmps.getD b undef,tmps.getD c undef,tmps.getD d undef]) w:=by
 simp only [results,h]
 simp [Sem.run_bind,Result.andThen]
/-- What a key says: id, number, way; or that it says nothing. -/
def Sd.readV (o:Option (List UInt8 × Int × Bool)):Value:=match o with
 | some q=>.tuple #[.string ⟨q.1.toArray⟩,.int .i64 q.2.1,.bool q.2.2,.bool true]
 | none=>.tuple #[.string ⟨#[]⟩,.int .i64 0,.bool false,.bool false]
set_option maxRecDepth 100000 in
set_option maxHeartbeats 8000000 in
theorem sread_any (s:ByteArray) (hs:s.size≤100000) (w:World):Calls Tryz.prog 7 #[.string s] w fun e w'=>e=.returned (Sd.readV (Sd.readP s.data.toList))∧Below w.heap.size w w':=by
 obtain ⟨R,HR⟩:∃ R,Hid (Sd.readP s.data.toList=R):=⟨_,Lib.hid rfl⟩
 rw [HR.out]
 unfold Sd.readP at HR
 obtain ⟨⟨a,r⟩,HC⟩:∃ c,Hid (Sd.cutL s.data.toList=c):=⟨_,Lib.hid rfl⟩
 have hal:a.length≤100000:=by
  have h:a=s.data.toList.takeWhile (· != 46):=by have h:=HC.out;unfold Sd.cutL at h;simp only [Prod.mk.injEq] at h;exact h.1.symm
  have h2:(s.data.toList.takeWhile (· != 46)).length≤s.data.toList.length:=(List.takeWhile_sublist _).length_le
  rw [h]
  have h3:s.data.toList.length=s.size:=by simp
  omega
 rw [HC.out] at HR
 simp only at HR
 have hcut:=scut_any s hs w
 rw [HC.out] at hcut
 simp only at hcut
 obtain ⟨A,HA⟩:∃ A:ByteArray,Hid ((⟨a.toArray⟩:ByteArray)=A):=⟨_,Lib.hid rfl⟩
 obtain ⟨Q,HQ⟩:∃ Q:ByteArray,Hid ((⟨r.toArray⟩:ByteArray)=Q):=⟨_,Lib.hid rfl⟩
 have hQ:Q.size=r.length:=by rw [←HQ.out];show r.toArray.size=_;simp
 have hA:A.size≤100000:=by rw [←HA.out];show a.toArray.size≤_;simp;omega
 have HAL:Hid (A.data.toList=a):=Lib.hid (by rw [←HA.out])
 rw [HA.out,HQ.out] at hcut
 have HCUT:=Lib.hid hcut
 clear hcut
 go_enter Tryz.func7,Tryz.ntmps7
 go_wp2_with fail
 refine HCUT.out.mono ?_
 rintro e w1 ⟨b,rfl,hb⟩
 have HB:=Lib.hid hb
 clear hb
 by_cases h2:r.length=2
 case neg =>
  have HE:Hid (R=none):=Lib.hid (by rw [←HR.out,if_pos h2])
  obtain rfl:=HE.out
  have t1:((Q.size:Int) != 2)=true:=by rw [bne_iff_ne];omega
  have t2:¬(Q.size:Int)=2:=by omega
  have t3:¬Q.size=2:=by omega
  go_wp2_with fail
  refine bodyPost_ret (Sd.res_t4 rfl _ _ _) rfl ⟨rfl,HB.out⟩
 have hq2:Q.size=2:=by omega
 obtain ⟨c0,c1,rfl⟩:∃ c0 c1,r=[c0,c1]:=by
  match r,h2 with
  | [x,y],_=>exact ⟨x,y,rfl⟩
 obtain rfl:=HQ.out
 have HRR:Hid ((if Sd.keyL a ((c0.toNat:Int) - 48) (c1==99)=[]∨Sd.keyL a ((c0.toNat:Int) - 48) (c1==99)≠s.data.toList then none else some (a,(c0.toNat:Int) - 48,c1==99))=R):=Lib.hid (by have h:=HR.out;rw [if_neg (show ¬([c0,c1].length≠2) by simp)] at h;exact h)
 clear HR h2 hq2 hQ HQ
 go_wp2_with fail
 go_quiet (fail)
 go_wp2_with fail
 have e0:∀ h,((⟨#[c0,c1]⟩:ByteArray)[0]'h)=c0:=fun _=>rfl
 have e1:∀ h,((⟨#[c0,c1]⟩:ByteArray)[1]'h)=c1:=fun _=>rfl
 have hc0:=c0.toNat_lt
 have hw:wrap64 (wrap64 (c0.toNat:Int) - 48)=(c0.toNat:Int) - 48:=by
  have e:∀ n,wrap64 n=IntKind.i64.wrap n:=fun n=>by first | (rw [IntKind.wrap_i64];rfl) | (rw [IntKind.wrap_i64];unfold wrap64;rfl) | simp [wrap64,IntKind.wrap,IntKind.bits,IntKind.signed]
  rw [e,e,IntKind.wrap_i64,IntKind.wrap_i64]
  omega
 have hb9:((c1.toNat:Int)==99)=(c1==99):=by
  rw [Bool.eq_iff_iff,beq_iff_eq,beq_iff_eq]
  constructor
  ·intro h
   apply UInt8.toNat_inj.1
   show c1.toNat=99
   omega
  ·rintro rfl
   rfl
 simp only [e0,e1,hw,hb9]
 obtain ⟨i,Hi⟩:∃ i,Hid ((c0.toNat:Int) - 48=i):=⟨_,Lib.hid rfl⟩
 obtain ⟨bk,Hbk⟩:∃ bk,Hid ((c1==99)=bk):=⟨_,Lib.hid rfl⟩
 rw [Hi.out,Hbk.out] at HRR
 rw [Hi.out,Hbk.out]
 clear e0 e1 hw hb9 hc0
 refine (skey_any A hA i bk _).mono ?_
 rintro e w2 ⟨rfl,hb2⟩
 have HB2:=Lib.hid ((below_drewN HB.out nq).trans (hb2.mono (by have:=HB.out.size;exact this)))
 clear hb2
 have HK:Hid ((Sd.keyB A i bk).data.toList=Sd.keyL a i bk):=Lib.hid (by unfold Sd.keyB;rw [HAL.out])
 obtain ⟨K,HKK⟩:∃ K,Hid (Sd.keyB A i bk=K):=⟨_,Lib.hid rfl⟩
 rw [HKK.out] at HK
 rw [HKK.out]
 by_cases k1:K.toList.isEmpty=true
 case pos =>
  have HE:Hid (R=none):=Lib.hid (by
   have hk0:Sd.keyL a i bk=[]:=by
    rw [←HK.out,←ByteArray.toList_eq]
    exact List.isEmpty_iff.1 k1
   rw [←HRR.out,if_pos (.inl hk0)])
  obtain rfl:=HE.out
  go_wp2_with fail
  refine bodyPost_ret (Sd.res_t4 rfl _ _ _) rfl ⟨rfl,HB2.out⟩
 have k1:K.toList.isEmpty=false:=by simpa using k1
 by_cases k2:(K.toList==s.toList)=true
 case neg =>
  have k2:(K.toList==s.toList)=false:=by simpa using k2
  have HE:Hid (R=none):=Lib.hid (by
   have hk0:Sd.keyL a i bk≠s.data.toList:=by
    rw [←HK.out,←ByteArray.toList_eq,←ByteArray.toList_eq]
    exact beq_eq_false_iff_ne.1 k2
   rw [←HRR.out,if_pos (.inr hk0)])
  obtain rfl:=HE.out
  go_wp2_with fail
  refine bodyPost_ret (Sd.res_t4 rfl _ _ _) rfl ⟨rfl,HB2.out⟩
 have HE:Hid (R=some (a,i,bk)):=Lib.hid (by
  have hk1:Sd.keyL a i bk=s.data.toList:=by
   rw [←HK.out,←ByteArray.toList_eq,←ByteArray.toList_eq]
   exact eq_of_beq k2
  have hk0:Sd.keyL a i bk≠[]:=by
   intro h
   rw [←HK.out,←ByteArray.toList_eq] at h
   rw [h] at k1
   cases k1
  rw [←HRR.out,if_neg (by rintro (h | h);exact hk0 h;exact h hk1)])
 obtain rfl:=HE.out
 go_wp2_with fail
 refine bodyPost_ret (Sd.res_t4 rfl _ _ _) rfl ⟨?_,HB2.out⟩
 unfold Sd.readV
 simp only
 rw [HA.out]
 rfl
end Go.Proofs.YtlbihaikppkecaaGreatDoor
