import Derived.Test.YtogijkhenihaaaaGreatDoorGB01
set_option linter.all false
set_option maxRecDepth 100000
set_option maxHeartbeats 0
namespace Go.Proofs.YtogijkhenihaaaaGreatDoor
open Lib (hid)
section
open Go.BigFrame Go.RowKit
theorem take_snoc(s:ByteArray)(k:Nat)(h:k<s.size):s.data.toList.take (k+1)=s.data.toList.take k++[s[k]]:=by
 rw[List.take_succ_eq_append_getElem (by simpa using h)];rfl
namespace Sm
def base:Nat:=14695981039346656037
theorem QF:base<18446744073709551616:=by unfold base;omega
def oG(s:ByteArray)(k:Nat):Nat:=rH base (s.data.toList.take k)
theorem Aq(s:ByteArray)(k:Nat):oG s k<18446744073709551616:=Jp QF _
theorem wP(s:ByteArray)(k:Nat)(h:k<s.size):oG s (k+1)=uP (oG s k) s[k].toNat:=by
 unfold oG;rw[take_snoc s k h,EU]
theorem Ap{h x:Nat}(hh:h<18446744073709551616)(hx:x<256) :
  IntKind.u64.wrap (bits BinOp.xor IntKind.u64 (h:Int) (IntKind.u64.wrap (x:Int)) * 1099511628211)=((uP h x:Nat):Int):=by
 have e1:IntKind.u64.wrap (x:Int)=(x:Int):=by rw[IntKind.wrap_u64];omega
 rw[e1,u64_xor_nat h x hh (by omega),IntKind.wrap_u64,uP];rfl
theorem yV(s:ByteArray):oG s s.size=print s.data.toList:=by
 unfold oG print base;rw[yE (by simp)]
end Sm
theorem OA(s:ByteArray)(hs:s.size<=maxLen)(w:World) :
  Calls Tryz.prog 54 #[.string s] w λe w'=>e=.returned (.int .u64 (Sm.print s.data.toList))/\w=w':=by
 unfold maxLen at hs;go_enter Tryz.func54,Tryz.ntmps54;go_wp2;go_loop [3,7] (λr i=>∃ k:Nat,k<=s.size/\i=.int .i64 k/\r=.int .u64 (Sm.oG s k)) (λ_ i=>s.size - (intOf i).toNat)
 case atStart=>exact⟨0,by omega,rfl,rfl⟩
 case round =>
  obtain⟨k,hk,rfl,rfl⟩:=hrel;have hR:=Sm.Aq s k;by_cases hlt:k<s.size
  ·have HS:=hid (Sm.wP s k hlt)
   have HP:=hid (Sm.Ap hR s[k].toNat_lt);clear hR;go_wp2;go_round
   case rel=>exact⟨k+1,by omega,by go_num,by rw[HS.out,HP.out]⟩
   case measure=>simp[intOf];omega
  ·obtain rfl:k=s.size:=by omega
   have HA:=hid (Sm.yV s);clear hlt;go_wp2;go_ret;exact⟨by rw[HA.out];rfl,rfl⟩
namespace Sm
theorem ofNat_toNat(n:Nat):(UInt8.ofNat n).toNat=n % 256:=by simp
end Sm
theorem Gs(s:ByteArray)(hs:s.size<=maxLen)(w:World) :
  Calls Tryz.prog 216 #[.string s] w λe w'=>e=.returned (.int .u64 (Sm.print s.data.toList))/\w=w':=by
 unfold maxLen at hs;go_enter Tryz.func216,Tryz.ntmps216;go_wp2;go_loop [3,4] (λr i=>∃ k:Nat,k<=s.size/\i=.int .i64 k/\r=.int .u64 (Sm.oG s k)) (λ_ i=>s.size - (intOf i).toNat)
 case atStart=>exact⟨0,by omega,rfl,rfl⟩
 case round =>
  obtain⟨k,hk,rfl,rfl⟩:=hrel;have hR:=Sm.Aq s k;by_cases hlt:k<s.size
  ·have HS:=hid (Sm.wP s k hlt)
   have HP:=hid (Sm.Ap hR s[k].toNat_lt);clear hR;go_wp2;go_round
   case rel=>exact⟨k+1,by omega,by go_num,by rw[HS.out,HP.out]⟩
   case measure=>simp[intOf];omega
  ·obtain rfl:k=s.size:=by omega
   have HA:=hid (Sm.yV s);clear hlt;go_wp2;go_ret;exact⟨by rw[HA.out];rfl,rfl⟩
end
namespace Sd
def idC(c:UInt8):Bool:=(decide (97<=c.toNat)&&decide (c.toNat<=122))||(decide (48<=c.toNat)&&decide (c.toNat<=57))||c.toNat==95
def idL(l:List UInt8):Bool:=decide (1<=l.length)&&decide (l.length<=24)&&l.all idC
def way(back:Bool):UInt8:=if back then 99 else 102
def Ea(i:Nat)(back:Bool):List UInt8:=[46,UInt8.ofNat (48+i),way back]
def Jw(l:List UInt8)(i:Int)(back:Bool):List UInt8:=if idL l=true/\0<=i/\i<8 then l++Ea i.toNat back else[]
theorem wU{l:List UInt8}{i:Int}{b:Bool}(h1:idL l=true)(h2:0<=i)(h3:i<8):Jw l i b=l++Ea i.toNat b:=if_pos ⟨h1,h2,h3⟩
theorem OC{l:List UInt8}{i:Int}{b:Bool}:Jw l i b=[]↔(idL l=false∨i<0∨8<=i):=by
 unfold Jw;split
 ·rename_i h
  constructor
  ·intro e
   have:=congrArg List.length e;simp[Ea]at this
  ·intro e
   rcases e with e|e|e
   ·rw[h.1]at e;cases e
   ·omega
   ·omega
 ·rename_i h
  refine⟨λ_=>?_,λ_=>rfl⟩;by_cases h1:idL l=true
  ·by_cases h2:0<=i
   ·exact .inr (.inr (by
     rcases Int.lt_or_le i 8 with h3|h3
     ·exact absurd ⟨h1,h2,h3⟩ h
     ·exact h3))
   ·exact .inr (.inl (by omega))
  ·exact .inl (by simpa using h1)
end Sd
