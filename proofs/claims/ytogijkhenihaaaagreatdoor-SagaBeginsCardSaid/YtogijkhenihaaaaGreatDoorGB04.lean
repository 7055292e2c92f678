import Derived.Test.YtogijkhenihaaaaGreatDoorGB02
import Derived.Test.YtogijkhenihaaaaGreatDoorGB03
import Derived.Lib.ConvBytes
import Derived.Deep.QuietTactic
set_option linter.all false
set_option maxRecDepth 100000
set_option maxHeartbeats 0
namespace Go.Proofs.YtogijkhenihaaaaGreatDoor
open Lib (hid)
open Go.BigFrame Go.RowKit
theorem Sd.Hf(w:World)(e:TypeId)(s:ByteArray):Below w.heap.size w (Lib.bytesWorld w e s) :=
 ⟨rfl,rfl,rfl,by rw[Lib.bytesWorld_size];omega,λi hi=>Lib.bytesWorld_at_old w e s i hi⟩
theorem Sd.TB{a b:Bool}(h:a=b):Ending.returned (.bool a)=Ending.returned (.bool b):=by rw[h]
theorem Sd.Iu{l:List UInt8}{k:Nat}(h:k<l.length)(hc:Sd.idC l[k]=false):Sd.idL l=false:=by
 unfold Sd.idL;have:l.all Sd.idC=false:=by
  rw[List.all_eq_false];exact⟨_,xR h,by rw[hc];decide⟩
 rw[this,Bool.and_false]
theorem BA(s:ByteArray)(hs:s.size<=100000)(w:World):Calls Tryz.prog 81 #[.string s] w λe w'=>e=.returned (.bool (Sd.idL s.data.toList))/\Below w.heap.size w w':=by
 obtain⟨R,HR⟩:∃ R,Hid (Sd.idL s.data.toList=R):=⟨_,hid rfl⟩;rw[HR.out];have hcv:=λW=>Lib.run_convert_string_bytes (P:=Tryz.prog) W 9 120 5 s Tryz.underlying9 Tryz.underlying120 Tryz.underlying5
 have hll:s.data.toList.length=s.size:=by simp
 have HLL:=hid hll;clear hll;go_enter Tryz.func81,Tryz.ntmps81;go_wp2_with fail;have HB:=hid (Sd.Hf w 5 s);have HC:=hid (Lib.bytesWorld_cell w 5 s);clear hcv;generalize Lib.bytesWorld w 5 s=W1 at *;go_loopw [8] (λi wr=>∃ k:Nat,k<=s.size/\i=.int .i64 k/\Hid ((s.data.toList.take k).all Sd.idC=true)/\wr=W1) (λi _=>s.size - (intOf i).toNat)
 case atStart=>exact⟨0,by omega,rfl,hid rfl,rfl⟩
 case round =>
  obtain⟨k,hk,rfl,HA,rfl⟩:=hrel;by_cases hlt:k<s.size
  case neg =>
   have h1:¬(k:Int)<(s.size:Int):=by omega
   have HE:Hid (R=(decide (1<=s.size)&&decide (s.size<=24))):=hid (by
    have h2:=HA.out;rw[yE (by rw[HLL.out];omega)]at h2;rw[<-HR.out];unfold Sd.idL;rw[h2,HLL.out,Bool.and_true])
   obtain rfl:=HE.out;go_wp2_with fail;all_goals
    go_ret;refine⟨?_,HB.out⟩;first
     |rfl
     |(refine Sd.TB ?_;rw[Bool.eq_iff_iff,xX,decide_eq_true_eq,decide_eq_true_eq];first|(rw[decide_eq_true_eq];omega)|(constructor<;>intro hh<;>first|omega|(cases hh)))
  have h1:(k:Int)<(s.size:Int):=by omega
  have h0:(0:Int)<=(k:Int):=by omega
  have hkl:k<s.data.toList.length:=by rw[HLL.out];exact hlt
  have c0:=HC.out k hlt;obtain⟨c,Hc⟩:∃ c:Nat,Hid ((s.data.toList.getD k 0).toNat=c):=⟨_,hid rfl⟩;rw[Hc.out]at c0;have hcg:s.data.toList.getD k 0=s.data.toList[k]:=by rw[yG,yF hkl,Option.getD_some]
  have HBAD:Hid (¬((97<=c/\c<=122)∨(48<=c/\c<=57)∨c=95)->R=false):=hid (λh=>by
   rw[<-HR.out];refine Sd.Iu hkl ?_;rw[<-hcg];unfold Sd.idC;rw[Hc.out];simp;omega)
  have HOK:Hid (((97<=c/\c<=122)∨(48<=c/\c<=57)∨c=95)->(s.data.toList.take (k+1)).all Sd.idC=true):=hid (λh=>by
   rw[List.take_succ_eq_append_getElem hkl,List.all_append,HA.out,Bool.true_and,<-hcg];simp only[List.all_cons,List.all_nil,Bool.and_true];unfold Sd.idC;rw[Hc.out];simp;omega)
  clear hcg hkl;by_cases hgood:(97<=c/\c<=122)∨(48<=c/\c<=57)∨c=95
  case neg =>
   obtain rfl:=HBAD.out hgood;go_wp2_with fail;all_goals first
    |(go_ret;exact⟨rfl,HB.out⟩)
    |(exfalso;simp only[Bool.not_eq_true',decide_eq_false_iff_not,Bool.not_eq_false',decide_eq_true_eq,beq_iff_eq,xG,bne_iff_ne,ne_eq]at *;omega)
  have HNX:=hid (HOK.out hgood);go_wp2_with fail;all_goals first
   | (go_roundw
      case rel=>exact⟨k+1,by omega,by go_num,HNX,by first|rfl|trivial⟩
      case measure=>simp[intOf];omega)
   |(exfalso;simp only[Bool.not_eq_true',decide_eq_false_iff_not,Bool.not_eq_false',decide_eq_true_eq,beq_iff_eq,xG,bne_iff_ne,ne_eq]at *;omega)
def Sd.jF(id:ByteArray)(i:Int)(b:Bool):ByteArray:=⟨(Sd.Jw id.data.toList i b).toArray⟩
theorem Sd.TU:∀ n,n<8->Utf8.encode (48+(n:Nat))=⟨#[UInt8.ofNat (48+n)]⟩:=by decide +kernel
theorem Sd.Iq{id:ByteArray}{n:Nat}{b:Bool}(h:Sd.idL id.data.toList=true)(hn:n<8):((id++⟨#[46]⟩)++⟨#[UInt8.ofNat (48+n)]⟩)++⟨#[Sd.way b]⟩=Sd.jF id n b:=by
 unfold Sd.jF;rw[Sd.wU h (by omega) (by omega),Int.toNat_natCast];apply ByteArray.ext;apply Array.ext';simp[Sd.Ea]
theorem Sd.Dj{id:ByteArray}{i:Int}{b:Bool}(h:Sd.idL id.data.toList=false∨i<0∨8<=i):Sd.jF id i b=⟨#[]⟩:=by
 unfold Sd.jF;rw[Sd.OC.2 h]
theorem zu(s:ByteArray)(hs:s.size<=100000)(i:Int)(b:Bool)(w:World):Calls Tryz.prog 29 #[.string s,.int .i64 i,.bool b] w λe w'=>e=.returned (.string (Sd.jF s i b))/\Below w.heap.size w w':=by
 obtain⟨R,HR⟩:∃ R,Hid (Sd.jF s i b=R):=⟨_,hid rfl⟩;rw[HR.out];go_enter Tryz.func29,Tryz.ntmps29;go_wp2_with fail;refine(BA s hs w).mono ?_;obtain⟨B,HB⟩:∃ B,Hid (Sd.idL s.data.toList=B):=⟨_,hid rfl⟩;rw[HB.out];rintro e w1⟨rfl,hb⟩;have HBL:=hid hb;clear hb;by_cases hbad:B=false∨i<0∨8<=i
 case pos =>
  have HE:Hid (R=⟨#[]⟩):=hid (by rw[<-HR.out,Sd.Dj (by rw[HB.out];exact hbad)]);obtain rfl:=HE.out;rcases hbad with rfl|hi|hi
  ·go_wp2_with fail
   go_ret;exact⟨rfl,HBL.out⟩
  ·cases B
   ·go_wp2_with fail
    go_ret;exact⟨rfl,HBL.out⟩
   ·go_wp2_with fail
    go_ret;exact⟨rfl,HBL.out⟩
  ·have hi0:¬i<0:=by omega
   cases B
   ·go_wp2_with fail
    go_ret;exact⟨rfl,HBL.out⟩
   ·go_wp2_with fail
    go_ret;exact⟨rfl,HBL.out⟩
 have hB:B=true:=by
  cases B
  ·exact absurd (.inl rfl) hbad
  ·rfl
 subst hB;have hi0:¬i<0:=by omega
 have hi8:¬8<=i:=by omega
 have hsz:s.size<=24:=by
  have h:=HB.out;unfold Sd.idL at h;simp only[xX,decide_eq_true_eq]at h;have:=h.1.2;simpa using this
 obtain⟨c,Hc⟩:∃ c:UInt8,Hid (UInt8.ofNat (48+i.toNat)=c):=⟨_,hid rfl⟩;have HEN:Hid (Utf8.encode (48+i)=⟨#[c]⟩):=hid (by have h:=Sd.TU i.toNat (by omega);rw[Int.toNat_of_nonneg (by omega),Hc.out]at h;exact h);have HW1:Hid (IntKind.i64.wrap (48+i)=48+i):=hid (by rw[IntKind.wrap_i64];omega);have HW2:Hid (IntKind.i32.wrap (48+i)=48+i):=hid (by unfold IntKind.wrap;simp[IntKind.bits,IntKind.signed];omega);have HE:Hid (((s++⟨#[46]⟩)++⟨#[c]⟩)++⟨#[Sd.way b]⟩=R):=hid (by rw[<-Hc.out,Sd.Iq HB.out (by omega),<-HR.out,Int.toNat_of_nonneg (by omega)]);clear hbad;cases b
 ·go_upto_region 6 with(fail)
  have hen:=HEN.out;have hw1:=HW1.out;have hw2:=HW2.out;clear HEN HW1 HW2;go_wp2_with fail;go_ret;exact⟨by rw[<-HE.out];rfl,HBL.out⟩
 ·go_upto_region 6 with(fail)
  have hen:=HEN.out;have hw1:=HW1.out;have hw2:=HW2.out;clear HEN HW1 HW2;go_wp2_with fail;go_ret;exact⟨by rw[<-HE.out];rfl,HBL.out⟩
namespace Sd
end Sd
