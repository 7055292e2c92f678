/- a row of bytes of the call's own; bytes of a number. No condition. -/
import Derived.Test.YtlbihaikppkecaaGreatDoorPS04
import Derived.Lib.AppendStr
import Derived.Laws.Bits64
import Derived.Laws.BitsAllLaws
import Derived.Laws.BitsLemmas
import Derived.Deep.RegionHeld3
import Derived.Deep.DrawnRows
set_option linter.unusedVariables false
namespace Go.Proofs.YtlbihaikppkecaaGreatDoor
open Go.RowKit
namespace Ev
theorem or128':∀ z,z<256→z ||| 128=z % 128+128:=by decide +kernel
theorem or128 (y:Nat):bits .or .u8 ((y:Int) % 256) 128=((y % 128+128:Nat):Int):=by
 have h:=u8_or_nat (y % 256) 128 (by omega) (by omega)
 rw [or128' _ (by omega)] at h
 have e:y % 256 % 128=y % 128:=by omega
 rw [e] at h
 exact h
theorem varF_step {f y:Nat} (h:128≤y):varF (f+1) y=UInt8.ofNat (y % 128+128)::varF f (y / 128):=by
 rw [varF,if_neg (by omega)]
theorem varF_last {f y:Nat} (h:y<128):varF f y=[UInt8.ofNat y]:=by
 cases f with
 | zero=>rfl
 | succ f=>rw [varF,if_pos h]
theorem byteV_or (y:Nat):Sm.byteV (UInt8.ofNat (y % 128+128))=.int .u8 (bits .or .u8 ((y:Int) % 256) 128):=by
 unfold Sm.byteV
 rw [Sm.ofNat_toNat,or128,Nat.mod_eq_of_lt (by omega)]
theorem byteV_low {y:Nat} (h:y<128):Sm.byteV (UInt8.ofNat y)=.int .u8 (y:Int):=by
 unfold Sm.byteV
 rw [Sm.ofNat_toNat,Nat.mod_eq_of_lt (by omega)]
/-- A row of bytes of the call's own. -/
def Bt (w:World) (B:Nat) (v:Value) (xs:List UInt8):Prop:=w.ownsRow B 5 1 v xs.length (xs.map Sm.byteV)
theorem Bt.push {w:World} {B n:Nat} {v x:Value} {xs:List UInt8} {c:UInt8} (h:w.ownsRow B 5 1 v (n+1) (xs.map Sm.byteV++[x])) (hn:n=xs.length) (hx:Sm.byteV c=x):Bt w B v (xs++[c]):=by
 unfold Bt
 subst hn hx
 rw [List.map_append,List.map_singleton,List.length_append,List.length_singleton]
 exact h
theorem Bt.pushS {w:World} {B:Nat} {v:Value} {xs:List UInt8} {s:ByteArray} (h:w.ownsRow B 5 1 v (xs.length+s.size) (xs.map Sm.byteV++Lib.strCells s)):Bt w B v (xs++s.data.toList):=by
 unfold Bt
 rw [List.map_append,List.length_append]
 have e:s.data.toList.length=s.size:=by simp
 rw [e]
 exact h
theorem Bt.own {w:World} {B:Nat} {v:Value} {xs:List UInt8} (h:Bt w B v xs):w.ownsRow B 5 1 v xs.length (xs.map Sm.byteV):=h
theorem Bt.nil (w:World) (B:Nat):Bt w B (.slice none 0 0) []:=World.ownsRow_nil _ _ _ _
end Ev
end Go.Proofs.YtlbihaikppkecaaGreatDoor
set_option linter.unusedVariables false
namespace Go.Proofs.YtlbihaikppkecaaGreatDoor
open Go.RowKit
set_option maxRecDepth 100000 in
set_option maxHeartbeats 1000000 in
theorem putVar_any (B:Nat) (v:Value) (xs:List UInt8) (x:Nat) (hx:x<18446744073709551616) (hn:xs.length≤1000000000) (w:World) (hown:Ev.Bt w B v xs) (hB:B≤w.heap.size) :
  Calls Tryz.prog 35 #[v,.int .u64 x] w fun e w'=>∃ v',e=.returned v'∧Ev.Bt w' B v' (xs++Ev.var x)∧Below B w w':=by
 have HX:Hid (x<2 * 128 ^ 9):=Lib.hid (by simpa using hx)
 have HO:=Lib.hid hown
 clear hx hown
 go_enter Tryz.func35,Tryz.ntmps35
 go_wp2
 go_loopw [0,1] (fun b z wr=>∃ (f y:Nat) (p:List UInt8),f≤9∧p.length+f=9∧z=.int .u64 y∧y<18446744073709551616∧Hid (y<2 * 128 ^ f)∧Hid (p++Ev.varF f y=Ev.var x)∧Ev.Bt wr B b (xs++p)∧Below B w wr) (fun _ z _=>(intOf z).toNat)
 case atStart=>exact ⟨9,x,[],by omega,rfl,rfl,by have:=HX.out;simpa using this,HX,Lib.hid rfl,by rw [List.append_nil];exact HO.out,Below.refl _ _⟩
 case round =>
  obtain ⟨f,y,p,hf,hpf,rfl,hy64,HY,HP,hown,hb⟩:=hrel
  have hz:=hb.size
  have hlen:(xs++p).length≤1000000010:=by rw [List.length_append];omega
  have HPF:=Lib.hid hpf
  clear hpf
  by_cases hlt:128≤y
  ·obtain ⟨g,rfl⟩:∃ g,f=g+1:=by
    cases f with
    | zero=>have:=HY.out;omega
    | succ g=>exact ⟨g,rfl⟩
   have HS:=Lib.hid (Ev.varF_step (f:=g) hlt)
   have HB:=Lib.hid (Ev.byteV_or y)
   have hi:(128:Int)≤(y:Int):=by omega
   go_wp2_with (at_builtin;refine wpList_append_one rfl _ _ _ rfl B 5 _ _ Tryz.underlying50 info_u8 rfl _ (xs++p).length _ rfl hown.own _ rfl rfl (by simp only [maxLen];omega) (by omega) (by omega) ?_;intro v' w1 hown1 hb1 _)
   go_roundw
   case rel=>exact ⟨g,y / 128,p++[UInt8.ofNat (y % 128+128)],by omega,by have:=HPF.out;simp;omega,by go_num,by omega,Lib.hid (by have h:=HY.out;rw [Nat.pow_succ] at h;omega),Lib.hid (by rw [←HP.out,HS.out];simp),by rw [←List.append_assoc];exact Ev.Bt.push hown1 rfl HB.out,hb.trans hb1⟩
   case measure=>simp [intOf];omega
  ·have HL:=Lib.hid (Ev.varF_last (f:=f) (y:=y) (by omega))
   have HB:=Lib.hid (Ev.byteV_low (y:=y) (by omega))
   have hi:¬(128:Int)≤(y:Int):=by omega
   go_wp2_with (at_builtin;refine wpList_append_one rfl _ _ _ rfl B 5 _ _ Tryz.underlying50 info_u8 rfl _ (xs++p).length _ rfl hown.own _ rfl rfl (by simp only [maxLen];omega) (by omega) (by omega) ?_;intro v' w1 hown1 hb1 _)
   have hfin:=Ev.Bt.push hown1 rfl HB.out
   rw [←HL.out,List.append_assoc,HP.out] at hfin
   have HF:=Lib.hid hfin
   clear hfin
   go_ret
   exact ⟨_,rfl,HF.out,hb.trans hb1⟩
set_option maxRecDepth 100000 in
set_option maxHeartbeats 1000000 in
theorem text_any (B:Nat) (v:Value) (xs:List UInt8) (s:ByteArray) (hs:s.size≤1000000000) (hn:xs.length≤1000000000) (w:World) (hown:Ev.Bt w B v xs) (hB:B≤w.heap.size) :
  Calls Tryz.prog 34 #[v,.string s] w fun e w'=>∃ v',e=.returned v'∧Ev.Bt w' B v' (xs++Ev.txt s)∧Below B w w':=by
 obtain ⟨i0,hi0,hz0,hz1,hz2⟩:=info_parts info_u8
 have hvl:=(Ev.var_len s.size).2
 go_enter Tryz.func34,Tryz.ntmps34
 go_wp2_with fail
 refine (putVar_any B v xs s.size (by omega) hn _ hown hB).mono ?_
 rintro e w1 ⟨v1,rfl,h1,hb1⟩
 have hbz:=hb1.size
 have hl:(xs++Ev.var s.size).length≤1000000010:=by rw [List.length_append];omega
 have HY:Hid (xs++Ev.txt s=(xs++Ev.var s.size)++s.data.toList):=Lib.hid (by unfold Ev.txt;rw [List.append_assoc])
 generalize xs++Ev.var s.size=ys at *
 go_wp2_with (at_builtin;refine Lib.wpList_append_own_string _ rfl _ _ 50 9 rfl B 5 i0 Tryz.underlying50 Tryz.underlying9 hi0 hz0 hz1 hz2 _ _ _ rfl h1.own s rfl ?c3 ?c4 ?c5 ?_)
 case c3=>unfold maxLen;omega
 case c4=>omega
 case c5=>omega
 intro v2 w2 h2 hg _
 have hfin:Ev.Bt w2 B v2 (xs++Ev.txt s):=by rw [HY.out];exact Ev.Bt.pushS h2
 have HF:=Lib.hid hfin
 clear hfin h2
 go_wp2_with fail
 go_ret
 exact ⟨_,rfl,HF.out,hb1.trans ((Below.refl _ _).grown hg (by omega) (fun k hk=>(h1.own.lt k hk).1))⟩
end Go.Proofs.YtlbihaikppkecaaGreatDoor
set_option linter.unusedVariables false
namespace Go.Proofs.YtlbihaikppkecaaGreatDoor
open Go.RowKit
namespace Ev
theorem big_snoc (x:Nat):∀ n k,k<n→(big x n).take (k+1)=(big x n).take k++[UInt8.ofNat (x / 256 ^ (n - 1 - k))]
 | n+1,0,_=>by simp [big]
 | n+1,k+1,h=>by
  have ih:=big_snoc x n k (by omega)
  simp only [big,List.take_succ_cons]
  rw [ih,show n - 1 - k=n+1 - 1 - (k+1) from by omega]
  rfl
theorem byteV_shr (x m:Nat):Sm.byteV (UInt8.ofNat (x / 256 ^ m))=.int .u8 ((x:Int) / 2 ^ (8 * m) % 256):=by
 rw [Sm.byteV_ofNat]
 have e:(256:Nat) ^ m=2 ^ (8 * m):=(Nat.pow_mul 2 8 m).symm
 rw [e]
 congr 1
end Ev
set_option maxRecDepth 100000 in
set_option maxHeartbeats 1000000 in
theorem putBig_any (B:Nat) (v:Value) (xs:List UInt8) (x:Nat) (hx:x<18446744073709551616) (hn:xs.length≤1000000000) (w:World) (hown:Ev.Bt w B v xs) (hB:B≤w.heap.size) :
  Calls Tryz.prog 36 #[v,.int .u64 x,.int .i64 8] w fun e w'=>∃ v',e=.returned v'∧Ev.Bt w' B v' (xs++Ev.big x 8)∧Below B w w':=by
 have HO:=Lib.hid hown
 have HX:=Lib.hid hx
 clear hx hown
 go_enter Tryz.func36,Tryz.ntmps36
 go_wp2
 go_loopw [0,7] (fun b i wr=>∃ k:Nat,k≤8∧i=.int .i64 (7 - (k:Int))∧Ev.Bt wr B b (xs++(Ev.big x 8).take k)∧Below B w wr) (fun _ i _=>(intOf i+1).toNat)
 case atStart=>exact ⟨0,by omega,rfl,by rw [List.take_zero,List.append_nil];exact HO.out,Below.refl _ _⟩
 case round =>
  obtain ⟨k,hk,rfl,hown,hb⟩:=hrel
  have hz:=hb.size
  by_cases hlt:k<8
  ·have HS:=Lib.hid (Ev.big_snoc x 8 k hlt)
   have hi:(0:Int)≤7 - (k:Int):=by omega
   have hi2:7 - (k:Int)≤7:=by omega
   have hlen:(xs++(Ev.big x 8).take k).length≤1000000010:=by rw [List.length_append,List.length_take];omega
   have HB:=Lib.hid (Ev.byteV_shr x (7 - k))
   go_wp2_with (at_builtin;refine wpList_append_one rfl _ _ _ rfl B 5 _ _ Tryz.underlying50 info_u8 rfl _ (xs++(Ev.big x 8).take k).length _ rfl hown.own _ rfl rfl (by simp only [maxLen];omega) (by omega) (by omega) ?_;intro v' w1 hown1 hb1 _)
   go_roundw
   case rel=>exact ⟨k+1,by omega,by congr 1;omega,by rw [HS.out,←List.append_assoc];exact Ev.Bt.push hown1 rfl HB.out,hb.trans hb1⟩
   case measure=>simp [intOf];omega
  ·obtain rfl:k=8:=by omega
   rw [List.take_of_length_le (by rw [Ev.big_len];omega)] at hown
   have HF:=Lib.hid hown
   clear hown
   go_wp2_with fail
   go_ret
   exact ⟨_,rfl,HF.out,hb⟩
set_option maxRecDepth 100000 in
set_option maxHeartbeats 1000000 in
theorem putLittle_any (B:Nat) (v:Value) (xs:List UInt8) (x:Nat) (hx:x<4294967296) (hn:xs.length≤1000000000) (w:World) (hown:Ev.Bt w B v xs) (hB:B≤w.heap.size) :
  Calls Tryz.prog 37 #[v,.int .u64 x,.int .i64 4] w fun e w'=>∃ v',e=.returned v'∧Ev.Bt w' B v' (xs++Sm.le4 x)∧Below B w w':=by
 have HO:=Lib.hid hown
 have HX:=Lib.hid hx
 clear hx hown
 go_enter Tryz.func37,Tryz.ntmps37
 go_wp2
 go_loopw [0,9] (fun b i wr=>∃ k:Nat,k≤4∧i=.int .i64 k∧Ev.Bt wr B b (xs++(Sm.le4 x).take k)∧Below B w wr) (fun _ i _=>(4 - intOf i).toNat)
 case atStart=>exact ⟨0,by omega,rfl,by rw [List.take_zero,List.append_nil];exact HO.out,Below.refl _ _⟩
 case round =>
  obtain ⟨k,hk,rfl,hown,hb⟩:=hrel
  have hz:=hb.size
  by_cases hlt:k<4
  ·have HS:=Lib.hid (Sm.le4_snoc (n:=x) hlt)
   have HB:=Lib.hid (Ev.byteV_shr x k)
   have hi:(k:Int)<4:=by omega
   have hlen:(xs++(Sm.le4 x).take k).length≤1000000010:=by rw [List.length_append,List.length_take];omega
   go_wp2_with (at_builtin;refine wpList_append_one rfl _ _ _ rfl B 5 _ _ Tryz.underlying50 info_u8 rfl _ (xs++(Sm.le4 x).take k).length _ rfl hown.own _ rfl rfl (by simp only [maxLen];omega) (by omega) (by omega) ?_;intro v' w1 hown1 hb1 _)
   go_roundw
   case rel=>exact ⟨k+1,by omega,by go_num,by rw [HS.out,←List.append_assoc];exact Ev.Bt.push hown1 rfl HB.out,hb.trans hb1⟩
   case measure=>simp [intOf];omega
  ·obtain rfl:k=4:=by omega
   have HF:Hid (Ev.Bt wr B _ (xs++Sm.le4 x)):=Lib.hid hown
   clear hown
   go_wp2_with fail
   go_ret
   exact ⟨_,rfl,HF.out,hb⟩
end Go.Proofs.YtlbihaikppkecaaGreatDoor
set_option linter.unusedVariables false
namespace Go.Proofs.YtlbihaikppkecaaGreatDoor
open Go.RowKit
set_option maxHeartbeats 1000000 in
theorem peer_any (n:Int) (w:World):Calls Tryz.prog 45 #[.int .i64 n] w fun e w'=>e=.returned (.bool (Ev.peer n))∧w=w':=by
 by_cases h1:0≤n
 ·by_cases h2:n<4
  ·have HP:Hid (Ev.peer n=true):=Lib.hid (by unfold Ev.peer;simp [h1,h2])
   rw [HP.out]
   go_enter Tryz.func45,Tryz.ntmps45
   go_wp2_with fail
   go_ret
   exact ⟨rfl,rfl⟩
  ·have HP:Hid (Ev.peer n=false):=Lib.hid (by unfold Ev.peer;simp [h2])
   rw [HP.out]
   go_enter Tryz.func45,Tryz.ntmps45
   go_wp2_with fail
   go_ret
   exact ⟨rfl,rfl⟩
 ·have HP:Hid (Ev.peer n=false):=Lib.hid (by unfold Ev.peer;simp [h1])
  rw [HP.out]
  go_enter Tryz.func45,Tryz.ntmps45
  go_wp2_with fail
  go_ret
  exact ⟨rfl,rfl⟩
theorem ret_bool {a b:Bool} (h:a=b):Ending.returned (.bool a)=Ending.returned (.bool b):=by rw [h]
theorem bcell' {W w1:World} {n:Nat} (hb:Below n W w1):(∀ b o,b<n→w1.cell? ⟨b,o,none⟩=W.cell? ⟨b,o,none⟩)∧(∀ b o,b<n→w1.frozen? ⟨b,o,none⟩=W.frozen? ⟨b,o,none⟩) :=
 ⟨fun b o h=>hb.cell (p:=⟨b,o,none⟩) h,fun b o h=>hb.frozen (p:=⟨b,o,none⟩) h⟩
theorem Tk.KW.any {w w':World} {n:Nat} (h:Tk.KW w) (hb:Below n w w') (h0:1<n):Tk.KW w' :=
 ⟨Nat.lt_of_lt_of_le h.1 hb.size,fun j hj=>(hb.cell (p:=⟨1,0+j,none⟩) h0).trans (h.2 j hj)⟩
set_option maxRecDepth 100000 in
set_option maxHeartbeats 4000000 in
theorem right_any (l:Ev.Letter) (w:World) (hk:Tk.KW w) :
  Calls Tryz.prog 33 #[l.val] w fun e w'=>e=.returned (.bool (Ev.right l))∧Below w.heap.size w w':=by
 obtain ⟨k0,k1,k2,k3,k4,k5,k6,k7,k8,k9⟩:=l
 unfold Ev.Letter.val
 go_enter Tryz.func33,Tryz.ntmps33
 go_wp2_with fail
 refine (peer_any _ _).mono ?_
 rintro e w1 ⟨rfl,rfl⟩
 go_wp2_with fail
 all_goals try ((with_reducible refine (peer_any _ _).mono ?_);rintro e w1 ⟨rfl,rfl⟩;go_wp2_with fail)
 all_goals try ((with_reducible refine (name_any k6 _ (hk.below ((Below.refl _ _).alloc (Nat.le_refl _) _))).mono ?_);rintro e w1 ⟨rfl,hb1⟩;simp only [World.size_alloc] at hb1;obtain ⟨hc,hf⟩:=bcell' hb1;go_wp2_with fail)
 all_goals try (have hkx:=(hk.below ((Below.refl _ _).alloc (Nat.le_refl _) _)).any hb1 (by have:=hk.1;omega);(with_reducible refine (name_any k7 _ hkx).mono ?_);rintro e w2 ⟨rfl,hb2⟩;have hz1:=hb1.size;simp only [World.size_alloc] at hz1;have hb12:=hb1.trans (hb2.mono hz1);obtain ⟨hc2,hf2⟩:=bcell' hb12;go_wp2_with fail)
 all_goals (go_ret;refine ⟨?_,?_⟩)
 all_goals try exact (Below.refl w.heap.size w).alloc (Nat.le_refl _) _
 all_goals try exact ((Below.refl w.heap.size w).alloc (Nat.le_refl _) _).trans (hb1.mono (by omega))
 all_goals try exact ((Below.refl w.heap.size w).alloc (Nat.le_refl _) _).trans (hb12.mono (by omega))
 all_goals refine ret_bool ?_
 all_goals ((repeat (rename (∀ (a:Act) (w:World),Code.wp _ _ _ a w→_)=>HKx;clear HKx));(repeat (rename (Act→World→Prop)=>HKx;clear HKx));(repeat (rename (Exit→Act→World→Prop)=>HKx;clear HKx)))
 all_goals (clear hk;simp only [Ev.right];grind)
end Go.Proofs.YtlbihaikppkecaaGreatDoor
set_option linter.unusedVariables false
namespace Go.Proofs.YtlbihaikppkecaaGreatDoor
open Go.RowKit
end Go.Proofs.YtlbihaikppkecaaGreatDoor
set_option linter.unusedVariables false
namespace Go.Proofs.YtlbihaikppkecaaGreatDoor
open Go.RowKit
end Go.Proofs.YtlbihaikppkecaaGreatDoor
set_option linter.unusedVariables false
namespace Go.Proofs.YtlbihaikppkecaaGreatDoor
open Go.RowKit
attribute [local go_sem ↓] Go.wp_at_zero Go.wp_at_succ
namespace Ev
/-- A row of bytes of the call's own, no longer than so many. -/
def Btn (w:World) (B:Nat) (v:Value) (xs:List UInt8) (N:Nat):Prop:=Bt w B v xs∧xs.length≤N∧B≤w.heap.size
theorem Btn.hn {w:World} {B:Nat} {v:Value} {xs:List UInt8} {N:Nat} (h:Btn w B v xs N):B≤w.heap.size:=h.2.2
theorem Btn.below {w w':World} {B:Nat} {v:Value} {xs:List UInt8} {N:Nat} (h:Btn w B v xs N) (hb:Below w.heap.size w w'):Btn w' B v xs N :=
 ⟨Tk.row_below h.1 hb,h.2.1,Nat.le_trans h.2.2 hb.size⟩
theorem Bt.three {w:World} {a b c:Nat} (ha:a<256) (hb:b<256) (hc:c<256):Bt (w.alloc (.cells #[.int .u8 a,.int .u8 b,.int .u8 c] 5)) w.heap.size (.slice (some ⟨w.heap.size,0,none⟩) 3 3) [UInt8.ofNat a,UInt8.ofNat b,UInt8.ofNat c]:=by
 have e:∀ x,x<256→Sm.byteV (UInt8.ofNat x)=.int .u8 x:=fun x hx=>by unfold Sm.byteV;rw [Sm.ofNat_toNat,Nat.mod_eq_of_lt hx]
 refine ⟨rfl,.inr ⟨w.heap.size,3,_,rfl,Nat.le_refl _,heap_alloc_new w _,Nat.le_refl _,by unfold maxLen;omega,rfl,?_⟩⟩
 simp [e _ ha,e _ hb,e _ hc]
/-- A row of bytes, to a text. -/
theorem Bt.run {w:World} {B:Nat} {v:Value} {xs:List UInt8} (h:Bt w B v xs) (h0:0<xs.length):∃ g cap,v=.slice (some ⟨g,0,none⟩) xs.length cap ∧
  Sem.run Tryz.prog (convert 50 9 (.slice (some ⟨g,0,none⟩) xs.length cap)) w=.ok (.string ⟨xs.toArray⟩) w:=by
 obtain ⟨g,cap,rfl,hg1,hg2⟩:=h.own.form h0
 have hcs:=h.own.cells (g:=g) rfl
 refine ⟨g,cap,rfl,run_convert_bytes_back (P:=Tryz.prog) w 50 9 5 ⟨g,0,none⟩ cap xs Tryz.underlying50 Tryz.underlying5 Tryz.underlying9 ?_⟩
 intro j hj
 refine hcs j _ ?_
 rw [List.getElem?_map,List.getElem?_eq_getElem hj]
 rfl
end Ev
theorem putVar_n {B:Nat} {v:Value} {xs:List UInt8} {x N:Nat} {w:World} (h:Ev.Btn w B v xs N) (hx:x<18446744073709551616) (hn:N≤1000000000) :
  Calls Tryz.prog 35 #[v,.int .u64 x] w fun e w'=>∃ v',e=.returned v'∧Ev.Btn w' B v' (xs++Ev.var x) (N+10)∧Below B w w' :=
 (putVar_any B v xs x hx (Nat.le_trans h.2.1 hn) w h.1 h.2.2).mono fun e w' ⟨v',he,hr,hb⟩=>⟨v',he,⟨hr,by rw [List.length_append];have:=(Ev.var_len x).2;have:=h.2.1;omega,Nat.le_trans h.2.2 hb.size⟩,hb⟩
theorem text_n {B:Nat} {v:Value} {xs:List UInt8} {s:ByteArray} {N:Nat} {w:World} (h:Ev.Btn w B v xs N) (hs:N+s.size≤1000000000) :
  Calls Tryz.prog 34 #[v,.string s] w fun e w'=>∃ v',e=.returned v'∧Ev.Btn w' B v' (xs++Ev.txt s) (N+s.size+10)∧Below B w w':=by
 refine (text_any B v xs s (by omega) (Nat.le_trans h.2.1 (by omega)) w h.1 h.2.2).mono fun e w' ⟨v',he,hr,hb⟩=>⟨v',he,⟨hr,?_,Nat.le_trans h.2.2 hb.size⟩,hb⟩
 have h1:=(Ev.var_len s.size).2
 have h2:=h.2.1
 have h3:s.data.toList.length=s.size:=by simp
 unfold Ev.txt
 rw [List.length_append,List.length_append]
 omega
theorem putBig_n {B:Nat} {v:Value} {xs:List UInt8} {x N:Nat} {w:World} (h:Ev.Btn w B v xs N) (hx:x<18446744073709551616) (hn:N≤1000000000) :
  Calls Tryz.prog 36 #[v,.int .u64 x,.int .i64 8] w fun e w'=>∃ v',e=.returned v'∧Ev.Btn w' B v' (xs++Ev.big x 8) (N+8)∧Below B w w' :=
 (putBig_any B v xs x hx (Nat.le_trans h.2.1 hn) w h.1 h.2.2).mono fun e w' ⟨v',he,hr,hb⟩=>⟨v',he,⟨hr,by rw [List.length_append,Ev.big_len];have:=h.2.1;omega,Nat.le_trans h.2.2 hb.size⟩,hb⟩
theorem u64_wrap (n:Nat) (h:n<18446744073709551616):IntKind.u64.wrap (n:Int)=n:=by
 rw [IntKind.wrap_u64]
 omega
theorem below_undrew {B:Nat} {a w:World} (h:Below B a.drew w):Below B a w:=⟨h.os,h.tape,h.output,h.size,h.block⟩
theorem Ev.pack_no {l:Ev.Letter} (h:Ev.right l=false):Ev.pack l=(ByteArray.empty,1):=by unfold Ev.pack;rw [h];rfl
theorem Ev.pack_yes {l:Ev.Letter} (h:Ev.right l=true):Ev.pack l=(⟨(Ev.bytes l).toArray⟩,0):=by unfold Ev.pack;rw [h];rfl
theorem Ev.right_facts {l:Ev.Letter} (h:Ev.right l=true):0≤l.from_∧l.from_<4∧0≤l.to_∧l.to_<4∧0≤l.code∧l.code≤999∧l.kind<5∧l.key.size≤64∧l.body.size≤4096:=by
 unfold Ev.right Ev.peer at h
 grind
set_option maxRecDepth 100000 in
set_option maxHeartbeats 8000000 in
theorem pack_any (l:Ev.Letter) (hl:l.ok) (h6:l.svc.size≤10000∧l.mth.size≤10000) (w:World) (hk:Tk.KW w) :
  Calls Tryz.prog 21 #[l.val] w fun e w'=>e=.returned (.tuple #[.string (Ev.pack l).1,.int .i64 (Ev.pack l).2])∧Below w.heap.size w w':=by
 have HR0:=right_any l
 cases hr:Ev.right l
 ·have HP:=Lib.hid (Ev.pack_no hr)
  have HR:=Lib.hid hr
  clear hr
  rw [HP.out]
  obtain ⟨k0,k1,k2,k3,k4,k5,k6,k7,k8,k9⟩:=l
  unfold Ev.Letter.val at HR0 ⊢
  have HR1:=Lib.hid HR0
  clear HR0
  go_enter Tryz.func21,Tryz.ntmps21
  go_wp2_with fail
  refine (HR1.out _ (hk.below ((Below.refl _ _).alloc (Nat.le_refl _) _))).mono ?_
  rintro e w1 ⟨rfl,hb1⟩
  simp only [World.size_alloc] at hb1
  rw [HR.out]
  go_wp2_with fail
  go_ret2
  exact ⟨rfl,((Below.refl w.heap.size w).alloc (Nat.le_refl _) _).trans (hb1.mono (by omega))⟩
 ·have HP:=Lib.hid (Ev.pack_yes hr)
  have HR:=Lib.hid hr
  obtain ⟨f1,f2,f3,f4,f5,f6,f7,f8,f9⟩:=Ev.right_facts hr
  clear hr
  rw [HP.out]
  obtain ⟨k0,k1,k2,k3,k4,k5,k6,k7,k8,k9⟩:=l
  obtain ⟨g1,g2,g3⟩:=hl
  obtain ⟨g4,g5⟩:=h6
  simp only at f1 f2 f3 f4 f5 f6 f7 f8 f9 g1 g2 g3 g4 g5
  obtain ⟨k1,rfl⟩:=Int.eq_ofNat_of_zero_le f1
  obtain ⟨k2,rfl⟩:=Int.eq_ofNat_of_zero_le f3
  obtain ⟨k8,rfl⟩:=Int.eq_ofNat_of_zero_le f5
  unfold Ev.Letter.val at HR0 ⊢
  have HR1:=Lib.hid HR0
  have HB:Hid (Ev.bytes ⟨k0,k1,k2,k3,k4,k5,k6,k7,k8,k9⟩=((((((([UInt8.ofNat k0,UInt8.ofNat k1,UInt8.ofNat k2]++Ev.var k3)++Ev.txt k4)++Ev.big k5 8)++Ev.txt k6)++Ev.txt k7)++Ev.var k8)++Ev.txt k9)++Sm.le4 (Sm.crc ((((((([UInt8.ofNat k0,UInt8.ofNat k1,UInt8.ofNat k2]++Ev.var k3)++Ev.txt k4)++Ev.big k5 8)++Ev.txt k6)++Ev.txt k7)++Ev.var k8)++Ev.txt k9))):=Lib.hid rfl
  clear HR0
  go_enter Tryz.func21,Tryz.ntmps21
  go_wp2_with fail
  refine (HR1.out _ (hk.below ((Below.refl _ _).alloc (Nat.le_refl _) _))).mono ?_
  rintro e w1 ⟨rfl,hb1⟩
  simp only [World.size_alloc] at hb1
  rw [HR.out]
  have hz1:=hb1.size
  simp only [World.size_alloc] at hz1
  have hcell:=(bcell' hb1).1
  have c0:w1.cell? ⟨w.heap.size,0,none⟩=some (.int .u8 k0):=(hcell _ _ (by omega)).trans (by simp)
  have c1:w1.cell? ⟨w.heap.size,1,none⟩=some (.int .i64 k1):=(hcell _ _ (by omega)).trans (by simp)
  have c2:w1.cell? ⟨w.heap.size,2,none⟩=some (.int .i64 k2):=(hcell _ _ (by omega)).trans (by simp)
  have c3:w1.cell? ⟨w.heap.size,3,none⟩=some (.int .u64 k3):=(hcell _ _ (by omega)).trans (by simp)
  have c4:w1.cell? ⟨w.heap.size,4,none⟩=some (.string k4):=(hcell _ _ (by omega)).trans (by simp)
  have c5:w1.cell? ⟨w.heap.size,5,none⟩=some (.int .u64 k5):=(hcell _ _ (by omega)).trans (by simp)
  have c6:w1.cell? ⟨w.heap.size,6,none⟩=some (.string k6):=(hcell _ _ (by omega)).trans (by simp)
  have c7:w1.cell? ⟨w.heap.size,7,none⟩=some (.string k7):=(hcell _ _ (by omega)).trans (by simp)
  have c8:w1.cell? ⟨w.heap.size,8,none⟩=some (.int .i64 k8):=(hcell _ _ (by omega)).trans (by simp)
  have c9:w1.cell? ⟨w.heap.size,9,none⟩=some (.string k9):=(hcell _ _ (by omega)).trans (by simp)
  clear hcell
  have hlt:w.heap.size<w1.heap.size:=by omega
  go_wp2_with fail
  have h0:Ev.Btn _ _ _ _ 3:=⟨Ev.Bt.three (w:=w1) g1 (show k1<256 by omega) (show k2<256 by omega),by simp,by simp⟩
  have hb2:Below w1.heap.size w1 (w1.alloc (.cells #[.int .u8 k0,.int .u8 k1,.int .u8 k2] 5)):=(Below.refl _ _).alloc (Nat.le_refl _) _
  have hcell:=(bcell' hb2).1
  replace c3:=(hcell _ _ hlt).trans c3
  replace c4:=(hcell _ _ hlt).trans c4
  replace c5:=(hcell _ _ hlt).trans c5
  replace c6:=(hcell _ _ hlt).trans c6
  replace c7:=(hcell _ _ hlt).trans c7
  replace c8:=(hcell _ _ hlt).trans c8
  replace c9:=(hcell _ _ hlt).trans c9
  clear hcell c0 c1 c2
  generalize (w1.alloc (.cells #[.int .u8 k0,.int .u8 k1,.int .u8 k2] 5))=w2 at *
  generalize [UInt8.ofNat k0,UInt8.ofNat k1,UInt8.ofNat k2]=xs at *
  go_region_held3 (fun w'=>w'.cell? ⟨w.heap.size,3,none⟩=some (.int .u64 k3)∧w'.cell? ⟨w.heap.size,4,none⟩=some (.string k4))
   (first | go_keep | (go_split_ands;refine ⟨?_,?_⟩ <;> ((first | rw [hb4.cell (p:=⟨w.heap.size,_,none⟩) hlt] | rw [hb3.cell (p:=⟨w.heap.size,_,none⟩) hlt]);simp [*])))
   (first | (go_at_call 35;refine (putVar_n (by assumption) (by omega) (by omega)).mono ?_;rintro e w3 ⟨v3,rfl,h3,hb3⟩) | (go_at_call 34;refine (text_n (by assumption) (by omega)).mono ?_;rintro e w4 ⟨v4,rfl,h4,hb4⟩))
  have hq:=(bcell' (hb3.trans hb4)).1
  replace c5:=(hq _ _ hlt).trans c5
  replace c6:=(hq _ _ hlt).trans c6
  replace c7:=(hq _ _ hlt).trans c7
  replace c8:=(hq _ _ hlt).trans c8
  replace c9:=(hq _ _ hlt).trans c9
  have hbA:Below w1.heap.size w1 w4:=hb2.trans (below_undrew (hb3.trans hb4))
  clear hq h3 hb3 hb4 hb2 c3 c4
  generalize xs++Ev.var k3++Ev.txt k4=ys at *
  go_wp2_with fail
  refine (putBig_n h4 (by omega) (by omega)).mono ?_
  rintro e w5 ⟨v5,rfl,h5,hb5⟩
  have hq:=(bcell' hb5).1
  replace c6:=(hq _ _ hlt).trans c6
  replace c7:=(hq _ _ hlt).trans c7
  replace c8:=(hq _ _ hlt).trans c8
  replace c9:=(hq _ _ hlt).trans c9
  have hbB:Below w1.heap.size w1 w5:=hbA.trans hb5
  clear hq h4 hbA hb5 c5
  generalize ys++Ev.big k5 8=zs at *
  go_wp2_with fail
  go_region_held3 (fun w'=>w'.cell? ⟨w.heap.size,6,none⟩=some (.string k6)∧w'.cell? ⟨w.heap.size,7,none⟩=some (.string k7))
   (first | go_keep | (go_split_ands;refine ⟨?_,?_⟩ <;> ((first | rw [hb4.cell (p:=⟨w.heap.size,_,none⟩) hlt] | rw [hb3.cell (p:=⟨w.heap.size,_,none⟩) hlt]);simp [*])))
   (first | (go_at_call_of 34 (Value.string k6);refine (text_n (by assumption) (by omega)).mono ?_;rintro e w3 ⟨v3,rfl,h3,hb3⟩) | (go_at_call_of 34 (Value.string k7);refine (text_n (by assumption) (by omega)).mono ?_;rintro e w4 ⟨v4,rfl,h4,hb4⟩))
  have hq:=(bcell' (below_undrew (hb3.trans hb4))).1
  replace c8:=(hq _ _ hlt).trans c8
  replace c9:=(hq _ _ hlt).trans c9
  have hbC:Below w1.heap.size w1 w4:=hbB.trans (below_undrew (hb3.trans hb4))
  clear hq h3 hb3 hb4 hbB c6 c7
  generalize zs++Ev.txt k6++Ev.txt k7=us at *
  go_wp2_with fail
  have hwr:=u64_wrap k8 (by omega)
  go_region_held3 (fun w'=>w'.cell? ⟨w.heap.size,8,none⟩=some (.int .i64 k8)∧w'.cell? ⟨w.heap.size,9,none⟩=some (.string k9))
   (first | go_keep | (go_split_ands;refine ⟨?_,?_⟩ <;> ((first | rw [hb7.cell (p:=⟨w.heap.size,_,none⟩) hlt] | rw [hb6.cell (p:=⟨w.heap.size,_,none⟩) hlt]);simp [*])))
   (first | (go_at_call 35;refine (putVar_n (by assumption) (by omega) (by omega)).mono ?_;rintro e w6 ⟨v6,rfl,h6,hb6⟩) | (go_at_call 34;refine (text_n (by assumption) (by omega)).mono ?_;rintro e w7 ⟨v7,rfl,h7,hb7⟩))
  have hbD:Below w1.heap.size w1 w7:=hbC.trans (below_undrew (hb6.trans hb7))
  clear h6 hb6 hb7 hbC c8 c9 hwr
  have hpos:0<(us++Ev.var k8++Ev.txt k9).length:=by have:=(Ev.var_len k8).1;rw [List.length_append,List.length_append];omega
  generalize us++Ev.var k8++Ev.txt k9=ts at *
  obtain ⟨g,cap,rfl,hrun⟩:=h7.1.run hpos
  have hts:=h7.2.1
  go_wp2_with fail
  have hcl:=Sm.crc_lt ts
  refine (crc_any ⟨ts.toArray⟩ (by show ts.toArray.size≤_;rw [List.size_toArray];unfold maxLen;omega) _).mono ?_
  rintro e w8 ⟨rfl,hb8⟩
  have h8:=h7.below hb8
  have hbE:Below w1.heap.size w1 w8:=hbD.trans (hb8.mono h7.2.2)
  clear hrun
  show match Ending.returned (Value.int IntKind.u32 ↑(Sm.crc ts)),w8 with
   | _,_=>_
  go_wp2_with fail
  refine (putLittle_any w1.heap.size _ ts (Sm.crc ts) hcl (by omega) _ h8.1 h8.2.2).mono ?_
  rintro e w9 ⟨v9,rfl,h9,hb9⟩
  obtain ⟨g9,cap9,rfl,hrun⟩:=h9.run (by rw [List.length_append];omega)
  have HB2:Hid (_=ts++Sm.le4 (Sm.crc ts)):=HB
  clear HB
  generalize ts++Sm.le4 (Sm.crc ts)=rs at *
  go_wp2_with fail
  go_ret2
  exact ⟨by rw [HB2.out];rfl,((Below.refl w.heap.size w).alloc (Nat.le_refl _) _).trans ((hb1.trans ((hbE.trans hb9).mono hz1)).mono (by omega))⟩
end Go.Proofs.YtlbihaikppkecaaGreatDoor
