/- redressref22: Id, Key, Read. No condition but the texts' sizes. -/
import Derived.Test.YtlbihaikppkecaaGreatDoorPS02
import Derived.Test.YtlbihaikppkecaaGreatDoorPS23
set_option linter.unusedVariables false
set_option linter.unusedSimpArgs false
namespace Go.Proofs.YtlbihaikppkecaaGreatDoor
open Go.RowKit Go.BigFrame
set_option maxRecDepth 100000 in
set_option maxHeartbeats 4000000 in
theorem rsid_any (s:ByteArray) (hs:s.size≤100000) (w:World):Calls Tryz.prog 10 #[.string s] w fun e w'=>e=.returned (.bool (Sd.idL s.data.toList))∧w'=w:=by
 obtain ⟨R,HR⟩:∃ R,Hid (Sd.idL s.data.toList=R):=⟨_,Lib.hid rfl⟩
 rw [HR.out]
 have hll:s.data.toList.length=s.size:=by simp
 have HLL:=Lib.hid hll
 clear hll
 go_enter Tryz.func10,Tryz.ntmps10
 by_cases hlen:(s.size:Int)<1∨24<(s.size:Int)
 case pos =>
  have HE:Hid (R=false):=Lib.hid (by
   rw [←HR.out]
   unfold Sd.idL
   rw [HLL.out]
   have:(decide (1≤s.size)&&decide (s.size≤24))=false:=by
    rw [Bool.and_eq_false_iff,decide_eq_false_iff_not,decide_eq_false_iff_not]
    omega
   rw [this,Bool.false_and])
  obtain rfl:=HE.out
  rcases hlen with h | h
  ·go_wp2_with fail
   go_ret
   exact ⟨rfl,rfl⟩
  ·have h0:¬(s.size:Int)<1:=by omega
   go_wp2_with fail
   go_ret
   exact ⟨rfl,rfl⟩
 have h0:¬(s.size:Int)<1:=by omega
 have h24:¬24<(s.size:Int):=by omega
 have HLN:Hid (1≤s.size∧s.size≤24):=Lib.hid (by omega)
 clear hlen
 go_wp2_with fail
 go_loopw [3] (fun i wr=>∃ k:Nat,k≤s.size∧i=.int .i64 k∧Hid ((s.data.toList.take k).all Sd.idC=true)∧wr=w) (fun i _=>s.size - (intOf i).toNat)
 case atStart=>exact ⟨0,by omega,rfl,Lib.hid rfl,rfl⟩
 case round =>
  obtain ⟨k,hk,rfl,HA,rfl⟩:=hrel
  by_cases hlt:k<s.size
  case neg =>
   have h1:¬(k:Int)<(s.size:Int):=by omega
   have HE:Hid (R=true):=Lib.hid (by
    have h2:=HA.out
    rw [List.take_of_length_le (by rw [HLL.out];omega)] at h2
    rw [←HR.out]
    unfold Sd.idL
    rw [h2,HLL.out,Bool.and_true,Bool.and_eq_true,decide_eq_true_eq,decide_eq_true_eq]
    exact HLN.out)
   obtain rfl:=HE.out
   go_wp2_with fail
   go_ret
   exact ⟨rfl,rfl⟩
  have h1:(k:Int)<(s.size:Int):=by omega
  have hi0:(0:Int)≤(k:Int):=by omega
  have hkl:k<s.data.toList.length:=by rw [HLL.out];exact hlt
  obtain ⟨c,Hc⟩:∃ c:Nat,Hid ((s.data.toList.getD k 0).toNat=c):=⟨_,Lib.hid rfl⟩
  have hcg:s.data.toList.getD k 0=s.data.toList[k]:=by rw [List.getD_eq_getElem?_getD,List.getElem?_eq_getElem hkl,Option.getD_some]
  have hby:∀ h,((s[k]'h).toNat)=c:=fun h=>by
   rw [←Hc.out,hcg]
   rfl
  have hc256:c<256:=by rw [←Hc.out];exact (s.data.toList.getD k 0).toNat_lt
  have HBAD:Hid (¬((97≤c∧c≤122)∨(48≤c∧c≤57)∨c=95)→R=false):=Lib.hid (fun h=>by
   rw [←HR.out]
   refine Sd.idL_bad hkl ?_
   rw [←hcg]
   unfold Sd.idC
   rw [Hc.out]
   simp
   omega)
  have HOK:Hid (((97≤c∧c≤122)∨(48≤c∧c≤57)∨c=95)→(s.data.toList.take (k+1)).all Sd.idC=true):=Lib.hid (fun h=>by
   rw [List.take_succ_eq_append_getElem hkl,List.all_append,HA.out,Bool.true_and,←hcg]
   simp only [List.all_cons,List.all_nil,Bool.and_true]
   unfold Sd.idC
   rw [Hc.out]
   simp
   omega)
  clear hcg hkl
  go_upto_region 7 with (fail)
  clear hby
  by_cases hgood:(97≤c∧c≤122)∨(48≤c∧c≤57)∨c=95
  case neg =>
   obtain rfl:=HBAD.out hgood
   go_wp2_with fail
   all_goals first
    | (go_ret;exact ⟨rfl,rfl⟩)
    | (exfalso;simp only [Bool.not_eq_true',decide_eq_false_iff_not,Bool.not_eq_false',decide_eq_true_eq,beq_iff_eq,beq_eq_false_iff_ne,bne_iff_ne,bne_eq_false_iff_eq,ne_eq] at *;omega)
  have HNX:=Lib.hid (HOK.out hgood)
  go_wp2_with fail
  all_goals first
   | (go_roundw
      case rel=>exact ⟨k+1,by omega,by go_num,HNX,by first | rfl | trivial⟩
      case measure=>simp [intOf];omega)
   | (exfalso;simp only [Bool.not_eq_true',decide_eq_false_iff_not,Bool.not_eq_false',decide_eq_true_eq,beq_iff_eq,beq_eq_false_iff_ne,bne_iff_ne,bne_eq_false_iff_eq,ne_eq] at *;omega)
set_option maxRecDepth 100000 in
set_option maxHeartbeats 4000000 in
theorem rskey_any (s:ByteArray) (hs:s.size≤100000) (i:Int) (b:Bool) (w:World):Calls Tryz.prog 12 #[.string s,.int .i64 i,.bool b] w fun e w'=>e=.returned (.string (Sd.keyB s i b))∧Below w.heap.size w w':=by
 obtain ⟨R,HR⟩:∃ R,Hid (Sd.keyB s i b=R):=⟨_,Lib.hid rfl⟩
 rw [HR.out]
 go_enter Tryz.func12,Tryz.ntmps12
 go_wp2_with fail
 refine (rsid_any s hs w).mono ?_
 obtain ⟨B,HB⟩:∃ B,Hid (Sd.idL s.data.toList=B):=⟨_,Lib.hid rfl⟩
 rw [HB.out]
 rintro e w1 ⟨rfl,rfl⟩
 by_cases hbad:B=false∨i<0∨8≤i
 case pos =>
  have HE:Hid (R=⟨#[]⟩):=Lib.hid (by rw [←HR.out,Sd.keyB_none (by rw [HB.out];exact hbad)])
  obtain rfl:=HE.out
  rcases hbad with rfl | hi | hi
  ·go_wp2_with fail
   go_ret
   exact ⟨rfl,Below.refl _ _⟩
  ·cases B
   ·go_wp2_with fail
    go_ret
    exact ⟨rfl,Below.refl _ _⟩
   ·go_wp2_with fail
    go_ret
    exact ⟨rfl,Below.refl _ _⟩
  ·have hi0:¬i<0:=by omega
   have hi7:7<i:=by omega
   cases B
   ·go_wp2_with fail
    go_ret
    exact ⟨rfl,Below.refl _ _⟩
   ·go_wp2_with fail
    go_ret
    exact ⟨rfl,Below.refl _ _⟩
 have hB:B=true:=by
  cases B
  ·exact absurd (.inl rfl) hbad
  ·rfl
 subst hB
 have hi0:¬i<0:=by omega
 have hi7:¬7<i:=by omega
 have hsz:s.size≤24:=by
  have h:=HB.out
  unfold Sd.idL at h
  simp only [Bool.and_eq_true,decide_eq_true_eq] at h
  have:=h.1.2
  simpa using this
 go_upto_region 3 with (fail)
 obtain ⟨n,rfl⟩:=Int.eq_ofNat_of_zero_le (show 0≤i by omega)
 have hrun0:=run_dig n (by omega) w1
 obtain ⟨c,Hc⟩:∃ c:UInt8,Hid (UInt8.ofNat (48+n)=c):=⟨_,Lib.hid rfl⟩
 rw [Hc.out] at hrun0
 have HE:Hid (((s++⟨#[46]⟩)++⟨#[c]⟩)++⟨#[Sd.way b]⟩=R):=Lib.hid (by rw [←Hc.out,Sd.keyB_of HB.out (by omega),←HR.out])
 clear hbad
 have i0:(0:Int)≤(n:Int):=by omega
 have i1:(n:Int)≤7:=by omega
 cases b
 all_goals
  go_wp2_with fail
  go_ret
  exact ⟨by rw [←HE.out];rfl,(Below.refl _ _).alloc (Nat.le_refl _) _⟩
set_option maxRecDepth 100000 in
set_option maxHeartbeats 8000000 in
theorem rsread_any (s:ByteArray) (hs:s.size≤100000) (w:World):Calls Tryz.prog 8 #[.string s] w fun e w'=>e=.returned (Sd.readV (Sd.readL s.data.toList))∧Below w.heap.size w w':=by
 obtain ⟨R,HR⟩:∃ R,Hid (Sd.readL s.data.toList=R):=⟨_,Lib.hid rfl⟩
 rw [HR.out]
 unfold Sd.readL at HR
 have hll:s.data.toList.length=s.size:=by simp
 rw [hll] at HR
 go_enter Tryz.func8,Tryz.ntmps8
 by_cases h4:s.size<4
 case pos =>
  have HE:Hid (R=none):=Lib.hid (by rw [←HR.out,if_pos (.inl h4)])
  obtain rfl:=HE.out
  have t1:(s.size:Int)<4:=by omega
  go_wp2_with fail
  refine bodyPost_ret (Sd.res_t4 rfl _ _ _) rfl ⟨rfl,Below.refl _ _⟩
 have t1:¬(s.size:Int)<4:=by omega
 have i3:(0:Int)≤(s.size:Int) - 3:=by omega
 have i3b:(s.size:Int) - 3<(s.size:Int):=by omega
 have i3c:(s.size:Int) - 3≤(s.size:Int):=by omega
 have n3:((s.size:Int) - 3).toNat=s.size - 3:=by omega
 have n3b:s.size - 3<s.size:=by omega
 have w3:wrap64 ((s.size:Int) - 3)=(s.size:Int) - 3:=by
  have e:∀ n,wrap64 n=IntKind.i64.wrap n:=fun n=>by first | (rw [IntKind.wrap_i64];rfl) | (rw [IntKind.wrap_i64];unfold wrap64;rfl) | simp [wrap64,IntKind.wrap,IntKind.bits,IntKind.signed]
  rw [e,IntKind.wrap_i64]
  omega
 obtain ⟨a3,Ha3⟩:∃ a,Hid (s.data.toList.getD (s.size - 3) 0=a):=⟨_,Lib.hid rfl⟩
 obtain ⟨a2,Ha2⟩:∃ a,Hid (s.data.toList.getD (s.size - 2) 0=a):=⟨_,Lib.hid rfl⟩
 obtain ⟨a1,Ha1⟩:∃ a,Hid (s.data.toList.getD (s.size - 1) 0=a):=⟨_,Lib.hid rfl⟩
 rw [Ha3.out,Ha2.out,Ha1.out] at HR
 have hget:∀ k,k<s.size→∀ h,s.data.toList.getD k 0=s[k]'h:=fun k hk h=>by
  rw [List.getD_eq_getElem?_getD,List.getElem?_eq_getElem (by simpa using hk),Option.getD_some]
  rfl
 have hby3:∀ h,((s[s.size - 3]'h).toNat)=a3.toNat:=fun h=>by rw [←Ha3.out,hget _ (by omega) h]
 have hby2:∀ h,((s[s.size - 2]'h).toNat)=a2.toNat:=fun h=>by rw [←Ha2.out,hget _ (by omega) h]
 have hby1:∀ h,((s[s.size - 1]'h).toNat)=a1.toNat:=fun h=>by rw [←Ha1.out,hget _ (by omega) h]
 clear hget
 by_cases hd:(a3.toNat:Int)=46
 case neg =>
  have HE:Hid (R=none):=Lib.hid (by rw [←HR.out,if_pos (.inr (.inl (fun e=>by subst e;exact hd rfl)))])
  obtain rfl:=HE.out
  go_wp2_with fail
  refine bodyPost_ret (Sd.res_t4 rfl _ _ _) rfl ⟨rfl,Below.refl _ _⟩
 go_wp2_with fail
 have HEX:Hid ((s.extract 0 (s.size - 3)).data.toList=s.data.toList.take (s.size - 3)):=Lib.hid (by simp)
 refine (rsid_any _ (by simp;omega) w).mono ?_
 rw [HEX.out]
 obtain ⟨B,HB⟩:∃ B,Hid (Sd.idL (s.data.toList.take (s.size - 3))=B):=⟨_,Lib.hid rfl⟩
 rw [HB.out] at HR ⊢
 rintro e w1 ⟨rfl,rfl⟩
 cases B
 ·have HE:Hid (R=none):=Lib.hid (by rw [←HR.out,if_pos (.inr (.inr rfl))])
  obtain rfl:=HE.out
  go_wp2_with fail
  refine bodyPost_ret (Sd.res_t4 rfl _ _ _) rfl ⟨rfl,Below.refl _ _⟩
 have HR2:=HR.out
 rw [if_neg (by rintro (h | h | h);exact h4 h;exact h (UInt8.toNat_inj.1 (by show a3.toNat=46;omega));cases h)] at HR2
 clear HR hby3
 have HR:=Lib.hid HR2
 clear HR2
 have hs2:=hby2
 have i2:(0:Int)≤(s.size:Int) - 2:=by omega
 have i2b:(s.size:Int) - 2<(s.size:Int):=by omega
 have n2:((s.size:Int) - 2).toNat=s.size - 2:=by omega
 have w2:wrap64 ((s.size:Int) - 2)=(s.size:Int) - 2:=by
  have e:∀ n,wrap64 n=IntKind.i64.wrap n:=fun n=>by first | (rw [IntKind.wrap_i64];rfl) | (rw [IntKind.wrap_i64];unfold wrap64;rfl) | simp [wrap64,IntKind.wrap,IntKind.bits,IntKind.signed]
  rw [e,IntKind.wrap_i64]
  omega
 have i1:(0:Int)≤(s.size:Int) - 1:=by omega
 have i1b:(s.size:Int) - 1<(s.size:Int):=by omega
 have n1:((s.size:Int) - 1).toNat=s.size - 1:=by omega
 have w1:wrap64 ((s.size:Int) - 1)=(s.size:Int) - 1:=by
  have e:∀ n,wrap64 n=IntKind.i64.wrap n:=fun n=>by first | (rw [IntKind.wrap_i64];rfl) | (rw [IntKind.wrap_i64];unfold wrap64;rfl) | simp [wrap64,IntKind.wrap,IntKind.bits,IntKind.signed]
  rw [e,IntKind.wrap_i64]
  omega
 go_upto_region 6 with (fail)
 have hc2:=a2.toNat_lt
 have hc1:=a1.toNat_lt
 have e1:a1=102↔a1.toNat=102:=⟨fun e=>by rw [e];rfl,fun e=>UInt8.toNat_inj.1 (by rw [e];rfl)⟩
 have e2:a1=99↔a1.toNat=99:=⟨fun e=>by rw [e];rfl,fun e=>UInt8.toNat_inj.1 (by rw [e];rfl)⟩
 have e3:(a1==99)=((a1.toNat:Int)==99):=by
  rw [Bool.eq_iff_iff,beq_iff_eq,beq_iff_eq,e2]
  omega
 have hr:=HR.out
 rw [e3] at hr
 simp only [ne_eq,e1,e2] at hr
 clear HR e1 e2 e3 hby2 hby1 hs2
 generalize a2.toNat=c2 at *
 generalize a1.toNat=c1 at *
 have HR:=Lib.hid hr
 clear hr
 by_cases hbad:c2<48∨55<c2∨(¬c1=102∧¬c1=99)
 case pos =>
  have HE:Hid (R=none):=Lib.hid (by rw [←HR.out,if_pos hbad])
  obtain rfl:=HE.out
  go_wp2_with fail
  all_goals first
   | exact bodyPost_ret (Sd.res_t4 rfl _ _ _) rfl ⟨rfl,Below.refl _ _⟩
   | (exfalso;simp only [Bool.not_eq_true',decide_eq_false_iff_not,Bool.not_eq_false',decide_eq_true_eq,beq_iff_eq,beq_eq_false_iff_ne,bne_iff_ne,bne_eq_false_iff_eq,ne_eq] at *;omega)
 have HE:Hid (R=some (s.data.toList.take (s.size - 3),(c2:Int) - 48,(c1:Int)==99)):=Lib.hid (by rw [←HR.out,if_neg hbad])
 obtain rfl:=HE.out
 have hx:wrap64 ((c2:Int) - 48)=(c2:Int) - 48:=by
  have e:∀ n,wrap64 n=IntKind.i64.wrap n:=fun n=>by first | (rw [IntKind.wrap_i64];rfl) | (rw [IntKind.wrap_i64];unfold wrap64;rfl) | simp [wrap64,IntKind.wrap,IntKind.bits,IntKind.signed]
  rw [e,IntKind.wrap_i64]
  omega
 have hx2:IntKind.u8.wrap ((c2:Int) - 48)=(c2:Int) - 48:=by unfold IntKind.wrap;simp [IntKind.bits,IntKind.signed];omega
 have HS3:Hid (s.extract 0 (s.size - 3)=⟨(s.data.toList.take (s.size - 3)).toArray⟩):=Lib.hid (by apply ByteArray.ext;apply Array.ext';simp)
 go_wp2_with fail
 all_goals first
  | (exfalso;simp only [Bool.not_eq_true',decide_eq_false_iff_not,Bool.not_eq_false',decide_eq_true_eq,beq_iff_eq,beq_eq_false_iff_ne,bne_iff_ne,bne_eq_false_iff_eq,ne_eq] at *;omega)
  | (refine bodyPost_ret (Sd.res_t4 rfl _ _ _) rfl ⟨?_,Below.refl _ _⟩
     unfold Sd.readV
     simp only
     rw [←HS3.out]
     first | rfl | (simp;done))
end Go.Proofs.YtlbihaikppkecaaGreatDoor
