/- Chapter 17, plain: a number read of bytes. -/
import Derived.Test.YtjfdohhdkdjifaaGreatDoorPC03
set_option linter.unusedVariables false
namespace Go.Proofs.YtjfdohhdkdjifaaGreatDoor
namespace Ev
/-- What the first bytes of a number tell. -/
def acc (l:List UInt8):Nat→Nat
 | 0=>0
 | i+1=>acc l i ||| ((l.getD i 0).toNat % 128 * 2 ^ (7 * i) % 18446744073709551616)
theorem acc_lt (l:List UInt8):∀ i,acc l i<18446744073709551616
 | 0=>by simp [acc]
 | i+1=>Nat.or_lt_two_pow (n:=64) (acc_lt l i) (Nat.mod_lt _ (by decide))
theorem or_join {a b:Nat} (i:Nat) (ha:a<2 ^ i) (hb:b % 2 ^ i=0):a ||| b=a+b:=by
 have h2:2 ^ i * (b / 2 ^ i)=b:=by have:=Nat.div_add_mod b (2 ^ i);omega
 have h:=Nat.two_pow_add_eq_or_of_lt ha (b / 2 ^ i)
 rw [Nat.or_comm,←h2,←h,Nat.add_comm]
theorem pow128 (i:Nat):(2:Nat) ^ (7 * i)=128 ^ i:=Nat.pow_mul 2 7 i
theorem drop_head {l r:List UInt8} {i:Nat} {c:UInt8} (h:l.drop i=c::r):i<l.length∧l.getD i 0=c∧l.drop (i+1)=r:=by
 have hi:i<l.length:=by
  rcases Nat.lt_or_ge i l.length with h' | h'
  ·exact h'
  ·rw [List.drop_of_length_le h'] at h;cases h
 rw [List.drop_eq_getElem_cons hi] at h
 injection h with h1 h2
 exact ⟨hi,by rw [List.getD_eq_getElem?_getD,List.getElem?_eq_getElem hi];exact h1,h2⟩
/-- A number of the first bytes, the lowest one first. -/
def lit (l:List UInt8):Nat→Nat
 | 0=>0
 | i+1=>lit l i+(l.getD i 0).toNat * 2 ^ (8 * i)
end Ev
end Go.Proofs.YtjfdohhdkdjifaaGreatDoor
set_option linter.unusedVariables false
set_option linter.unusedSimpArgs false
namespace Go.Proofs.YtjfdohhdkdjifaaGreatDoor
namespace Cd
open Go.Proofs.YtjfdohhdkdjifaaGreatDoor.Ev
/-- A number at the beginning of bytes; false: they are too few, true: it is none. -/
def nmF (l:List UInt8):Nat→Nat→Except Bool (Nat × Nat)
 | 0,_=>.error true
 | g+1,i=>if i<l.length then (if i=9∧1<(l.getD i 0).toNat then .error true else if (l.getD i 0).toNat<128 then (if (l.getD i 0).toNat=0∧0<i then .error true else .ok (acc l (i+1),i+1)) else nmF l g (i+1)) else .error false
def num (b:List UInt8) (p:Nat):Except (Nat × Nat) (Nat × Nat):=match nmF (b.drop p) 10 0 with
 | .ok q=>.ok (q.1,p+q.2)
 | .error true=>.error (p,162)
 | .error false=>.error (b.length,160)
def bit (b:List UInt8) (p:Nat):Except (Nat × Nat) (Nat × Nat):=if p<b.length then (if 1<(b.getD p 0).toNat then .error (p,162) else .ok ((b.getD p 0).toNat,p+1)) else .error (b.length,160)
theorem acc_next {l:List UInt8} {i:Nat} (h9:i≤9) (ha:acc l i<128 ^ i) (hc:(l.getD i 0).toNat % 128<128) (h1:i=9→(l.getD i 0).toNat % 128<2):acc l (i+1)=acc l i+(l.getD i 0).toNat % 128 * 128 ^ i:=by
 have hle:128 ^ i≤128 ^ 9:=Nat.pow_le_pow_right (by decide) h9
 have hp9:(128:Nat) ^ 9=9223372036854775808:=by decide
 have hlt:(l.getD i 0).toNat % 128 * 128 ^ i<18446744073709551616:=by
  by_cases h:i=9
  ·have:=h1 h
   have h2:(l.getD i 0).toNat % 128 * 128 ^ i≤1 * 128 ^ i:=Nat.mul_le_mul_right _ (by omega)
   omega
  ·have hps:128 ^ (i+1)=128 ^ i * 128:=Nat.pow_succ ..
   have hle2:128 ^ (i+1)≤128 ^ 9:=Nat.pow_le_pow_right (by decide) (by omega)
   have h2:(l.getD i 0).toNat % 128 * 128 ^ i≤127 * 128 ^ i:=Nat.mul_le_mul_right _ (by omega)
   omega
 simp only [acc]
 rw [pow128,Nat.mod_eq_of_lt hlt,or_join (7 * i) (by rw [pow128];exact ha) (by rw [pow128];exact Nat.mul_mod_left _ _)]
theorem nmF_ok (l:List UInt8):∀ (g i u j:Nat),g+i=10→acc l i<128 ^ i→nmF l g i=.ok (u,j) →
  ∃ y,(0<i→y≠0)∧u=acc l i+128 ^ i * y∧y<2 * 128 ^ (9 - i)∧l.drop i=varF (9 - i) y++l.drop j∧i<j∧j≤l.length
 | 0,i,u,j,hg,ha,h=>by unfold nmF at h;cases h
 | g+1,i,u,j,hg,ha,h=>by
  unfold nmF at h
  split at h
  ·rename_i hi
   split at h
   ·cases h
   ·rename_i h9
    have hd:l.drop i=(l.getD i 0)::l.drop (i+1):=by
     rw [List.drop_eq_getElem_cons hi,List.getD_eq_getElem?_getD,List.getElem?_eq_getElem hi,Option.getD_some]
    have hcb:(l.getD i 0).toNat<256:=UInt8.toNat_lt _
    split at h
    ·rename_i hc
     split at h
     ·cases h
     ·rename_i h0
      injection h with h
      injection h with h1 h2
      subst h1 h2
      have hm:(l.getD i 0).toNat % 128=(l.getD i 0).toNat:=Nat.mod_eq_of_lt hc
      refine ⟨(l.getD i 0).toNat,fun hi0 h=>h0 ⟨h,hi0⟩,?_,?_,?_,Nat.lt_succ_self _,hi⟩
      ·rw [acc_next (by omega) ha (by omega) (fun h=>by omega),hm,Nat.mul_comm]
      ·by_cases hi9:i=9
       ·have h2:¬1<(l.getD i 0).toNat:=fun h=>h9 ⟨hi9,h⟩
        rw [hi9] at h2 ⊢
        show _<2 * 128 ^ 0
        omega
       ·have:128 ^ 1≤128 ^ (9 - i):=Nat.pow_le_pow_right (by decide) (by omega)
        omega
      ·rw [hd]
       have hv:varF (9 - i) (l.getD i 0).toNat=[UInt8.ofNat (l.getD i 0).toNat]:=by
        cases h9i:9 - i with
        | zero=>rfl
        | succ m=>unfold varF;rw [if_pos hc]
       rw [hv,UInt8.ofNat_toNat,List.singleton_append]
    ·rename_i hc
     have hi8:i≤8:=by
      rcases Nat.lt_or_ge i 9 with h' | h'
      ·omega
      ·exact absurd ⟨by omega,by omega⟩ h9
     have ha':=acc_next (by omega) ha (Nat.mod_lt _ (by decide)) (fun h=>by omega)
     have hps:128 ^ (i+1)=128 ^ i * 128:=Nat.pow_succ ..
     have hb:(l.getD i 0).toNat % 128 * 128 ^ i≤127 * 128 ^ i:=Nat.mul_le_mul_right _ (by omega)
     obtain ⟨y,y0,hu,hy,hl,hj,hjl⟩:=nmF_ok l g (i+1) u j (by omega) (by omega) h
     have y0:=y0 (by omega)
     obtain ⟨c,hcn⟩:∃ c,(l.getD i 0).toNat=c+128:=⟨(l.getD i 0).toNat - 128,by omega⟩
     have hcm:(l.getD i 0).toNat % 128=c:=by omega
     refine ⟨c+128 * y,fun _=>by omega,?_,?_,?_,by omega,hjl⟩
     ·rw [hu,ha',hcm,hps,Nat.mul_add,Nat.mul_comm c,Nat.mul_assoc,Nat.add_assoc]
     ·have:128 ^ (9 - i)=128 ^ (9 - (i+1)) * 128:=by rw [←Nat.pow_succ];congr 1;omega
      omega
     ·rw [hd,show 9 - i=(9 - (i+1))+1 by omega]
      unfold varF
      rw [if_neg (by omega),show (c+128 * y) % 128+128=(l.getD i 0).toNat by omega,show (c+128 * y) / 128=y by omega,UInt8.ofNat_toNat,List.cons_append,←hl]
  ·cases h
theorem num_ok {b:List UInt8} {p u q:Nat} (h:num b p=.ok (u,q)):u<18446744073709551616∧b.drop p=var u++b.drop q∧p<q∧q≤b.length:=by
 unfold num at h
 split at h
 ·rename_i x hx
  injection h with h
  injection h with h1 h2
  obtain ⟨y,-,hu,hy,hl,hj,hjl⟩:=nmF_ok (b.drop p) 10 0 x.1 x.2 rfl (by simp [acc]) hx
  have hacc:acc (b.drop p) 0=0:=rfl
  rw [hacc] at hu
  simp only [Nat.pow_zero,Nat.one_mul,Nat.zero_add,Nat.sub_zero,List.drop_zero,List.drop_drop] at hu hl hy
  rw [List.length_drop] at hjl
  subst h2
  rw [←h1,hu]
  exact ⟨by simpa using hy,hl,by omega,by omega⟩
 ·cases h
 ·cases h
theorem nmF_var (l r:List UInt8) (y:Nat) (hy:y<18446744073709551616):∀ (g i:Nat),g+i=9→l.drop i=varF g (y / 128 ^ i)++r→acc l i=y % 128 ^ i→(0<i→y / 128 ^ i≠0)→nmF l (g+1) i=.ok (y,i+(varF g (y / 128 ^ i)).length)
 | g,i,hgi,hl,ha,h0=>by
  have p0:0<128 ^ i:=Nat.pow_pos (by decide)
  have hdm:=Nat.div_add_mod y (128 ^ i)
  have hml:y % 128 ^ i<128 ^ i:=Nat.mod_lt _ p0
  by_cases hq:y / 128 ^ i<128
  ·have e1:varF g (y / 128 ^ i)=[UInt8.ofNat (y / 128 ^ i)]:=by
    cases g with
    | zero=>rfl
    | succ g=>rw [varF,if_pos hq]
   rw [e1,List.cons_append,List.nil_append] at hl
   obtain ⟨h1,h2,_⟩:=drop_head hl
   have hc:(l.getD i 0).toNat=y / 128 ^ i:=by rw [h2,Sm.ofNat_toNat,Nat.mod_eq_of_lt (by omega)]
   have h9:i=9→y / 128 ^ i<2:=fun hi9=>by
    subst hi9
    rw [Nat.div_lt_iff_lt_mul (by decide)];omega
   unfold nmF
   rw [if_pos h1,if_neg (by rw [hc];rintro ⟨hi9,h⟩;have:=h9 hi9;omega),if_pos (by rw [hc];exact hq),if_neg (by rw [hc];rintro ⟨h,hi⟩;exact h0 hi h),e1]
   rw [acc_next (by omega) (by rw [ha];exact hml) (by omega) (fun h=>by have:=h9 h;rw [hc];omega),hc,ha,Nat.mod_eq_of_lt hq,Nat.mul_comm]
   rw [show y % 128 ^ i+128 ^ i * (y / 128 ^ i)=y by omega]
   rfl
  ·cases g with
   | zero =>
    have hi9:i=9:=by omega
    subst hi9
    have:y / 128 ^ 9<2:=by rw [Nat.div_lt_iff_lt_mul (by decide)];omega
    omega
   | succ g =>
    have e1:varF (g+1) (y / 128 ^ i)=UInt8.ofNat (y / 128 ^ i % 128+128)::varF g (y / 128 ^ (i+1)):=by
     rw [varF,if_neg hq,Nat.div_div_eq_div_mul,←Nat.pow_succ]
    rw [e1,List.cons_append] at hl
    obtain ⟨h1,h2,h3⟩:=drop_head hl
    have hc:(l.getD i 0).toNat=y / 128 ^ i % 128+128:=by rw [h2,Sm.ofNat_toNat,Nat.mod_eq_of_lt (by omega)]
    have ha':acc l (i+1)=y % 128 ^ (i+1):=by
     rw [acc_next (by omega) (by rw [ha];exact hml) (Nat.mod_lt _ (by decide)) (fun h=>by omega),ha,hc,show (y / 128 ^ i % 128+128) % 128=y / 128 ^ i % 128 by omega,Nat.mod_pow_succ,Nat.mul_comm (y / 128 ^ i % 128)]
    have hn0:y / 128 ^ (i+1)≠0:=by
     rw [Nat.pow_succ,←Nat.div_div_eq_div_mul]
     omega
    have ih:=nmF_var l r y hy g (i+1) (by omega) h3 ha' (fun _=>hn0)
    unfold nmF
    rw [if_pos h1,if_neg (by rintro ⟨hi9,h⟩;omega),if_neg (by rw [hc];omega),ih,e1]
    simp only [List.length_cons]
    rw [show i+1+(varF g (y / 128 ^ (i+1))).length=i+((varF g (y / 128 ^ (i+1))).length+1) by omega]
theorem num_var {b r:List UInt8} {p y:Nat} (hy:y<18446744073709551616) (h:b.drop p=var y++r):num b p=.ok (y,p+(var y).length):=by
 have h1:=nmF_var (var y++r) r y hy 9 0 rfl (by simp [var]) (by simp [acc,Nat.mod_one]) (fun h=>absurd h (by decide))
 simp only [Nat.pow_zero,Nat.div_one,Nat.zero_add] at h1
 unfold num
 rw [h,h1]
 rfl
theorem num_err {b:List UInt8} {p:Nat} {e:Nat × Nat} (hp:p≤b.length) (h:num b p=.error e):p≤e.1∧e.1≤b.length∧(e.2=162∨e.2=160):=by
 unfold num at h
 split at h
 ·cases h
 ·injection h with h;subst h;exact ⟨Nat.le_refl _,hp,.inl rfl⟩
 ·injection h with h;subst h;exact ⟨hp,Nat.le_refl _,.inr rfl⟩
theorem nmF_cut (l:List UInt8) (n:Nat):∀ (g i u j:Nat),i≤n→n<j→j≤l.length→nmF l g i=.ok (u,j)→nmF (l.take n) g i=.error false
 | 0,i,u,j,hi,hn,hj,h=>by unfold nmF at h;cases h
 | g+1,i,u,j,hi,hn,hj,h=>by
  unfold nmF at h ⊢
  have hlen:(l.take n).length=n:=by rw [List.length_take];omega
  rw [hlen]
  by_cases hin:i<n
  ·have hg:(l.take n).getD i 0=l.getD i 0:=by
    rw [List.getD_eq_getElem?_getD,List.getD_eq_getElem?_getD,List.getElem?_take_of_lt hin]
   rw [if_pos hin,hg]
   rw [if_pos (by omega)] at h
   split at h
   ·cases h
   ·rename_i h9
    rw [if_neg h9]
    split at h
    ·rename_i hc
     split at h
     ·cases h
     ·injection h with h
      injection h with h1 h2
      omega
    ·rename_i hc
     rw [if_neg hc]
     exact nmF_cut l n g (i+1) u j (by omega) hn hj h
  ·rw [if_neg hin]
/-- Bytes that are cut. -/
theorem num_cut {b:List UInt8} {p u q n:Nat} (hp:p≤n) (hn:n≤b.length) (h:num b p=.ok (u,q)):num (b.take n) p=if q≤n then .ok (u,q) else .error (n,160):=by
 obtain ⟨h1,h2,h3,h4⟩:=num_ok h
 by_cases hq:q≤n
 ·rw [if_pos hq]
  have hl:(b.drop p).length=(var u).length+(b.drop q).length:=by rw [h2,List.length_append]
  rw [List.length_drop,List.length_drop] at hl
  have hd:(b.take n).drop p=var u++(b.drop q).take (n - q):=by
   rw [List.drop_take,h2,List.take_append]
   rw [List.take_of_length_le (by omega),show n - p - (var u).length=n - q by omega]
  rw [num_var h1 hd,show p+(var u).length=q by omega]
 ·rw [if_neg hq]
  unfold num at h
  split at h
  ·rename_i x hx
   injection h with h
   injection h with e1 e2
   have:=nmF_cut (b.drop p) (n - p) 10 0 x.1 x.2 (by omega) (by omega) (by rw [List.length_drop];omega) hx
   unfold num
   rw [List.drop_take,this]
   simp only [List.length_take]
   rw [Nat.min_eq_left hn]
  ·cases h
  ·cases h
theorem bit_ok {b:List UInt8} {p u q:Nat} (h:bit b p=.ok (u,q)):u≤1∧b.drop p=UInt8.ofNat u::b.drop q∧q=p+1∧q≤b.length:=by
 unfold bit at h
 split at h
 ·rename_i hp
  split at h
  ·cases h
  ·rename_i h1
   injection h with h
   injection h with e1 e2
   subst e1 e2
   refine ⟨by omega,?_,rfl,hp⟩
   rw [UInt8.ofNat_toNat,List.drop_eq_getElem_cons hp,List.getD_eq_getElem?_getD,List.getElem?_eq_getElem hp,Option.getD_some]
 ·cases h
theorem bit_var {b r:List UInt8} {p u:Nat} (hu:u≤1) (h:b.drop p=UInt8.ofNat u::r):bit b p=.ok (u,p+1):=by
 obtain ⟨h1,h2,h3⟩:=drop_head h
 unfold bit
 have:(b.getD p 0).toNat=u:=by rw [h2,Sm.ofNat_toNat,Nat.mod_eq_of_lt (by omega)]
 rw [if_pos h1,if_neg (by omega),this]
theorem bit_err {b:List UInt8} {p:Nat} {e:Nat × Nat} (hp:p≤b.length) (h:bit b p=.error e):p≤e.1∧e.1≤b.length∧(e.2=162∨e.2=160):=by
 unfold bit at h
 split at h
 ·split at h
  ·injection h with h;subst h;exact ⟨Nat.le_refl _,hp,.inl rfl⟩
  ·cases h
 ·injection h with h;subst h;exact ⟨hp,Nat.le_refl _,.inr rfl⟩
theorem bit_cut {b:List UInt8} {p u q n:Nat} (hp:p≤n) (hn:n≤b.length) (h:bit b p=.ok (u,q)):bit (b.take n) p=if q≤n then .ok (u,q) else .error (n,160):=by
 obtain ⟨h1,h2,h3,h4⟩:=bit_ok h
 subst h3
 by_cases hq:p+1≤n
 ·rw [if_pos hq]
  exact bit_var (r:=(b.drop (p+1)).take (n - (p+1))) h1 (by rw [List.drop_take,h2,show n - p=(n - (p+1))+1 by omega];rfl)
 ·rw [if_neg hq]
  unfold bit
  rw [if_neg (by rw [List.length_take];omega),List.length_take,Nat.min_eq_left hn]
end Cd
end Go.Proofs.YtjfdohhdkdjifaaGreatDoor
