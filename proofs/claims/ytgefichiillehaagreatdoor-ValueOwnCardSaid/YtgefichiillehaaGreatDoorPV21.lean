/- value.End and redressref15.End (printed by gen_valend.py). No condition but the ones the theorems state. -/
import Derived.Test.YtgefichiillehaaGreatDoorPV16
set_option linter.unusedVariables false
set_option linter.unusedSimpArgs false
namespace Go.Proofs.YtgefichiillehaaGreatDoor
open Go.RowKit Go.BigFrame
namespace Vl
theorem endL_zero (N:Nat) (r:List Node):endL N 0 r=some r:=by cases r <;> rfl
theorem endAt_nat (v:List Node) (a:Nat):endAt v (a:Int)=endL v.length 1 (v.drop a):=by
 unfold endAt
 rw [if_pos (by omega),Int.toNat_natCast]
theorem endAt_neg (v:List Node) {a:Int} (h:a < 0):endAt v a=none:=by
 unfold endAt
 rw [if_neg (by omega)]
theorem endAt_far (v:List Node) {a:Int} (h:(v.length:Int)≤a):endAt v a=none:=by
 unfold endAt
 split
 ·rw [List.drop_of_length_le (by omega)]
  rfl
 ·rfl
theorem endL_step {N m:Nat} {n:Node} {r:List Node} {d:Nat} (hd:n.kids=d) (hN:d≤N):endL N (m+1) (n :: r)=endL N (m+d) r:=by
 conv=>lhs;unfold endL
 rw [hd,if_pos ⟨by omega,by omega⟩,Int.toNat_natCast]
theorem endL_bad {N m:Nat} {n:Node} {r:List Node} (h:n.kids < 0∨(N:Int) < n.kids):endL N (m+1) (n :: r)=none:=by
 unfold endL
 rw [if_neg (by omega)]
theorem endV_some {v r:List Node} {k:Nat} (hk:k≤v.length) (h:r=v.drop k):endV v (some r)=(k:Int):=by
 subst h
 show (v.length:Int) - ((v.drop k).length:Int)=k
 rw [List.length_drop]
 omega
end Vl
set_option maxRecDepth 100000 in
set_option maxHeartbeats 16000000 in
theorem vend_any (vs:Value) (v:List Vl.Node) (a:Int) (w:World) (hv:Vl.ValR w none vs v) (hl:v.length≤100000) :
  Calls Tryz.prog 19 #[vs,.int .i64 a] w fun e w'=>e=.returned (.int .i64 (Vl.endV v (Vl.endAt v a)))∧w'=w:=by
 obtain ⟨R,HR⟩:∃ R,Hid (Vl.endAt v a=R):=⟨_,Lib.hid rfl⟩
 rw [HR.out]
 obtain ⟨A,n,c,rfl⟩:=ERow.is hv
 have HN:Hid (n=v.length):=Lib.hid (by obtain ⟨_,_,e,_⟩:=ERow.slice hv;injection e)
 have hn:n≤100000:=by rw [HN.out];exact hl
 have HV:=Lib.hid hv
 clear hv hl
 by_cases h0:a < 0
 case pos =>
  have HE:Hid (R=none):=Lib.hid (by rw [← HR.out];exact Vl.endAt_neg v h0)
  go_enter Tryz.func19,Tryz.ntmps19
  go_wp2_with fail
  go_ret
  exact ⟨by rw [HE.out];rfl,rfl⟩
 by_cases h1:(n:Int)≤a
 case pos =>
  have HE:Hid (R=none):=Lib.hid (by rw [← HR.out];exact Vl.endAt_far v (by rw [← HN.out];exact h1))
  go_enter Tryz.func19,Tryz.ntmps19
  go_wp2_with fail
  go_ret
  exact ⟨by rw [HE.out];rfl,rfl⟩
 obtain ⟨k0,rfl⟩:∃ k:Nat,a=k:=⟨a.toNat,by omega⟩
 have hk0:k0≤n:=by omega
 have hk1:¬ n≤k0:=by omega
 have HS:Hid (Vl.endL n 1 (v.drop k0)=R):=Lib.hid (by rw [← HR.out,Vl.endAt_nat,← HN.out])
 clear HR
 go_enter Tryz.func19,Tryz.ntmps19
 go_wp2_with fail
 go_loopw [1,5] (fun i j wr=>∃ (k l:Nat),k≤n∧i=.int .i64 k∧j=.int .i64 l∧l≤1+k * 100000∧Hid (Vl.endL n l (v.drop k)=R)∧w=wr) (fun i _ _=>n - (intOf i).toNat)
 case atStart=>exact ⟨k0,1,hk0,rfl,rfl,by omega,HS,rfl⟩
 case round =>
  obtain ⟨k,l,hk,rfl,rfl,hl,HK,rfl⟩:=hrel
  have ik0:(0:Int)≤(k:Int):=by omega
  have hl2:l≤10000100001:=by omega
  cases l with
  | zero =>
   have HE:Hid (R=some (v.drop k)):=Lib.hid (by rw [← HK.out,Vl.endL_zero])
   try simp only [Int.cast_ofNat_Int] at *
   go_wp2_with fail
   go_ret
   exact ⟨by rw [HE.out,Vl.endV_some (by rw [← HN.out];exact hk) rfl];rfl,rfl⟩
  | succ m =>
   have t0:(0:Int) < ((m+1:Nat):Int):=by omega
   have t0n:0 < m+1:=by omega
   by_cases hlt:k < n
   case neg =>
    obtain rfl:k=n:=by omega
    have HE:Hid (R=none):=Lib.hid (by rw [← HK.out,List.drop_of_length_le (by rw [← HN.out];exact Nat.le_refl _)];rfl)
    go_wp2_with fail
    go_ret
    exact ⟨by rw [HE.out];rfl,rfl⟩
   have hka:k < v.length:=by rw [← HN.out];exact hlt
   obtain ⟨g,off,cs,rfl,-,e1,hc⟩:=ERow.get HV.out hka (by omega)
   obtain ⟨⟨nk,ni,nt,nd⟩,Hx⟩:∃ y,Hid (v[k]=y):=⟨_,Lib.hid rfl⟩
   have HD:Hid (v.drop k=⟨nk,ni,nt,nd⟩ :: v.drop (k+1)):=Lib.hid (by rw [List.drop_eq_getElem_cons hka,Hx.out])
   rw [Hx.out] at e1
   unfold Vl.NodE Vl.Node.cells at e1
   subst e1
   have a3:=hc 3 _ rfl
   have ik1:(k:Int) < (n:Int):=by omega
   clear hc Hx
   have t1:((k:Int) == (n:Int))=false:=by rw [beq_eq_false_iff_ne];omega
   have t1n:¬ (k:Int)=(n:Int):=by omega
   rw [HD.out] at HK
   by_cases hd0:nd < 0
   case pos =>
    have HE:Hid (R=none):=Lib.hid (by rw [← HK.out];exact Vl.endL_bad (.inl hd0))
    clear HK
    go_wp2_with fail
    go_ret
    exact ⟨by rw [HE.out];rfl,rfl⟩
   by_cases hd1:(n:Int) < nd
   case pos =>
    have HE:Hid (R=none):=Lib.hid (by rw [← HK.out];exact Vl.endL_bad (.inr hd1))
    clear HK
    go_wp2_with fail
    go_ret
    exact ⟨by rw [HE.out];rfl,rfl⟩
   obtain ⟨d,rfl⟩:∃ d:Nat,nd=d:=⟨nd.toNat,by omega⟩
   have hd2:d≤n:=by omega
   have hd3:¬ n < d:=by omega
   have HK2:Hid (Vl.endL n (m+d) (v.drop (k+1))=R):=Lib.hid (by rw [← HK.out];exact (Vl.endL_step rfl hd2).symm)
   have e1:((m+1:Nat):Int)+((d:Int) - 1)=((m+d:Nat):Int):=by omega
   clear HK
   go_wp2_with fail
   go_roundw
   case rel=>exact ⟨k+1,m+d,by omega,by go_num,by go_num,by omega,HK2,by first | rfl | trivial⟩
   case measure=>simp [intOf];omega
set_option maxRecDepth 100000 in
set_option maxHeartbeats 16000000 in
theorem rend_any (vs:Value) (v:List Vl.Node) (w:World) (hv:Vl.ValR w none vs v) (hl:v.length≤100000):∀ (M:Nat) (a:Int),(v.length:Int) - a < M →
  Calls Tryz.prog 20 #[vs,.int .i64 a] w fun e w'=>e=.returned (.int .i64 (Vl.endV v (Vl.endAt v a)))∧w'=w:=by
 intro M
 induction M with
 | zero =>
  intro a hM
  obtain ⟨R,HR⟩:∃ R,Hid (Vl.endAt v a=R):=⟨_,Lib.hid rfl⟩
  rw [HR.out]
  obtain ⟨A,n,c,rfl⟩:=ERow.is hv
  have HN:Hid (n=v.length):=Lib.hid (by obtain ⟨_,_,e,_⟩:=ERow.slice hv;injection e)
  have hn:n≤100000:=by rw [HN.out];exact hl
  have HV:=Lib.hid hv
  clear hv hl
  have h0:¬ a < 0:=by omega
  have h1:(n:Int)≤a:=by rw [HN.out];omega
  have HE:Hid (R=none):=Lib.hid (by rw [← HR.out];exact Vl.endAt_far v (by rw [← HN.out];exact h1))
  go_enter Tryz.func20,Tryz.ntmps20
  go_wp2_with fail
  go_ret
  exact ⟨by rw [HE.out];rfl,rfl⟩
 | succ M ih =>
  intro a hM
  obtain ⟨R,HR⟩:∃ R,Hid (Vl.endAt v a=R):=⟨_,Lib.hid rfl⟩
  rw [HR.out]
  have IH:=Lib.hid ih
  clear ih
  obtain ⟨A,n,c,rfl⟩:=ERow.is hv
  have HN:Hid (n=v.length):=Lib.hid (by obtain ⟨_,_,e,_⟩:=ERow.slice hv;injection e)
  have hn:n≤100000:=by rw [HN.out];exact hl
  have HV:=Lib.hid hv
  clear hv hl
  by_cases h0:a < 0
  case pos =>
   have HE:Hid (R=none):=Lib.hid (by rw [← HR.out];exact Vl.endAt_neg v h0)
   go_enter Tryz.func20,Tryz.ntmps20
   go_wp2_with fail
   go_ret
   exact ⟨by rw [HE.out];rfl,rfl⟩
  by_cases h1:(n:Int)≤a
  case pos =>
   have HE:Hid (R=none):=Lib.hid (by rw [← HR.out];exact Vl.endAt_far v (by rw [← HN.out];exact h1))
   go_enter Tryz.func20,Tryz.ntmps20
   go_wp2_with fail
   go_ret
   exact ⟨by rw [HE.out];rfl,rfl⟩
  obtain ⟨k,rfl⟩:∃ k:Nat,a=k:=⟨a.toNat,by omega⟩
  have hlt:k < n:=by omega
  have hk1:¬ n≤k:=by omega
  have hM2:(n:Int) - k < M+1:=by rw [HN.out];exact_mod_cast hM
  have ik0:(0:Int)≤(k:Int):=by omega
  have HK:Hid (Vl.endL n 1 (v.drop k)=R):=Lib.hid (by rw [← HR.out,Vl.endAt_nat,← HN.out])
  clear HR hM
  have hka:k < v.length:=by rw [← HN.out];exact hlt
  obtain ⟨g,off,cs,rfl,-,e1,hc⟩:=ERow.get HV.out hka (by omega)
  obtain ⟨⟨nk,ni,nt,nd⟩,Hx⟩:∃ y,Hid (v[k]=y):=⟨_,Lib.hid rfl⟩
  have HD:Hid (v.drop k=⟨nk,ni,nt,nd⟩ :: v.drop (k+1)):=Lib.hid (by rw [List.drop_eq_getElem_cons hka,Hx.out])
  rw [Hx.out] at e1
  unfold Vl.NodE Vl.Node.cells at e1
  subst e1
  have a3:=hc 3 _ rfl
  have ik1:(k:Int) < (n:Int):=by omega
  clear hc Hx
  rw [HD.out] at HK
  by_cases hd0:nd < 0
  case pos =>
   have HE:Hid (R=none):=Lib.hid (by rw [← HK.out];exact Vl.endL_bad (.inl hd0))
   clear HK
   go_enter Tryz.func20,Tryz.ntmps20
   go_wp2_with fail
   go_ret
   exact ⟨by rw [HE.out];rfl,rfl⟩
  by_cases hd1:(n:Int) < nd
  case pos =>
   have HE:Hid (R=none):=Lib.hid (by rw [← HK.out];exact Vl.endL_bad (.inr hd1))
   clear HK
   go_enter Tryz.func20,Tryz.ntmps20
   go_wp2_with fail
   go_ret
   exact ⟨by rw [HE.out];rfl,rfl⟩
  obtain ⟨d,rfl⟩:∃ d:Nat,nd=d:=⟨nd.toNat,by omega⟩
  have hd2:d≤n:=by omega
  have hd3:¬ n < d:=by omega
  have HS:Hid (Vl.endL n d (v.drop (k+1))=R):=Lib.hid (by rw [← HK.out,Vl.endL_step rfl hd2,Nat.zero_add])
  clear HK
  go_enter Tryz.func20,Tryz.ntmps20
  go_wp2_with fail
  go_loopw [6,7] (fun q i wr=>∃ (p j:Nat),p≤n∧k < p∧j≤d∧q=.int .i64 p∧i=.int .i64 j∧Hid (Vl.endL n (d - j) (v.drop p)=R)∧w=wr) (fun _ i _=>d - (intOf i).toNat)
  case atStart=>exact ⟨k+1,0,by omega,by omega,by omega,by go_num,rfl,HS,rfl⟩
  case round =>
   obtain ⟨p,j,hp,hkp,hj,rfl,rfl,HK,rfl⟩:=hrel
   by_cases hjd:j < d
   case neg =>
    obtain rfl:j=d:=by omega
    have HE:Hid (R=some (v.drop p)):=Lib.hid (by rw [← HK.out,Nat.sub_self,Vl.endL_zero])
    go_wp2_with fail
    go_ret
    exact ⟨by rw [HE.out,Vl.endV_some (by rw [← HN.out];exact hp) rfl];rfl,rfl⟩
   have hKK:Vl.endL n (1+(d - (j+1))) (v.drop p)=R:=by rw [← HK.out];congr 1;omega
   rw [Vl.endL_add] at hKK
   go_wp2_with fail
   refine (IH.out (p:Int) (by rw [← HN.out];omega)).mono ?_
   rw [Vl.endAt_nat,← HN.out]
   rintro e W ⟨rfl,rfl⟩
   cases hq:Vl.endL n 1 (v.drop p) with
   | none =>
    have HE:Hid (R=none):=Lib.hid (by rw [← hKK,hq];rfl)
    clear hKK
    have e1:Vl.endV v none=-1:=rfl
    rw [e1]
    go_wp2_with fail
    go_ret
    exact ⟨by rw [HE.out];rfl,rfl⟩
   | some r =>
    obtain ⟨h1,h2⟩:=Vl.endL_len hq
    rw [List.length_drop,← HN.out] at h1 h2
    obtain ⟨z,hz⟩:∃ z,z=n - r.length:=⟨_,rfl⟩
    have hr:r=v.drop z:=by rw [h2,List.drop_drop];congr 1;omega
    have e1:Vl.endV v (some r)=(z:Int):=by show (v.length:Int) - (r.length:Int)=(z:Int);rw [← HN.out];omega
    rw [e1]
    have HK2:Hid (Vl.endL n (d - (j+1)) (v.drop z)=R):=Lib.hid (by rw [← hKK,hq,← hr];rfl)
    have hz1:z≤n:=by omega
    have hz2:k < z:=by omega
    have hz3:¬ (z:Int) < 0:=by omega
    clear hKK hq h1 h2 hz hr e1
    go_wp2_with fail
    go_roundw
    case rel=>exact ⟨z,j+1,hz1,hz2,by omega,rfl,by go_num,HK2,by first | rfl | trivial⟩
    case measure=>simp [intOf];omega
end Go.Proofs.YtgefichiillehaaGreatDoor
set_option linter.unusedVariables false
set_option linter.unusedSimpArgs false
namespace Go.Proofs.YtgefichiillehaaGreatDoor
open Go.RowKit Go.BigFrame
namespace Vl
open Go.Proofs.YtgefichiillehaaGreatDoor.Id Go.Proofs.YtgefichiillehaaGreatDoor.Chk Go.Proofs.YtgefichiillehaaGreatDoor.Prn
theorem kids_more {s:Sch} {lim lim':Nat} {x:Srt} {t:List Srt} {n:Node} {ks:List (List Srt)} (h:kidsOf s lim x t n=some ks) (hl:lim≤lim'):kidsOf s lim' x t n=some ks:=by
 unfold kidsOf at h ⊢
 split at h
 ·rename_i h56
  rw [if_pos h56]
  unfold kidsWrap at h ⊢
  split at h
  ·rename_i h1
   rw [if_pos ⟨h1.1,h1.2.1,h1.2.2.1,h1.2.2.2.1,by have:=h1.2.2.2.2;have h2:wlim lim x.kind≤wlim lim' x.kind:=(by unfold wlim;split <;> omega);omega⟩]
   exact h
  ·cases h
 ·rename_i h56
  rw [if_neg h56]
  exact h
/-- Parts behind make no difference. -/
theorem of_app {s:Sch} (m:List Node):∀ (k:Nat) (t:List Srt) (r:List Node) (d:Nat) (r':List Node) (k':Nat),ofF s none k t r=some (d,r')→k≤k'→ofF s none k' t (r++m)=some (d,r'++m)
 | 0,t,r,d,r',k',h,hk=>by unfold ofF at h;cases h
 | k+1,[],r,d,r',k',h,hk=>by unfold ofF at h;cases h
 | k+1,x :: t,[],d,r',k',h,hk=>by unfold ofF at h;cases h
 | k+1,x :: t,n :: r,d,r',k',h,hk=>by
  obtain ⟨j,rfl⟩:∃ j,k'=j+1:=⟨k' - 1,by omega⟩
  have hm:∀ (ts:List (List Srt)) (d:Nat) (q:List Node) (e:Nat) (q':List Node),manyF (ofF s none k) ts d q=some (e,q')→manyF (ofF s none j) ts d (q++m)=some (e,q'++m):=fun ts=>by
   induction ts with
   | nil =>
    intro d q e q' h
    injection h with h
    injection h with h1 h2
    subst h1 h2
    rfl
   | cons t ts ih =>
    intro d q e q' h
    unfold manyF at h ⊢
    split at h
    ·cases h
    ·rename_i p hp
     obtain ⟨a,b⟩:=p
     rw [of_app m k t q a b j hp (by omega)]
     exact ih _ _ _ _ h
  rw [List.cons_append]
  unfold ofF at h ⊢
  split at h
  ·rename_i h1
   rw [if_pos h1]
   split at h
   ·rename_i hl
    rw [if_pos hl]
    injection h with h
    injection h with h2 h3
    subst h2 h3
    rfl
   ·cases h
  ·rename_i h1
   rw [if_neg h1]
   simp only [Option.getD_none] at h ⊢
   obtain ⟨ks,e,hks,rfl,h2⟩:=stepK_some h
   rw [kids_more hks (by rw [List.length_append];omega)]
   show up (manyF (ofF s none j) ks 0 (r++m))=_
   rw [hm ks 0 r e r' h2]
   rfl
theorem fits_ok {s:Sch} {t:List Srt} {v:List Node} (h:fits s t v=0):Right s∧right s t=true∧∃ d,ofF s none (v.length+1) t v=some (d,[])∧d≤12∧size v≤4096:=by
 unfold fits at h
 split at h
 ·rename_i h1
  exact absurd h h1
 ·rename_i h1
  split at h
  ·cases h
  ·rename_i h2
   refine ⟨check_ok (by omega),by simpa using h2,?_⟩
   split at h
   ·cases h
   ·rename_i p hp
    obtain ⟨d,r⟩:=p
    split at h
    ·cases h
    ·rename_i h3
     split at h
     ·cases h
     ·rename_i h4
      split at h
      ·cases h
      ·rename_i h5
       simp only at h3 h4
       obtain rfl:r=[]:=List.length_eq_zero_iff.1 (by omega)
       exact ⟨d,hp,by omega,by omega⟩
theorem fits_none {s:Sch} {t:List Srt} {v:List Node} (h1:Right s) (h2:right s t=true) (h3:∀ d,ofF s none (v.length+1) t v ≠ some (d,[])):fits s t v=150:=by
 unfold fits
 rw [if_neg (by rw [check_right h1];exact fun h=>h rfl),if_neg (by rw [h2];decide)]
 split
 ·rfl
 ·rename_i p hp
  obtain ⟨d,r⟩:=p
  rw [if_pos]
  intro hr
  obtain rfl:r=[]:=List.length_eq_zero_iff.1 hr
  exact h3 d hp
theorem fits_end {s:Sch} {t:List Srt} {v:List Node} (h:fits s t v=0):v ≠ []∧endL v.length 1 v=some []:=by
 obtain ⟨_,_,d,h1,_,_⟩:=fits_ok h
 obtain ⟨_,h2,h3⟩:=of_len (N:=v.length) _ t v d [] (Nat.le_refl _) h1
 refine ⟨fun e=>?_,h3⟩
 subst e
 simp at h2
theorem fits_more {s:Sch} {t:List Srt} {v:List Node} (h:fits s t v=0) (n:Node):fits s t (v++[n])=150:=by
 obtain ⟨h1,h2,d,h3,_,_⟩:=fits_ok h
 refine fits_none h1 h2 (fun e he=>?_)
 have:=of_app [n] _ t v d [] ((v++[n]).length+1) h3 (by rw [List.length_append];omega)
 rw [this] at he
 injection he with he
 injection he with _ he
 cases he
theorem fits_less {s:Sch} {t:List Srt} {v:List Node} (h:fits s t v=0):fits s t (v.take (v.length - 1))=150:=by
 obtain ⟨h1,h2,d,h3,_,_⟩:=fits_ok h
 have hv:=(fits_end h).1
 refine fits_none h1 h2 (fun e he=>?_)
 have e1:v.take (v.length - 1)++[v.getLast hv]=v:=by
  rw [← List.dropLast_eq_take]
  exact List.dropLast_concat_getLast hv
 have:=of_app [v.getLast hv] _ t _ e [] (v.length+1) he (by rw [List.length_take];omega)
 rw [e1,h3] at this
 injection this with this
 injection this with _ this
 cases this
/-- A list or an opt of one. -/
def wrapN (k:Nat):Node:=⟨k,0,⟨#[]⟩,1⟩
def wrapS (k:Nat):Srt:=⟨k,⟨#[]⟩⟩
theorem of_wrap {s:Sch} {k:Nat} (hk:k=5∨k=6) (f:Nat) (t:List Srt) (v:List Node) (hf:v.length < f) (ht:t ≠ []):ofF s none (f+1) (wrapS k :: t) (wrapN k :: v)=up (ofF s none f t v):=by
 obtain ⟨y,l,rfl⟩:∃ y l,t=y :: l:=List.exists_cons_of_ne_nil ht
 conv=>lhs;unfold ofF
 rw [if_neg (by unfold wrapS;simp only;omega)]
 simp only [Option.getD_none]
 unfold kidsOf
 rw [if_pos (show (wrapS k).kind=5∨(wrapS k).kind=6 from hk)]
 unfold kidsWrap
 cases v with
 | nil =>
  obtain ⟨f,rfl⟩:∃ g,f=g+1:=⟨f - 1,by simp at hf;omega⟩
  have e0:ofF s none (f+1) (y :: l) []=none:=by unfold ofF;rfl
  rw [e0]
  have he:(⟨#[]⟩:ByteArray).toList.isEmpty=true:=by decide +kernel
  rcases hk with rfl | rfl
  ·rw [if_neg (fun h=>absurd h.2.2.2.2 (by decide))]
   rfl
  ·rw [if_pos ⟨rfl,rfl,he,by decide,by decide⟩]
   show up (manyF (ofF s none (f+1)) [y :: l] 0 [])=_
   unfold manyF
   rw [e0]
 | cons n v =>
  have he:(⟨#[]⟩:ByteArray).toList.isEmpty=true:=by decide +kernel
  have hc:(wrapN k).kind=(wrapS k).kind∧(wrapN k).int=0∧(wrapN k).text.toList.isEmpty=true∧0≤(wrapN k).kids∧(wrapN k).kids≤(wlim (n :: v).length (wrapS k).kind:Int):=by
   refine ⟨rfl,rfl,he,by unfold wrapN;simp,?_⟩
   unfold wrapN wlim
   simp only [List.length_cons]
   split <;> omega
  rw [if_pos hc]
  show up (manyF (ofF s none f) [y :: l] 0 (n :: v))=_
  unfold manyF
  cases hp:ofF s none f (y :: l) (n :: v) with
  | none=>rfl
  | some p =>
   obtain ⟨d,r⟩:=p
   show up (some (max 0 d,r))=_
   rw [Nat.zero_max]
theorem size_wrap (k:Nat) (v:List Node):size (wrapN k :: v)=size v+1:=by
 unfold size wrapN
 simp only [List.length_cons,List.map_cons,List.sum_cons]
 show v.length+1+(0+_)=_
 omega
theorem right_wrap {s:Sch} {k:Nat} (hk:k=5∨k=6) (t:List Srt):right s (wrapS k :: t)=(decide (t.length+1≤12) && okT s t):=by
 unfold right
 rw [List.length_cons]
 congr 1
 cases t with
 | nil =>
  show fin s (wrapS k)=false
  unfold fin wrapS
  rw [if_neg (by simp only;omega),if_neg (by simp only;omega)]
 | cons y l =>
  show (mid (wrapS k) && okT s (y :: l))=_
  have:mid (wrapS k)=true:=by rcases hk with rfl | rfl <;> decide +kernel
  rw [this,Bool.true_and]
theorem wraps_long {s:Sch} {k:Nat} (hk:k=5∨k=6) {t:List Srt} (v:List Node) (hl:12 < t.length+1):fits s (wrapS k :: t) (wrapN k :: v) ≠ 0:=fun h=>by
 have:=(fits_ok h).2.1
 rw [right_wrap hk,decide_eq_false (by omega)] at this
 cases this
theorem wraps {s:Sch} {k:Nat} (hk:k=5∨k=6) {t:List Srt} (v:List Node) (hl:t.length+1≤12) {e f:Nat} (he:fits s t v=e) (hf:fits s (wrapS k :: t) (wrapN k :: v)=f) :
  (e=0→f=0∨f=151∨f=3)∧(e ≠ 0→f=e∨(e=3∧f=151)):=by
 have hr:right s (wrapS k :: t)=right s t:=by
  rw [right_wrap hk]
  unfold right
  rw [decide_eq_true (show t.length+1≤12 from hl),decide_eq_true (show t.length≤12 by omega)]
 unfold fits at he hf
 rw [hr] at hf
 split at he
 ·rename_i h1
  rw [if_pos h1] at hf
  subst he hf
  exact ⟨fun h=>absurd h h1,fun _=>.inl rfl⟩
 ·rename_i h1
  rw [if_neg h1] at hf
  split at he
  ·rename_i h2
   rw [if_pos h2] at hf
   subst he hf
   exact ⟨fun h=>(by cases h),fun _=>.inl rfl⟩
  ·rename_i h2
   rw [if_neg h2] at hf
   have ht:t ≠ []:=okT_ne (right_okT (by simpa using h2)).1
   rw [List.length_cons,of_wrap hk (v.length+1) t v (by omega) ht,size_wrap] at hf
   cases hp:ofF s none (v.length+1) t v with
   | none =>
    rw [hp] at he hf
    simp only [up,Option.map_none] at he hf
    subst he hf
    exact ⟨fun h=>(by cases h),fun _=>.inl rfl⟩
   | some p =>
    rw [hp] at he hf
    simp only [up,Option.map_some] at he hf
    split at he
    ·rename_i h3
     rw [if_pos h3] at hf
     subst he hf
     exact ⟨fun h=>(by cases h),fun _=>.inl rfl⟩
    ·rename_i h3
     rw [if_neg h3] at hf
     split at he
     ·rename_i h4
      rw [if_pos (by omega)] at hf
      subst he hf
      exact ⟨fun h=>(by cases h),fun _=>.inl rfl⟩
     ·rename_i h4
      split at he
      ·rename_i h5
       subst he
       refine ⟨fun h=>(by cases h),fun _=>?_⟩
       split at hf
       ·subst hf;exact .inr ⟨rfl,rfl⟩
       ·rw [if_pos (by omega)] at hf
        exact .inl hf.symm
      ·rename_i h5
       subst he
       refine ⟨fun _=>?_,fun h=>absurd rfl h⟩
       split at hf
       ·exact .inr (.inl hf.symm)
       ·split at hf
        ·exact .inr (.inr hf.symm)
        ·exact .inl hf.symm
/-- A whole by itself. -/
theorem endL_cut {N M:Nat}:∀ {r:List Node} {a:Nat} {r':List Node},endL N a r=some r'→r.length - r'.length≤M→endL M a (r.take (r.length - r'.length))=some []
 | r,0,r',h,hM=>by
  have:endL N 0 r=some r:=by cases r <;> rfl
  rw [this] at h
  injection h with h
  subst h
  rw [Nat.sub_self,List.take_zero]
  rfl
 | [],a+1,r',h,hM=>by cases h
 | n :: r,a+1,r',h,hM=>by
  unfold endL at h
  split at h
  ·rename_i hn
   obtain ⟨h1,h2⟩:=endL_len h
   rw [List.length_cons] at hM ⊢
   rw [show r.length+1 - r'.length=(r.length - r'.length)+1 by omega,List.take_succ_cons]
   unfold endL
   rw [if_pos ⟨hn.1,by omega⟩]
   exact endL_cut h (by omega)
  ·cases h
theorem field_whole {N:Nat} {fn:ByteArray}:∀ {fs:List Fld} {r:List Node} {a:List Node},fieldL N fn fs r=some a→a ≠ []∧endL a.length 1 a=some []
 | [],r,a,h=>by cases h
 | f :: fs,r,a,h=>by
  unfold fieldL at h
  split at h
  ·cases h
  ·rename_i r' hr
   split at h
   ·injection h with h
    obtain ⟨h1,h2⟩:=endL_len hr
    have hl:a.length=r.length - r'.length:=by rw [← h,List.length_take];omega
    refine ⟨fun e=>by rw [e] at hl;simp at hl;omega,?_⟩
    rw [hl,← h]
    exact endL_cut hr (Nat.le_refl _)
   ·exact field_whole h
end Vl
end Go.Proofs.YtgefichiillehaaGreatDoor
set_option linter.unusedVariables false
set_option linter.unusedSimpArgs false
namespace Go.Proofs.YtgefichiillehaaGreatDoor
open Go.RowKit Go.BigFrame
namespace Vl
open Go.Proofs.YtgefichiillehaaGreatDoor.Id Go.Proofs.YtgefichiillehaaGreatDoor.Chk Go.Proofs.YtgefichiillehaaGreatDoor.Prn
def lvQ (p:List Srt→Bool) (r:Rec):Bool:=if r.choice then r.fields.any (fun f=>p f.type) else r.fields.all (fun f=>p f.type)
/-- Is there a value of a type that is at most so deep? -/
def lvT (s:Sch):Nat→List Srt→Bool
 | 0,_=>false
 | _+1,[]=>false
 | d+1,x :: _=>if x.kind=7 then (match find s x.name with | none=>false | some r=>lvQ (lvT s d) r) else true
/-- Depths as they are known: of each name, 0 if none is. -/
abbrev Kn:=ByteArray→Nat
def dpt (kn:Kn) (t:List Srt):Nat:=match t with
 | []=>0
 | x :: _=>if x.kind=7 then kn x.name else 1
structure LstS where
 best:Nat
 worst:Nat
 miss:Bool
def lstStep (kn:Kn) (a:LstS) (f:Fld):LstS :=
 ⟨if 0 < dpt kn f.type∧(a.best=0∨dpt kn f.type < a.best) then dpt kn f.type else a.best,max a.worst (dpt kn f.type),a.miss || dpt kn f.type == 0⟩
def lstF (kn:Kn) (r:Rec):LstS:=r.fields.foldl (lstStep kn) ⟨0,0,false⟩
def lstD (kn:Kn) (r:Rec):Nat × Bool:=if r.choice then ((lstF kn r).best+1,decide (0 < (lstF kn r).best)) else ((lstF kn r).worst+1,!(lstF kn r).miss)
/-- What the fold finds. -/
theorem lst_fold (kn:Kn):∀ (l:List Fld) (a:LstS),
  (∀ d,(l.foldl (lstStep kn) a).worst≤d ↔ a.worst≤d∧∀ f ∈ l,dpt kn f.type≤d) ∧
  ((l.foldl (lstStep kn) a).miss=true ↔ a.miss=true∨∃ f ∈ l,dpt kn f.type=0) ∧
  ((l.foldl (lstStep kn) a).best=0 ↔ a.best=0∧∀ f ∈ l,dpt kn f.type=0) ∧
  (∀ f ∈ l,dpt kn f.type ≠ 0→(l.foldl (lstStep kn) a).best≤dpt kn f.type) ∧
  (a.best ≠ 0→(l.foldl (lstStep kn) a).best≤a.best) ∧
  ((l.foldl (lstStep kn) a).best ≠ a.best→∃ f ∈ l,dpt kn f.type=(l.foldl (lstStep kn) a).best)
 | [],a=>by simp
 | f :: l,a=>by
  obtain ⟨h1,h2,h3,h4,h5,h6⟩:=lst_fold kn l (lstStep kn a f)
  rw [List.foldl_cons]
  have hb:(lstStep kn a f).best=if 0 < dpt kn f.type∧(a.best=0∨dpt kn f.type < a.best) then dpt kn f.type else a.best:=rfl
  have hw:(lstStep kn a f).worst=max a.worst (dpt kn f.type):=rfl
  have hm:(lstStep kn a f).miss=(a.miss || dpt kn f.type == 0):=rfl
  generalize (l.foldl (lstStep kn) (lstStep kn a f))=b at *
  generalize lstStep kn a f=c at *
  refine ⟨fun d=>?_,?_,?_,?_,?_,?_⟩
  ·rw [h1 d,hw]
   simp only [List.mem_cons,forall_eq_or_imp]
   constructor
   ·rintro ⟨a1,a2⟩;exact ⟨by omega,by omega,a2⟩
   ·rintro ⟨a1,a2,a3⟩;exact ⟨by omega,a3⟩
  ·rw [h2,hm]
   simp only [List.mem_cons,exists_eq_or_imp,Bool.or_eq_true,beq_iff_eq,or_assoc]
  ·rw [h3,hb]
   simp only [List.mem_cons,forall_eq_or_imp]
   split <;> constructor <;> (rintro ⟨a1,a2⟩) <;> first | (exact ⟨by omega,by omega,a2⟩) | (exact ⟨by omega,a2.2⟩) | omega
  ·intro g hg hd
   rcases List.mem_cons.1 hg with rfl | hg
   ·by_cases hc:c.best=0
    ·rw [hb] at hc
     split at hc <;> omega
    ·have:=h5 hc
     rw [hb] at this
     split at this <;> omega
   ·exact h4 g hg hd
  ·intro ha
   by_cases hc:c.best=0
   ·rw [hb] at hc
    split at hc <;> omega
   ·have:=h5 hc
    rw [hb] at this
    split at this <;> omega
  ·intro hne
   by_cases hc:b.best=c.best
   ·refine ⟨f,by simp,?_⟩
    rw [hc,hb]
    rw [hc,hb] at hne
    split at hne
    ·rename_i h;rw [if_pos h]
    ·exact absurd rfl hne
   ·obtain ⟨g,hg,he⟩:=h6 hc
    exact ⟨g,by simp [hg],he⟩
/-- The least depths. -/
def Min (s:Sch) (kn:Kn):Prop:=∀ n,(kn n ≠ 0→lvT s (kn n) [⟨7,n⟩]=true)∧∀ d,lvT s d [⟨7,n⟩]=true→kn n ≠ 0∧kn n≤d
def Sd (s:Sch) (kn:Kn):Prop:=∀ n,kn n ≠ 0→lvT s (kn n) [⟨7,n⟩]=true
theorem lvT_head {s:Sch} {d:Nat} {x:Srt} {t:List Srt}:lvT s d (x :: t)=lvT s d [x]:=by
 cases d with
 | zero=>rfl
 | succ d=>rfl
theorem lvT_name {s:Sch} {d:Nat} {x:Srt} (h:x.kind=7):lvT s d [x]=lvT s d [⟨7,x.name⟩]:=by
 obtain ⟨k,n⟩:=x
 simp only at h
 subst h
 rfl
theorem Sd.dpt {s:Sch} {kn:Kn} (h:Sd s kn) {t:List Srt} (hd:dpt kn t ≠ 0):lvT s (dpt kn t) t=true:=by
 cases t with
 | nil=>exact absurd rfl hd
 | cons x t =>
  rw [lvT_head]
  unfold Vl.dpt at hd ⊢
  simp only at hd ⊢
  by_cases h7:x.kind=7
  ·rw [if_pos h7] at hd ⊢
   rw [lvT_name h7]
   exact h _ hd
  ·rw [if_neg h7]
   unfold lvT
   rw [if_neg h7]
theorem Min.dpt {s:Sch} {kn:Kn} (h:Min s kn) {t:List Srt} {d:Nat} (hd:lvT s d t=true):dpt kn t ≠ 0∧dpt kn t≤d:=by
 cases t with
 | nil=>cases d <;> (unfold lvT at hd;cases hd)
 | cons x t =>
  rw [lvT_head] at hd
  unfold Vl.dpt
  simp only
  by_cases h7:x.kind=7
  ·rw [if_pos h7]
   rw [lvT_name h7] at hd
   exact (h _).2 d hd
  ·rw [if_neg h7]
   cases d with
   | zero=>cases hd
   | succ d=>exact ⟨by omega,by omega⟩
/-- Where nothing changes any more, the depths are the least. -/
def Stop (s:Sch) (kn:Kn):Prop:=∀ r ∈ s.records,(lstD kn r).2=true→kn r.name ≠ 0∧kn r.name≤(lstD kn r).1
theorem Stop.le {s:Sch} {kn:Kn} (h:Stop s kn):∀ (d:Nat) (t:List Srt),lvT s d t=true→dpt kn t ≠ 0∧dpt kn t≤d
 | 0,t,hl=>by unfold lvT at hl;cases hl
 | d+1,[],hl=>by unfold lvT at hl;cases hl
 | d+1,x :: t,hl=>by
  unfold lvT at hl
  unfold dpt
  simp only
  split at hl
  ·rename_i h7
   rw [if_pos h7]
   split at hl
   ·cases hl
   ·rename_i r hr
    obtain ⟨hm,hn⟩:=find_name hr
    obtain ⟨h1,h2,h3,h4,h5,h6⟩:=lst_fold kn r.fields ⟨0,0,false⟩
    have e:r.fields.foldl (lstStep kn) ⟨0,0,false⟩=lstF kn r:=rfl
    rw [e] at h1 h2 h3 h4 h5 h6
    have hs:=h r hm
    rw [hn] at hs
    unfold lstD at hs
    unfold lvQ at hl
    cases hc:r.choice
    ·rw [hc] at hs hl
     simp only [Bool.false_eq_true,if_false] at hs hl
     have ha:=List.all_eq_true.1 hl
     have hmiss:(lstF kn r).miss=false:=by
      rw [Bool.eq_false_iff]
      intro hmi
      rcases h2.1 hmi with e | ⟨f,hf,e⟩
      ·cases e
      ·exact (Stop.le h d f.type (ha f hf)).1 e
     obtain ⟨a1,a2⟩:=hs (by rw [hmiss];rfl)
     refine ⟨a1,Nat.le_trans a2 ?_⟩
     have:=(h1 d).2 ⟨Nat.zero_le _,fun f hf=>(Stop.le h d f.type (ha f hf)).2⟩
     omega
    ·rw [hc] at hs hl
     simp only [if_true,decide_eq_true_eq] at hs hl
     obtain ⟨f,hf,hp⟩:=List.any_eq_true.1 hl
     obtain ⟨b1,b2⟩:=Stop.le h d f.type hp
     have hb:(lstF kn r).best ≠ 0:=fun e=>b1 ((h3.1 e).2 f hf)
     have hb2:=h4 f hf b1
     obtain ⟨a1,a2⟩:=hs (by omega)
     exact ⟨a1,by omega⟩
  ·rename_i h7
   rw [if_neg h7]
   exact ⟨by omega,by omega⟩
theorem Stop.min {s:Sch} {kn:Kn} (h:Stop s kn) (hs:Sd s kn):Min s kn:=fun n=>⟨hs n,fun d hd=>by
 have:=h.le d _ hd
 exact this⟩
end Vl
end Go.Proofs.YtgefichiillehaaGreatDoor
set_option linter.unusedVariables false
set_option linter.unusedSimpArgs false
namespace Go.Proofs.YtgefichiillehaaGreatDoor
open Go.RowKit Go.BigFrame
namespace Vl
open Go.Proofs.YtgefichiillehaaGreatDoor.Id Go.Proofs.YtgefichiillehaaGreatDoor.Chk Go.Proofs.YtgefichiillehaaGreatDoor.Prn
end Vl
end Go.Proofs.YtgefichiillehaaGreatDoor
set_option linter.unusedVariables false
set_option linter.unusedSimpArgs false
namespace Go.Proofs.YtgefichiillehaaGreatDoor
open Go.RowKit Go.BigFrame
namespace Vl
open Go.Proofs.YtgefichiillehaaGreatDoor.Id Go.Proofs.YtgefichiillehaaGreatDoor.Chk Go.Proofs.YtgefichiillehaaGreatDoor.Prn
theorem dblP_dist (rn:ByteArray):∀ {ns own:List ByteArray},(∀ t ∈ dblP rn ns own,t.1=true)→Dist own ns
 | [],own,_=>trivial
 | n :: ns,own,h=>by
  unfold dblP at h
  have h1:=h _ (List.mem_cons_self ..)
  refine ⟨by simpa using h1,dblP_dist rn (fun t ht=>h t (List.mem_cons_of_mem _ ht))⟩
theorem field_uniq {s:Sch} (h:Right s) {r:Rec} (hr:r ∈ s.records) {f g:Fld} (hf:f ∈ r.fields) (hg:g ∈ r.fields) (hn:f.name=g.name):f=g:=by
 have h1:=(dblR_dist.1 (right_iff.1 h).2.2.1).2.1 r hr
 have h2:=dblP_dist r.name h1
 have a:=find_self (·.name) h2 hf
 have b:=find_self (·.name) h2 hg
 try simp only at a b
 rw [hn] at a
 rw [a] at b
 injection b
/-- The first part of a value of a type. -/
theorem of_head {s:Sch} {k:Nat} {x:Srt} {t:List Srt} {n:Node} {r:List Node} {p:Nat × List Node} (ht:okT s (x :: t)=true) (h:ofF s none k (x :: t) (n :: r)=some p):(x.kind≤6→n.kind=x.kind)∧(x.kind=7→n.kind=7∨n.kind=8):=by
 cases k with
 | zero=>unfold ofF at h;cases h
 | succ k =>
  unfold ofF at h
  split at h
  ·rename_i hl
   split at h
   ·rename_i hlf
    unfold leaf at hlf
    simp only [Bool.and_eq_true,beq_iff_eq] at hlf
    exact ⟨fun _=>hlf.1.1.1,fun h7=>by omega⟩
   ·cases h
  ·rename_i hl
   obtain ⟨d,r'⟩:=p
   obtain ⟨ks,e,hks,-,-⟩:=stepK_some h
   unfold kidsOf at hks
   split at hks
   ·rename_i h56
    unfold kidsWrap at hks
    split at hks
    ·rename_i hc
     exact ⟨fun _=>hc.1,fun h7=>by omega⟩
    ·cases hks
   ·rename_i h56
    have hk:=okT_kind ht
    have h7:x.kind=7:=by omega
    refine ⟨fun h=>by omega,fun _=>?_⟩
    unfold kidsRec at hks
    split at hks
    ·split at hks
     ·rename_i hc;exact .inr hc.1
     ·cases hks
    ·split at hks
     ·rename_i hc;exact .inl hc.1
     ·cases hks
/-- A field that is told is a value of its type. -/
theorem field_at {s:Sch} {N k:Nat} {fn:ByteArray}:∀ (fs:List Fld) (d:Nat) (r:List Node) (e:Nat) (r':List Node),manyF (ofF s none k) (fs.map (·.type)) d r=some (e,r')→r.length≤N→∀ l,fieldL N fn fs r=some l →
  ∃ f ∈ fs,f.name=fn∧∃ d q,ofF s none k f.type (l++q)=some (d,q)∧l ≠ []
 | [],d,r,e,r',h,hN,l,hl=>by cases hl
 | f :: fs,d,r,e,r',h,hN,l,hl=>by
  rw [List.map_cons] at h
  unfold manyF at h
  split at h
  ·cases h
  ·rename_i p hp
   obtain ⟨a,q⟩:=p
   obtain ⟨h1,h2,h3⟩:=of_len k f.type r a q hN hp
   obtain ⟨h4,h5⟩:=endL_len h3
   unfold fieldL at hl
   rw [h3] at hl
   simp only at hl
   split at hl
   ·rename_i hn
    injection hl with hl
    have hr:r=l++q:=by
     rw [← hl]
     conv=>rhs;rhs;rw [h5]
     exact (List.take_append_drop _ _).symm
    refine ⟨f,by simp,Tk.text_eq (by simpa using hn),a,q,by rw [← hr];exact hp,?_⟩
    intro e0
    rw [e0] at hl
    have:=congrArg List.length hl
    rw [List.length_take] at this
    simp only [List.length_nil] at this
    omega
   ·obtain ⟨g,hg,hgn,rest⟩:=field_at fs _ q e r' h (by omega) l hl
    exact ⟨g,by simp [hg],hgn,rest⟩
/-- What a record's value is made of. -/
theorem fits_rec {s:Sch} {rn:ByteArray} {r:Rec} {v:List Node} (hf:find s rn=some r) (hc:r.choice=false) (h:fits s (nmd rn) v=0):∃ n q e,v=n :: q∧manyF (ofF s none v.length) (r.fields.map (·.type)) 0 q=some (e,[]):=by
 obtain ⟨h1,h2,d,h3,-,-⟩:=fits_ok h
 cases v with
 | nil=>unfold nmd ofF at h3;cases h3
 | cons n q =>
  unfold nmd at h3
  simp only [List.length_cons] at h3 ⊢
  unfold ofF at h3
  rw [if_neg (by simp)] at h3
  obtain ⟨ks,e,hks,-,hm⟩:=stepK_some h3
  unfold kidsOf at hks
  rw [if_neg (by simp),hf,Option.getD_some] at hks
  unfold kidsRec at hks
  rw [if_neg (by rw [hc];decide)] at hks
  split at hks
  ·injection hks with hks
   subst hks
   exact ⟨n,q,e,rfl,hm⟩
  ·cases hks
def wAcc:ByteArray:=⟨#[97,99,99,111,117,110,116]⟩
def wAmt:ByteArray:=⟨#[97,109,111,117,110,116]⟩
def ordV (a b:Option (List Node)):Option (ByteArray × Int):=match a,b with
 | some (x :: _),some (y :: _)=>some (x.text,y.int)
 | _,_=>none
def ordT (a b:Option (List Node)):Option (ByteArray × Int):=match a,b with
 | some (x :: _),some (y :: _)=>if x.kind=4∧y.kind=3 then some (x.text,y.int) else none
 | _,_=>none
/-- An order's account and amount: as the program has them, and as the document. -/
noncomputable def ordP (s:Sch) (rn:ByteArray) (v:List Node):Option (ByteArray × Int):=ordT (field s rn v wAcc) (field s rn v wAmt)
noncomputable def ordD (s:Sch) (rn:ByteArray) (v:List Node):Option (ByteArray × Int):=if order s rn=true then ordV (field s rn v wAcc) (field s rn v wAmt) else none
theorem field_some {s:Sch} {rn fn:ByteArray} {v l:List Node} (h:field s rn v fn=some l):∃ r,find s rn=some r∧r.choice=false∧fits s (nmd rn) v=0∧fieldL v.length fn r.fields (v.drop 1)=some l:=by
 unfold field at h
 split at h
 ·cases h
 ·rename_i r hr
  split at h
  ·cases h
  ·rename_i hc
   split at h
   ·cases h
   ·rename_i hf
    exact ⟨r,hr,by simpa using hc,by simpa using hf,h⟩
theorem only_iff {t:List Srt} {k:Nat}:only t k=true ↔ ∃ x,t=[x]∧x.kind=k:=by
 unfold only
 split
 ·rename_i x
  rw [beq_iff_eq]
  exact ⟨fun h=>⟨x,rfl,h⟩,fun ⟨y,hy,hk⟩=>by injection hy with hy;rw [hy];exact hk⟩
 ·rename_i h
  refine ⟨fun h=>(by cases h),fun ⟨x,hx,_⟩=>?_⟩
  exact absurd hx (h x)
/-- A field of a right record: its first part's kind tells its type, if that has no others. -/
theorem field_kind {s:Sch} (hR:Right s) {rn fn:ByteArray} {r:Rec} {v l:List Node} (hf:find s rn=some r) (hc:r.choice=false) (h0:fits s (nmd rn) v=0) (hl:fieldL v.length fn r.fields (v.drop 1)=some l) {k:Nat} (hk:k=3∨k=4) :
  ∃ x q,l=x :: q∧((x.kind=k) ↔ ∃ f ∈ r.fields,f.name=fn∧only f.type k=true):=by
 obtain ⟨n,q,e,rfl,hm⟩:=fits_rec hf hc h0
 obtain ⟨f,hfm,hfn,d,q',ho,hne⟩:=field_at (N:=(n :: q).length) r.fields 0 q e [] hm (by simp) l hl
 obtain ⟨x,l',rfl⟩:=List.exists_cons_of_ne_nil hne
 refine ⟨x,l',rfl,?_⟩
 have hrm:=(find_name hf).1
 have hokt:=(right_okT (field_right hR hrm hfm)).1
 obtain ⟨y,t,ht⟩:=List.exists_cons_of_ne_nil (okT_ne hokt)
 rw [ht] at ho hokt
 rw [List.cons_append] at ho
 obtain ⟨h1,h2⟩:=of_head hokt ho
 have hk7:=okT_kind hokt
 constructor
 ·intro hx
  have hyk:y.kind=k:=by
   rcases hk7 with h | h | h | h
   ·rw [← h1 (by omega)];exact hx
   ·have:=h1 (by omega);omega
   ·have:=h1 (by omega);omega
   ·have:=h2 h.1;omega
  have ht0:t=[]:=by
   cases t with
   | nil=>rfl
   | cons z t =>
    have:(mid y && okT s (z :: t))=true:=hokt
    rw [Bool.and_eq_true] at this
    have:=this.1
    unfold mid at this
    simp only [Bool.and_eq_true,Bool.or_eq_true,beq_iff_eq] at this
    omega
  exact ⟨f,hfm,hfn,only_iff.2 ⟨y,by rw [ht,ht0],hyk⟩⟩
 ·rintro ⟨g,hgm,hgn,hg⟩
  obtain rfl:=field_uniq hR hrm hgm hfm (by rw [hgn,hfn])
  obtain ⟨z,hz,hzk⟩:=only_iff.1 hg
  rw [ht] at hz
  injection hz with hz _
  subst hz
  rw [h1 (by omega)]
  exact hzk
theorem order_iff {s:Sch} {rn:ByteArray} {r:Rec} (hf:find s rn=some r) (hc:r.choice=false):order s rn=true ↔ (∃ f ∈ r.fields,f.name=wAcc∧only f.type 4=true)∧(∃ f ∈ r.fields,f.name=wAmt∧only f.type 3=true):=by
 have e1:wAcc.toList=[97,99,99,111,117,110,116]:=by decide +kernel
 have e2:wAmt.toList=[97,109,111,117,110,116]:=by decide +kernel
 unfold order
 rw [hf]
 simp only
 unfold orderR
 rw [hc]
 simp only [Bool.not_false,Bool.true_and,Bool.and_eq_true,List.any_eq_true]
 unfold isAcc isAmt
 simp only [Bool.and_eq_true,beq_iff_eq]
 rw [← e1,← e2]
 constructor
 ·rintro ⟨⟨f,hf,h1,h2⟩,g,hg,h3,h4⟩
  exact ⟨⟨f,hf,Tk.text_eq h1,h2⟩,g,hg,Tk.text_eq h3,h4⟩
 ·rintro ⟨⟨f,hf,h1,h2⟩,g,hg,h3,h4⟩
  exact ⟨⟨f,hf,by rw [h1],h2⟩,g,hg,by rw [h3],h4⟩
theorem ordT_none_l (b:Option (List Node)):ordT none b=none:=by cases b <;> rfl
theorem ordT_none_r (a:Option (List Node)):ordT a none=none:=by
 cases a with
 | none=>rfl
 | some l=>cases l <;> rfl
theorem ordV_none_l (b:Option (List Node)):ordV none b=none:=by cases b <;> rfl
theorem ordV_none_r (a:Option (List Node)):ordV a none=none:=by
 cases a with
 | none=>rfl
 | some l=>cases l <;> rfl
theorem ord_same (s:Sch) (rn:ByteArray) (v:List Node):ordP s rn v=ordD s rn v:=by
 unfold ordP ordD
 cases ha:field s rn v wAcc with
 | none=>rw [ordT_none_l,ordV_none_l];split <;> rfl
 | some a =>
  cases hb:field s rn v wAmt with
  | none=>rw [ordT_none_r,ordV_none_r];split <;> rfl
  | some b =>
   obtain ⟨r,hr,hc,h0,h1⟩:=field_some ha
   obtain ⟨r',hr',-,-,h2⟩:=field_some hb
   rw [hr] at hr'
   injection hr' with hr'
   subst hr'
   have hR:=(fits_ok h0).1
   obtain ⟨x,q,rfl,hx⟩:=field_kind hR hr hc h0 h1 (.inr rfl)
   obtain ⟨y,q',rfl,hy⟩:=field_kind hR hr hc h0 h2 (.inl rfl)
   have ho:=order_iff hr hc
   unfold ordT ordV
   simp only
   by_cases h:order s rn=true
   ·rw [if_pos h,if_pos ⟨hx.2 (ho.1 h).1,hy.2 (ho.1 h).2⟩]
   ·rw [if_neg h,if_neg (fun hk=>h (ho.2 ⟨hx.1 hk.1,hy.1 hk.2⟩))]
end Vl
end Go.Proofs.YtgefichiillehaaGreatDoor
