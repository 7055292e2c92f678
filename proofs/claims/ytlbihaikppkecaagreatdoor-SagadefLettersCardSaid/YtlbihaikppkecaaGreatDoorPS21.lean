/- redressref13: Contrary, before, num, Order, Right (printed by mk_rchk2.py). No condition. -/
import Derived.Test.YtlbihaikppkecaaGreatDoorPS20
import Derived.Test.YtlbihaikppkecaaGreatDoorPS05
set_option linter.unusedVariables false
set_option linter.unusedSimpArgs false
namespace Go.Proofs.YtlbihaikppkecaaGreatDoor
open Go.RowKit Go.BigFrame
set_option maxRecDepth 100000 in
set_option maxHeartbeats 4000000 in
theorem rcontrary_any (a b:ByteArray) (w:World) :
  Calls Tryz.prog 116 #[.string a,.string b] w fun e w'=>e=.returned (.bool (Chk.contraryB a b))∧w=w':=by
 have k1:Id.wGive.toList=[103,105,118,101]:=by decide +kernel
 have k2:Id.wTake.toList=[116,97,107,101]:=by decide +kernel
 have k3:Id.wNote.toList=[110,111,116,101]:=by decide +kernel
 unfold Chk.contraryB
 rw [k1,k2,k3]
 clear k1 k2 k3
 cases h1:(a.toList==[103,105,118,101]) <;> cases h2:(a.toList==[116,97,107,101]) <;> cases h3:(a.toList==[110,111,116,101]) <;> cases h4:(b.toList==[103,105,118,101]) <;> cases h5:(b.toList==[116,97,107,101]) <;> cases h6:(b.toList==[110,111,116,101])
 all_goals
  go_enter Tryz.func116,Tryz.ntmps116
  go_wp2_with fail
  go_ret
  exact ⟨rfl,rfl⟩
set_option maxRecDepth 100000 in
set_option maxHeartbeats 4000000 in
theorem rbefore_any (v:Value) (l:List ByteArray) (k:Nat) (hk:k<l.length) (w:World) (hv:StrsR w none v l) :
  Calls Tryz.prog 112 #[v,.int .i64 k] w fun e w'=>e=.returned (.bool (Chk.seenB (l.take k) l[k]))∧Below w.heap.size w w':=by
 obtain ⟨R,HR⟩:∃ R,Hid (Chk.seenB (l.take k) l[k]=R):=⟨_,Lib.hid rfl⟩
 rw [HR.out]
 obtain ⟨A,n,c,rfl⟩:=ERow.is hv
 have HN:Hid (n=l.length):=Lib.hid (by obtain ⟨_,_,e,_⟩:=ERow.slice hv;injection e)
 have hm:n≤9223372036854775807:=by obtain ⟨_,_,e,_,_⟩:=ERow.slice hv;injection e;omega
 have hkn:k<n:=by rw [HN.out];exact hk
 obtain ⟨g,off,cs,rfl,-,e1,hc⟩:=ERow.get hv hk (by omega)
 unfold StrE at e1
 subst e1
 have a0:=hc 0 _ rfl
 simp only [Nat.add_zero,Nat.mul_one] at a0
 obtain ⟨y,Hy⟩:∃ y,Hid (l[k]=y):=⟨_,Lib.hid rfl⟩
 rw [Hy.out] at HR a0
 have HK:=Lib.hid hk
 have HV:=Lib.hid hv
 clear hv hc Hy hk
 have ik:(0:Int)≤(k:Int):=by omega
 have ik2:(k:Int)<(n:Int):=by omega
 go_enter Tryz.func112,Tryz.ntmps112
 go_wp2_with fail
 go_loopw [5] (fun i wr=>∃ (j m:Nat),j≤k∧i=.int .i64 j∧wr=w.drewN m∧Hid (((l.take k).drop j).any (fun z=>z.toList==y.toList)=R)) (fun i _=>k - (intOf i).toNat)
 case atStart=>exact ⟨0,0,by omega,rfl,rfl,HR⟩
 case round =>
  obtain ⟨j,m,hj,rfl,rfl,HJ⟩:=hrel
  by_cases hjk:j<k
  case neg =>
   obtain rfl:j=k:=by omega
   have HE:Hid (R=false):=Lib.hid (by rw [←HJ.out,Chk.any_done _ (by rw [List.length_take];omega)])
   go_wp2_with fail
   go_ret
   exact ⟨(by first | (rw [HE.out];done) | (rw [HE.out];rfl)),below_drewN (Below.refl _ _) _⟩
  obtain ⟨g5,off5,cs,e5,-,e1,hc⟩:=ERow.get HV.out (Nat.lt_trans hjk HK.out) (by omega)
  injection e5 with e5
  injection e5 with e5 e6
  subst e5 e6
  unfold StrE at e1
  subst e1
  have b0:=hc 0 _ rfl
  simp only [Nat.add_zero,Nat.mul_one] at b0
  have HD:Hid (((l[j]'(Nat.lt_trans hjk HK.out)).toList==y.toList||((l.take k).drop (j+1)).any (fun z=>z.toList==y.toList))=R):=Lib.hid (by
   rw [←HJ.out,Chk.any_drop (l:=l.take k) (k:=j) _ (by rw [List.length_take];have:=HK.out;omega),List.getElem_take])
  generalize l[j]'(Nat.lt_trans hjk HK.out)=z at *
  have ij:(0:Int)≤(j:Int):=by omega
  have ij2:(j:Int)<(n:Int):=by omega
  have ij3:(j:Int)<(k:Int):=by omega
  clear hc HJ
  cases ht:(z.toList==y.toList)
  case true =>
   have HE:Hid (R=true):=Lib.hid (by rw [←HD.out,ht];rfl)
   go_wp2_with fail
   go_quiet (fail)
   go_wp2_with fail
   go_ret
   exact ⟨(by first | (rw [HE.out];done) | (rw [HE.out];rfl)),below_drewN (below_drewN (Below.refl _ _) _) _⟩
  have HJ2:Hid (((l.take k).drop (j+1)).any (fun z=>z.toList==y.toList)=R):=Lib.hid (by rw [←HD.out,ht];rfl)
  go_wp2_with fail
  go_quiet (fail)
  go_wp2_with fail
  go_roundw
  case rel=>exact ⟨j+1,_,by omega,by go_num,by first | rfl | exact World.drewN_drewN _ _ _,HJ2⟩
  case measure=>simp [intOf];omega
set_option maxRecDepth 100000 in
set_option maxHeartbeats 8000000 in
theorem rorder_any (v:Value) (x:Id.Sch) (name:ByteArray) (w:World) (hv:Id.SchV w none v x) :
  Calls Tryz.prog 88 #[v,.string name] w fun e w'=>e=.returned (.bool (Chk.order x name))∧Below w.heap.size w w':=by
 obtain ⟨R,HR⟩:∃ R,Hid (Chk.order x name=R):=⟨_,Lib.hid rfl⟩
 rw [HR.out]
 have HV:=Lib.hid hv
 obtain ⟨A1,n1,c1,A2,n2,c2,A3,n3,c3,rfl,_⟩:=hv
 go_enter Tryz.func88,Tryz.ntmps88
 go_upto_region 1 with (fail)
 refine wp_named (fun W0 hW0=>?_)
 obtain ⟨hb0,hq0,hs0⟩:=fresh_box hW0
 clear hW0
 have HB0:=Lib.hid hb0
 obtain ⟨⟨q0,q1,q2,q3⟩,_⟩:=hq0.k4
 clear hb0 hs0 hq0
 go_wp2_with fail
 refine (rfind_any _ x name W0 (Id.SchV.below HB0.out HV.out)).mono ?_
 rintro e W1 ⟨u,rfl,hb1,hu⟩
 obtain ⟨B,HBr⟩:∃ B,Hid ((Chk.find x name).isSome=B):=⟨_,Lib.hid rfl⟩
 obtain ⟨r,Hr⟩:∃ r,Hid ((Chk.find x name).getD Chk.recZ=r):=⟨_,Lib.hid rfl⟩
 rw [Hr.out] at hu
 rw [HBr.out]
 have HRr:Hid (R=(B&&Chk.orderR r)):=Lib.hid (by
  rw [←HR.out,←HBr.out,←Hr.out]
  unfold Chk.order
  cases Chk.find x name <;> rfl)
 obtain ⟨rn,rc,rf⟩:=r
 obtain ⟨u2,rfl,hu2⟩:=hu
 obtain ⟨A9,n9,c9,rfl⟩:=ERow.is hu2
 simp only at hu2 ⊢
 have hn9:n9=rf.length:=by obtain ⟨_,_,e,_⟩:=ERow.slice hu2;injection e
 have hm9:n9≤9223372036854775807:=by obtain ⟨_,_,e,_,_⟩:=ERow.slice hu2;injection e;omega
 have HN:=Lib.hid hn9
 have HB1:=Lib.hid (HB0.out.trans (hb1.mono HB0.out.size))
 have HU:=Lib.hid hu2
 clear hu2 hb1 hn9 q0 q1 q2 q3
 go_upto_region 2 with (fail)
 refine wp_named (fun W2 hW2=>?_)
 obtain ⟨hb2,hq2,hs2⟩:=fresh_box hW2
 clear hW2
 have HB2:=Lib.hid (HB1.out.trans (hb2.mono HB1.out.size))
 have HU2:Hid (Id.FldsR W2 none (.slice A9 n9 c9) rf):=Lib.hid (ERow.below HU.out hb2 (Id.FldE.below hb2))
 have HQ2:=Lib.hid hq2
 obtain ⟨⟨q0,q1,q2⟩,_⟩:=hq2.k3
 clear hb2 hq2 hs2 HU
 cases B
 case false =>
  have HE:Hid (R=false):=Lib.hid (by rw [HRr.out];rfl)
  go_wp2_with fail
  go_ret
  exact ⟨(by first | (rw [HE.out];done) | (rw [HE.out];rfl)),HB2.out⟩
 cases rc
 case true =>
  have HE:Hid (R=false):=Lib.hid (by rw [HRr.out];rfl)
  go_wp2_with fail
  go_ret
  exact ⟨(by first | (rw [HE.out];done) | (rw [HE.out];rfl)),HB2.out⟩
 go_wp2_with fail
 clear q0 q1 q2
 go_loopw [9,7,8] (fun i s7 s8 wr=>∃ (k:Nat) (b1 b2:Bool),k≤n9∧i=.int .i64 k∧s7=.bool b1∧s8=.bool b2∧Hid (R=((b1||(rf.drop k).any Chk.isAcc)&&(b2||(rf.drop k).any Chk.isAmt)))∧Hid (Below W2.heap.size W2 wr)) (fun i _ _ _=>n9 - (intOf i).toNat)
 case atStart=>exact ⟨0,false,false,by omega,rfl,rfl,rfl,HRr,Lib.hid (Below.refl _ _)⟩
 case round =>
  obtain ⟨k,b1,b2,hk,rfl,rfl,rfl,HK,HB3⟩:=hrel
  obtain ⟨Wk,rfl⟩:∃ w',w'=wr:=⟨_,rfl⟩
  have hbq:=HQ2.out.below HB3.out HQ2.out.lt
  obtain ⟨⟨q0,q1,q2⟩,_⟩:=hbq.k3
  clear hbq
  by_cases hlt:k<n9
  case neg =>
   obtain rfl:k=n9:=by omega
   have HE:Hid (R=(b1&&b2)):=Lib.hid (by rw [HK.out,Chk.any_done _ (by rw [HN.out];exact Nat.le_refl _),Chk.any_done _ (by rw [HN.out];exact Nat.le_refl _)];simp)
   have HF:Hid (Below w.heap.size w Wk):=Lib.hid (HB2.out.trans (HB3.out.mono HB2.out.size))
   clear HK
   cases b1 <;> cases b2
   all_goals
    go_wp2_with fail
    go_ret
    exact ⟨(by first | (rw [HE.out];done) | (rw [HE.out];rfl)),HF.out⟩
  have hka:k<rf.length:=by rw [←HN.out];exact hlt
  obtain ⟨g,off,cs,rfl,_,⟨u,rfl,hs⟩,hc⟩:=ERow.get HU2.out hka (by omega)
  have HKx:=HK.out
  rw [Chk.any_drop _ hka,Chk.any_drop _ hka] at HKx
  generalize rf[k]=y at *
  obtain ⟨yn,yt⟩:=y
  simp only at hs hc
  have hB:=HB3.out
  have a0:=hc 0 _ rfl
  have a1:=hc 1 _ rfl
  have hgl:g<W2.heap.size:=World.block_lt_of_cell? W2 _ a0
  have a0:=(hB.cell hgl).trans a0
  have a1:=(hB.cell hgl).trans a1
  simp only [Nat.add_zero] at a0
  have hbs:=hB.size
  have hgw:¬g=Wk.heap.size:=by omega
  have i0:(0:Int)≤(k:Int):=by omega
  have i1:(k:Int)<(n9:Int):=by omega
  have HS:Hid (Id.SortsR Wk none u yt):=Lib.hid (ERow.below (ERow.mono hs (fun _ _ hr=>hr.weak (fun b' e'=>by cases e')) (fun _ _ h=>h)) hB (fun _ _ h=>h))
  obtain ⟨A7,n7,c7,rfl⟩:=ERow.is hs
  have HN7:Hid (n7=yt.length):=Lib.hid (by obtain ⟨_,_,e,_⟩:=ERow.slice hs;injection e)
  have HD:=Lib.hid HKx
  clear hB hc HKx HK hka hs
  go_upto_region 9 with (fail)
  refine wp_named (fun W3 hW3=>?_)
  obtain ⟨hb4,hq4,hs4⟩:=fresh_box hW3
  clear hW3
  have HB4:=Lib.hid (HB3.out.trans (hb4.mono hbs))
  have HS4:Hid (Id.SortsR W3 none (.slice A7 n7 c7) yt):=Lib.hid (ERow.below HS.out hb4 (fun _ _ h=>h))
  obtain ⟨⟨d0,d1⟩,_⟩:=hq4.k2
  clear hq4 hb4 a0 a1 q0 q1 q2
  obtain ⟨o4,H4⟩:∃ o4,Hid (Chk.only yt 4=o4):=⟨_,Lib.hid rfl⟩
  obtain ⟨o3,H3⟩:∃ o3,Hid (Chk.only yt 3=o3):=⟨_,Lib.hid rfl⟩
  have key:∀ b1' b2':Bool,b1'=(b1||(yn.toList==[97,99,99,111,117,110,116]&&o4))→b2'=(b2||(yn.toList==[97,109,111,117,110,116]&&o3))→Hid (R=((b1'||(rf.drop (k+1)).any Chk.isAcc)&&(b2'||(rf.drop (k+1)).any Chk.isAmt))):=fun b1' b2' e1 e2=>Lib.hid (by rw [HD.out,e1,e2,←H4.out,←H3.out];unfold Chk.isAcc Chk.isAmt;simp only [Bool.or_assoc])
  have HKEY:=Lib.hid key
  clear HD key
  by_cases h7:n7=1
  case neg =>
   have z4:o4=false:=by rw [←H4.out];unfold Chk.only;split <;> first | rfl | (exfalso;apply h7;rw [HN7.out];rfl)
   have z3:o3=false:=by rw [←H3.out];unfold Chk.only;split <;> first | rfl | (exfalso;apply h7;rw [HN7.out];rfl)
   clear H4 H3
   subst z4 z3
   have t1:((n7:Int)==1)=false:=by rw [beq_eq_false_iff_ne];omega
   have t2:¬(n7:Int)=1:=by omega
   clear h7
   go_wp2_with fail
   go_roundw
   case rel=>exact ⟨k+1,b1,b2,by omega,by go_num,rfl,rfl,HKEY.out _ _ (by simp) (by simp),HB4⟩
   case measure=>simp [intOf];omega
  subst h7
  obtain ⟨t0,rfl⟩:∃ t0,yt=[t0]:=List.length_eq_one_iff.1 HN7.out.symm
  obtain ⟨g7,off7,cs,rfl,_,e7,hc7⟩:=ERow.get HS4.out (i:=0) (by simp) (by omega)
  obtain ⟨tk,tn⟩:=t0
  unfold Id.SortE Id.Srt.cells at e7
  subst e7
  have e0:=hc7 0 _ rfl
  simp only [Nat.add_zero,Nat.zero_mul,List.getElem_cons_zero] at e0
  have H4':Hid (((tk:Int)==4)=o4):=Lib.hid (by rw [←H4.out];show _=(tk==4);rw [Bool.eq_iff_iff];simp;omega)
  have H3':Hid (((tk:Int)==3)=o3):=Lib.hid (by rw [←H3.out];show _=(tk==3);rw [Bool.eq_iff_iff];simp;omega)
  clear hc7 H4 H3 HN7 HS HS4
  cases h1:(yn.toList==[97,99,99,111,117,110,116]) <;> cases h2:(yn.toList==[97,109,111,117,110,116]) <;> cases o4 <;> cases o3
  all_goals
   rw [h1,h2] at HKEY
   have h4:=H4'.out
   have h3:=H3'.out
   go_wp2_with fail
   go_roundw
   case rel=>exact ⟨k+1,_,_,by omega,by go_num,rfl,rfl,HKEY.out _ _ (by simp) (by simp),HB4⟩
   case measure=>simp [intOf];omega
set_option maxRecDepth 100000 in
set_option maxHeartbeats 8000000 in
theorem rright_any (v:Value) (x:Id.Sch) (tv:Value) (t:List Id.Srt) (w:World) (hv:Id.SchV w none v x) (ht:Id.SortsR w none tv t) :
  Calls Tryz.prog 115 #[v,tv] w fun e w'=>e=.returned (.bool (Chk.right x t))∧Below w.heap.size w w':=by
 obtain ⟨R,HR⟩:∃ R,Hid (Chk.right x t=R):=⟨_,Lib.hid rfl⟩
 rw [HR.out]
 unfold Chk.right at HR
 have HV:=Lib.hid hv
 obtain ⟨A1,n1,c1,A2,n2,c2,A3,n3,c3,rfl,_⟩:=hv
 obtain ⟨A,c,rfl,hnc,hcm,_⟩:=ERow.slice ht
 have hbl:=(Below.refl w.heap.size w).alloc (Nat.le_refl _) (.cells #[.string x.name,.slice A1 n1 c1,.slice A2 n2 c2,.slice A3 n3 c3] 33)
 by_cases h0:t.length=0
 ·obtain rfl:t=[]:=List.length_eq_zero_iff.1 h0
  have HE:Hid (R=false):=Lib.hid (by rw [←HR.out];rfl)
  clear ht
  go_enter Tryz.func115,Tryz.ntmps115
  go_wp2_with fail
  go_ret
  exact ⟨(by first | (rw [HE.out];done) | (rw [HE.out];rfl)),hbl⟩
 obtain ⟨m,hm⟩:∃ m,t.length=m+1:=⟨t.length - 1,by omega⟩
 by_cases h12:t.length≤12
 case neg =>
  have HE:Hid (R=false):=Lib.hid (by rw [←HR.out,decide_eq_false h12];rfl)
  rw [hm] at h12 ⊢
  have hd1:¬((m:Int)+1<1):=by omega
  have hd3:(12:Int)<(m:Int)+1:=by omega
  have hd4:12<m+1:=by omega
  clear ht h12 h0 hm
  go_enter Tryz.func115,Tryz.ntmps115
  go_wp2_with fail
  go_ret
  exact ⟨(by first | (rw [HE.out];done) | (rw [HE.out];rfl)),hbl⟩
 have HM:=Lib.hid hm
 have HR0:Hid (Chk.okT x (t.drop 0)=R):=Lib.hid (by rw [←HR.out,decide_eq_true h12];simp)
 have hm12:m<12:=by omega
 have H1:=Lib.hid ht
 rw [hm] at H1 hnc ⊢
 clear ht h0 h12 hm
 have hd1:¬((m:Int)+1<1):=by omega
 have hd2:¬(12<m+1):=by omega
 have hd3:¬(12:Int)<(m:Int)+1:=by omega
 have hd4:m≤c:=by omega
 have hd5:(m:Int)≤(c:Int):=by omega
 clear hbl
 go_enter Tryz.func115,Tryz.ntmps115
 go_upto_region 1 with (fail)
 refine wp_named (fun W0 hW0=>?_)
 obtain ⟨hb0,hq0,hs0⟩:=fresh_box hW0
 clear hW0
 have HQ0:=Lib.hid hq0
 have HB0:=Lib.hid hb0
 clear hb0 hs0 hq0
 go_wp2_with fail
 go_loopw [6] (fun i wr=>∃ k:Nat,k≤m∧i=.int .i64 k∧W0=wr∧Hid (Chk.okT x (t.drop k)=R)) (fun i _=>m - (intOf i).toNat)
 case atStart=>exact ⟨0,by omega,rfl,rfl,HR0⟩
 case round =>
  obtain ⟨k,hk,rfl,rfl,HK⟩:=hrel
  have hka:k<t.length:=by rw [HM.out];omega
  obtain ⟨g,off,cs,rfl,_,e1,hc⟩:=ERow.get H1.out hka (by omega)
  have HKx:=HK.out
  have hB:=HB0.out
  unfold Id.SortE Id.Srt.cells at e1
  subst e1
  have a0:=hc 0 _ rfl
  have a1:=hc 1 _ rfl
  have hgl:g<w.heap.size:=World.block_lt_of_cell? w _ a0
  have a0:=(hB.cell hgl).trans a0
  have a1:=(hB.cell hgl).trans a1
  simp only [Nat.add_zero] at a0
  have hbs:=hB.size
  have hgw:¬g=W0.heap.size:=by omega
  have i0:(0:Int)≤(k:Int):=by omega
  have i9:(k:Int)<(m:Int)+1:=by omega
  clear hB hc
  by_cases hlt:k<m
  case neg =>
   obtain rfl:k=m:=by omega
   rw [Chk.okT_last (by rw [HM.out])] at HKx
   generalize t[k]=y at *
   obtain ⟨yk,yn⟩:=y
   have HD:=Lib.hid HKx
   clear HKx HK hka
   go_upto_region 10 with (fail)
   refine wp_named (fun W1 hW1=>?_)
   obtain ⟨hb1,hq1,hs1⟩:=fresh_box hW1
   clear hW1
   have HB1:=Lib.hid (HB0.out.trans (hb1.mono hbs))
   have HQ1:=Lib.hid (HQ0.out.below hb1 HQ0.out.lt)
   obtain ⟨⟨b0,b1⟩,_⟩:=hq1.k2
   obtain ⟨⟨q0,q1,q2,q3⟩,_⟩:=HQ1.out.k4
   clear hq1 hb1 a0 a1
   by_cases h7:yk=7
   ·subst h7
    have HE:Hid (R=(Chk.find x yn).isSome):=Lib.hid (by rw [←HD.out];simp [Chk.fin])
    go_wp2_with fail
    refine (rfind_any _ x yn W1 (Id.SchV.below HB1.out HV.out)).mono ?_
    rintro e W2 ⟨u,rfl,hb2,hu⟩
    have HB2:=Lib.hid (HB1.out.trans (hb2.mono HB1.out.size))
    obtain ⟨u2,rfl,hu2⟩:=hu
    obtain ⟨A9,n9,c9,rfl⟩:=ERow.is hu2
    clear hb2 hu2
    go_wp2_with fail
    go_ret
    exact ⟨(by first | (rw [HE.out];done) | (rw [HE.out];rfl)),HB2.out.alloc HB2.out.size _⟩
   have t7:((yk:Int)==7)=false:=by rw [beq_eq_false_iff_ne];omega
   by_cases hr:1≤yk∧yk≤4
   ·have HE:Hid (R=yn.toList.isEmpty):=Lib.hid (by rw [←HD.out];simp only [Chk.fin];rw [if_pos (by omega)])
    have s1:(1:Int)≤(yk:Int):=by omega
    have s2:(yk:Int)≤4:=by omega
    have s3:1≤yk:=hr.1
    have s4:yk≤4:=hr.2
    clear hr h7
    cases hne:yn.toList.isEmpty <;> rw [hne] at HE
    all_goals
     go_wp2_with fail
     go_ret
     exact ⟨(by first | (rw [HE.out];done) | (rw [HE.out];rfl)),HB1.out⟩
   ·have HE:Hid (R=false):=Lib.hid (by rw [←HD.out];simp only [Chk.fin];rw [if_neg (by omega),if_neg h7])
    by_cases h1:1≤yk
    ·have s1:(1:Int)≤(yk:Int):=by omega
     have s2:¬(yk:Int)≤4:=by omega
     have s4:¬yk≤4:=by omega
     clear hr h7
     go_wp2_with fail
     go_ret
     exact ⟨(by first | (rw [HE.out];done) | (rw [HE.out];rfl)),HB1.out⟩
    ·obtain rfl:yk=0:=by omega
     clear hr h7 h1
     go_wp2_with fail
     go_ret
     exact ⟨(by first | (rw [HE.out];done) | (rw [HE.out];rfl)),HB1.out⟩
  have i1:(k:Int)<(m:Int):=by omega
  rw [Chk.okT_drop (by rw [HM.out];omega)] at HKx
  generalize t[k]=y at *
  obtain ⟨yk,yn⟩:=y
  have HD:=Lib.hid HKx
  clear HKx HK hka
  cases hne:yn.toList.isEmpty
  case false =>
   have HE:Hid (R=false):=Lib.hid (by rw [←HD.out];simp [Chk.mid,hne])
   clear HD
   go_wp2_with fail
   all_goals (go_ret;exact ⟨(by first | (rw [HE.out];done) | (rw [HE.out];rfl)),HB0.out⟩)
  by_cases h5:yk=5
  ·subst h5
   have HK1:Hid (Chk.okT x (t.drop (k+1))=R):=Lib.hid (by rw [←HD.out];simp [Chk.mid,hne])
   go_wp2_with fail
   go_roundw
   case rel=>exact ⟨k+1,by omega,by go_num,by first | rfl | trivial,HK1⟩
   case measure=>simp [intOf];omega
  by_cases h6:yk=6
  ·subst h6
   have HK1:Hid (Chk.okT x (t.drop (k+1))=R):=Lib.hid (by rw [←HD.out];simp [Chk.mid,hne])
   go_wp2_with fail
   go_roundw
   case rel=>exact ⟨k+1,by omega,by go_num,by first | rfl | trivial,HK1⟩
   case measure=>simp [intOf];omega
  have t5:((yk:Int) != 5)=true:=by rw [bne_iff_ne];omega
  have t6:((yk:Int) != 6)=true:=by rw [bne_iff_ne];omega
  have HE:Hid (R=false):=Lib.hid (by rw [←HD.out];simp [Chk.mid,hne,h5,h6])
  clear h5 h6
  go_wp2_with fail
  go_ret
  exact ⟨(by first | (rw [HE.out];done) | (rw [HE.out];rfl)),HB0.out⟩
end Go.Proofs.YtlbihaikppkecaaGreatDoor
