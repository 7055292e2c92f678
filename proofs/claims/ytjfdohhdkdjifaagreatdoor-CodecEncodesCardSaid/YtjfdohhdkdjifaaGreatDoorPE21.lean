/- value.types and value.Fits (printed by gen_valt.py). No condition but the keywords' table and the ones the theorems state. -/
import Derived.Test.YtjfdohhdkdjifaaGreatDoorPE20
import Derived.Test.YtjfdohhdkdjifaaGreatDoorPE16
import Derived.Test.YtjfdohhdkdjifaaGreatDoorPE13
import Derived.Test.YtjfdohhdkdjifaaGreatDoorPE03
import Derived.Test.YtjfdohhdkdjifaaGreatDoorPE17
import Derived.Lib.AppendStr
import Derived.Laws.Bits64
import Derived.Laws.BitsAllLaws
import Derived.Laws.BitsLemmas
set_option linter.unusedVariables false
set_option linter.unusedSimpArgs false
namespace Go.Proofs.YtjfdohhdkdjifaaGreatDoor
open Go.RowKit Go.BigFrame
namespace Vl
open Go.Proofs.YtjfdohhdkdjifaaGreatDoor.Id Go.Proofs.YtjfdohhdkdjifaaGreatDoor.Chk
/-- What is not right in a schema and a type. -/
noncomputable def typE (s:Sch) (t:List Srt):Nat:=if (check s).2≠0 then (check s).2 else if right s t=true then 0 else 131
theorem typeP_len {t:List Srt} (h:(Prn.typeP t).toList.isEmpty=false):t.length≠0∧t.length≤12:=by
 rw [typeP_empty] at h
 have h3:(decide (t.length≤12)&&Prn.okP t)=true:=by simpa using h
 rw [Bool.and_eq_true,decide_eq_true_eq] at h3
 refine ⟨fun e=>?_,h3.1⟩
 have h4:t=[]:=List.length_eq_zero_iff.1 e
 subst h4
 cases h3.2
theorem fits_typ {s:Sch} {t:List Srt} {v:List Node} (h:typE s t≠0):fits s t v=typE s t:=by
 unfold typE at h ⊢
 unfold fits
 split
 ·rfl
 ·rename_i h1
  rw [if_neg h1] at h
  split at h
  ·exact absurd rfl h
  ·rename_i h2
   rw [if_pos (by simpa using h2),if_neg h2]
theorem typ_ok {s:Sch} {t:List Srt} (h:typE s t=0):Right s∧right s t=true:=by
 unfold typE at h
 split at h
 ·rename_i h1;exact absurd h h1
 ·rename_i h1
  split at h
  ·rename_i h2;exact ⟨check_ok (by omega),h2⟩
  ·cases h
def fitsV (v:List Node) (R:Option (Nat × List Node)):Nat:=match R with
 | none=>150
 | some p=>if p.2.length≠0 then 150 else if 12<p.1 then 151 else if 4096<size v then 3 else 0
theorem fits_ofV {s:Sch} {t:List Srt} {v:List Node} (h:typE s t=0):fits s t v=fitsV v (ofF s none (v.length+1) t v):=by
 obtain ⟨h1,h2⟩:=typ_ok h
 unfold fits
 rw [if_neg (by rw [check_right h1];exact fun h=>h rfl),if_neg (by rw [h2];decide)]
 rfl
def tsum (v:List Node):Nat:=(v.map (·.text.size)).sum
theorem tsum_take {v:List Node} {k:Nat} (h:k<v.length):tsum (v.take (k+1))=tsum (v.take k)+v[k].text.size:=by
 unfold tsum
 rw [List.take_succ_eq_append_getElem h,List.map_append,List.sum_append]
 simp
theorem tsum_le (v:List Node) (k:Nat):tsum (v.take k)≤tsum v:=by
 have h:tsum v=tsum (v.take k)+tsum (v.drop k):=by
  unfold tsum
  rw [←List.sum_append,←List.map_append,List.take_append_drop]
 omega
theorem size_eq (v:List Node):size v=v.length+tsum v:=rfl
theorem fine_small {x:Sch} (h:Fine x):∀ r∈x.records,r.fields.length≤1000∧∀ f∈r.fields,f.type.length≤1000:=h.small
end Vl
set_option maxRecDepth 100000 in
set_option maxHeartbeats 16000000 in
theorem vtypes_any (sv:Value) (x:Id.Sch) (hF:Chk.Fine x) (tv:Value) (t:List Id.Srt) (w:World) (hk:Tk.KW w) (hv:Id.SchV w none sv x) (ht:Id.SortsR w none tv t) :
  Calls Tryz.prog 53 #[sv,tv] w fun e w'=>e=.returned (.int .i64 (Vl.typE x t))∧Below w.heap.size w w':=by
 obtain ⟨R,HR⟩:∃ R,Hid (Vl.typE x t=R):=⟨_,Lib.hid rfl⟩
 rw [HR.out]
 unfold Vl.typE at HR
 have HF:=Lib.hid hF
 have HKW:=Lib.hid hk
 have HV:=Lib.hid hv
 have HS:=Lib.hid ht
 obtain ⟨A,n,c,rfl⟩:=ERow.is ht
 have HN:Hid (n=t.length):=Lib.hid (by obtain ⟨_,_,e,_⟩:=ERow.slice ht;injection e)
 obtain ⟨A1,n1,c1,A2,n2,c2,A3,n3,c3,rfl,-,-,-⟩:=hv
 clear hF hk ht
 go_enter Tryz.func53,Tryz.ntmps53
 go_upto_region 1 with (fail)
 refine wp_named (fun V hV=>?_)
 have HL:=Lib.hid (Chk.Lx.start hV)
 clear hV
 obtain ⟨⟨q0,q1,q2,q3⟩,-⟩:=HL.out.box.k4
 go_wp2_with fail
 clear q0 q1 q2 q3
 refine (ccheck_any _ x HF.out _ (HKW.out.below HL.out.bel) (HV.out.below HL.out.bel)).mono ?_
 rintro e W1 ⟨rfl,hb⟩
 have HL1:=Lib.hid (HL.out.below hb)
 clear hb
 obtain ⟨⟨cw,ce⟩,HC⟩:∃ c,Hid (Chk.check x=c):=⟨_,Lib.hid rfl⟩
 rw [HC.out] at HR
 rw [HC.out]
 simp only at HR ⊢
 by_cases h0:ce=0
 case neg =>
  have HE:Hid (ce=R):=Lib.hid (by rw [←HR.out,if_pos h0])
  have t0:((ce:Int) != 0)=true:=by rw [bne_iff_ne];omega
  have t1:¬(ce:Int)=0:=by omega
  have t2:((ce:Int)==0)=false:=by rw [beq_eq_false_iff_ne];omega
  go_wp2_with fail
  go_ret
  exact ⟨by rw [←HE.out];rfl,HL1.out.bel⟩
 subst h0
 have hRt:Chk.Right x:=Chk.check_ok (by rw [HC.out])
 have HRT:=Lib.hid hRt
 have HR2:Hid ((if Chk.right x t=true then 0 else 131)=R):=Lib.hid (by rw [←HR.out];simp only [ne_eq,not_true,if_false])
 clear HR HC
 simp only [Int.cast_ofNat_Int]
 go_wp2_with fail
 refine (pType_any _ t _ (HKW.out.below HL1.out.bel) (ERow.below HS.out HL1.out.bel (fun _ _ h=>h))).mono ?_
 rintro e W2 ⟨rfl,hb⟩
 have HL2:=Lib.hid (HL1.out.below hb)
 clear hb
 obtain ⟨T,HT⟩:∃ T,Hid (Prn.typeP t=T):=⟨_,Lib.hid rfl⟩
 have HRR:Hid (Chk.right x t=(!T.toList.isEmpty&&Vl.lastOk x t)):=Lib.hid (by rw [Vl.right_typeP HRT.out,HT.out])
 have HLEN:Hid (T.toList.isEmpty=false→n≠0∧n≤12):=Lib.hid (fun h=>by rw [HN.out];exact Vl.typeP_len (by rw [HT.out];exact h))
 rw [HT.out]
 clear HT HL HL1
 cases hte:T.toList.isEmpty
 case true =>
  have HE:Hid (131=R):=Lib.hid (by rw [←HR2.out,if_neg (by rw [HRR.out,hte];simp)])
  go_wp2_with fail
  go_ret
  exact ⟨by rw [←HE.out];rfl,HL2.out.bel⟩
 obtain ⟨hn0,hn12⟩:=HLEN.out hte
 obtain ⟨k,rfl⟩:∃ k,n=k+1:=⟨n - 1,by omega⟩
 have hka:k<t.length:=by rw [←HN.out];omega
 obtain ⟨g,off,cs,rfl,-,e1,hc⟩:=ERow.get HS.out hka (by omega)
 have hlo:Vl.lastOk x t=(t[k].kind != 7||(Chk.find x t[k].name).isSome):=by unfold Vl.lastOk;rw [List.getLast?_eq_getElem?,show t.length - 1=k by rw [←HN.out];omega,List.getElem?_eq_getElem hka]
 obtain ⟨⟨yk,yn⟩,Hy⟩:∃ y,Hid (t[k]=y):=⟨_,Lib.hid rfl⟩
 rw [Hy.out] at e1 hlo
 unfold Id.SortE Id.Srt.cells at e1
 subst e1
 have HX:Hid ((if (yk != 7||(Chk.find x yn).isSome)=true then 0 else 131)=R):=Lib.hid (by rw [←HR2.out,HRR.out,hte,hlo];rfl)
 have a0:=hc 0 _ rfl
 have a1:=hc 1 _ rfl
 simp only [Nat.add_zero] at a0
 have hgl:g<w.heap.size:=World.block_lt_of_cell? w _ a0
 have a0:=(HL2.out.bel.cell hgl).trans a0
 have a1:=(HL2.out.bel.cell hgl).trans a1
 have HTE:=Lib.hid hte
 have e5:(((k+1:Nat):Int) - 1)=(k:Int):=by omega
 have e6:((k:Int)+1 - 1)=(k:Int):=by omega
 have ik0:(0:Int)≤(k:Int):=by omega
 have ik1:(k:Int)<((k+1:Nat):Int):=by omega
 have ik2:(k:Int)<(k:Int)+1:=by omega
 clear hc Hy hlo HLEN HR2 HRR hn0
 go_upto_region 7 with (fail)
 refine wp_named (fun W3 hW=>?_)
 obtain ⟨hb3,hq3,-⟩:=fresh_box hW
 clear hW
 have HL3:=Lib.hid (HL2.out.below hb3)
 obtain ⟨⟨b0,b1⟩,-⟩:=hq3.k2
 clear hb3 hq3 a0 a1 HL2 hte
 by_cases h7:yk=7
 case neg =>
  have HE:Hid (0=R):=Lib.hid (by rw [←HX.out,if_pos (by rw [show (yk != 7)=true by rw [bne_iff_ne];exact h7];rfl)])
  have t0:((yk:Int)==7)=false:=by rw [beq_eq_false_iff_ne];omega
  have t1:¬(yk:Int)=7:=by omega
  go_wp2_with fail
  go_ret
  exact ⟨by rw [←HE.out];rfl,HL3.out.bel⟩
 subst h7
 simp only [Int.cast_ofNat_Int] at *
 obtain ⟨⟨q0,q1,q2,q3⟩,-⟩:=HL3.out.box.k4
 go_wp2_with fail
 refine (cfind_any _ x yn (Vl.fine_small HF.out) _ (HV.out.below HL3.out.bel)).mono ?_
 rintro e W4 ⟨u,rfl,hb,uu,rfl,hu⟩
 obtain ⟨A9,n9,c9,rfl⟩:=ERow.is hu
 have HL4:=Lib.hid (HL3.out.below hb)
 clear hb hu b0 b1 q0 q1 q2 q3
 cases hs:(Chk.find x yn).isSome
 case false =>
  have HE:Hid (131=R):=Lib.hid (by rw [←HX.out,if_neg (by rw [hs];decide)])
  go_wp2_with fail
  go_ret
  exact ⟨by rw [←HE.out];rfl,HL4.out.bel.trans (((Below.refl _ _).alloc (Nat.le_refl _) _).mono HL4.out.bel.size)⟩
 have HE:Hid (0=R):=Lib.hid (by rw [←HX.out,if_pos (by rw [hs];rfl)])
 go_wp2_with fail
 go_ret
 exact ⟨by rw [←HE.out];rfl,HL4.out.bel.trans (((Below.refl _ _).alloc (Nat.le_refl _) _).mono HL4.out.bel.size)⟩
set_option maxRecDepth 100000 in
set_option maxHeartbeats 16000000 in
theorem vfits_any (sv:Value) (x:Id.Sch) (hF:Chk.Fine x) (tv:Value) (t:List Id.Srt) (vs:Value) (v:List Vl.Node) (hl:v.length≤100000) (hz:∀ n∈v,n.text.size≤100000) (w:World) (hk:Tk.KW w) (hv:Id.SchV w none sv x) (ht:Id.SortsR w none tv t) (hvv:Vl.ValR w none vs v) :
  Calls Tryz.prog 18 #[sv,tv,vs] w fun e w'=>e=.returned (.int .i64 (Vl.fits x t v))∧Below w.heap.size w w':=by
 obtain ⟨R,HR⟩:∃ R,Hid (Vl.fits x t v=R):=⟨_,Lib.hid rfl⟩
 rw [HR.out]
 have HF:=Lib.hid hF
 have HKW:=Lib.hid hk
 have HV:=Lib.hid hv
 have HS:=Lib.hid ht
 have HVV:=Lib.hid hvv
 have HZ:=Lib.hid hz
 obtain ⟨A,n,c,rfl⟩:=ERow.is hvv
 have HN:Hid (n=v.length):=Lib.hid (by obtain ⟨_,_,e,_⟩:=ERow.slice hvv;injection e)
 have hn:n≤100000:=by rw [HN.out];exact hl
 obtain ⟨A1,n1,c1,A2,n2,c2,A3,n3,c3,rfl,-,-,-⟩:=hv
 clear hF hk ht hvv hz
 go_enter Tryz.func18,Tryz.ntmps18
 go_upto_region 1 with (fail)
 refine wp_named (fun V hV=>?_)
 have HL:=Lib.hid (Chk.Lx.start hV)
 clear hV
 obtain ⟨⟨q0,q1,q2,q3⟩,-⟩:=HL.out.box.k4
 go_wp2_with fail
 clear q0 q1 q2 q3
 refine (vtypes_any _ x HF.out _ t _ (HKW.out.below HL.out.bel) (HV.out.below HL.out.bel) (ERow.below HS.out HL.out.bel (fun _ _ h=>h))).mono ?_
 rintro e W1 ⟨rfl,hb⟩
 have HL1:=Lib.hid (HL.out.below hb)
 clear hb HL
 obtain ⟨ce,HC⟩:∃ c,Hid (Vl.typE x t=c):=⟨_,Lib.hid rfl⟩
 rw [HC.out]
 by_cases h0:ce=0
 case neg =>
  have HE:Hid (ce=R):=Lib.hid (by rw [←HR.out,Vl.fits_typ (by rw [HC.out];exact h0),HC.out])
  have t0:((ce:Int) != 0)=true:=by rw [bne_iff_ne];omega
  have t1:¬(ce:Int)=0:=by omega
  have t2:((ce:Int)==0)=false:=by rw [beq_eq_false_iff_ne];omega
  go_wp2_with fail
  go_ret
  exact ⟨by rw [←HE.out];rfl,HL1.out.bel⟩
 subst h0
 have HRT:=Lib.hid (Vl.typ_ok HC.out)
 have HR2:Hid (Vl.fitsV v (Vl.ofF x none (v.length+1) t v)=R):=Lib.hid (by rw [←HR.out,Vl.fits_ofV HC.out])
 clear HR HC
 simp only [Int.cast_ofNat_Int]
 obtain ⟨⟨q0,q1,q2,q3⟩,-⟩:=HL1.out.box.k4
 go_wp2_with fail
 clear q0 q1 q2 q3
 refine (vfinder_any _ x (fun r hr=>by have:=Vl.name_size ((Prn.ok_of_right HRT.out.1).rn r hr);omega) HF.out.recs _ (HV.out.below HL1.out.bel)).mono ?_
 rintro e W2 ⟨g,m,rfl,hb,hf⟩
 have HL2:=Lib.hid (HL1.out.below hb)
 have HFD:=Lib.hid hf
 have HB12:=Lib.hid hb
 have HB01:=Lib.hid HL1.out.bel
 clear hb hf HL1
 go_upto_region 5 with (fail)
 refine wp_named (fun W3 hW=>?_)
 obtain ⟨hb3,hq3,-⟩:=fresh_box hW
 clear hW
 have HL3:=Lib.hid (HL2.out.below hb3)
 have HW23:=Lib.hid hb3
 have HQ3:=Lib.hid hq3
 have hb2:W2.heap.size<W3.heap.size:=hq3.lt
 clear hb3 hq3
 have HEN:Hid (Vl.Env x W1 W3 W2.heap.size g m):=Lib.hid (by have hg:=HFD.out.bx.lt;have hm:=HFD.out.fm.lt;exact ⟨bl_join HB12.out HW23.out,HFD.out.below HW23.out,HB12.out.size,by omega,by omega,hb2⟩)
 go_wp2_with fail
 refine (vof_any x v _ W1 W2.heap.size g m (ERow.below HVV.out HB01.out (fun _ _ h=>h)) hl HRT.out.1 (v.length+1) _ t 0 W3 (Vl.right_okT HRT.out.2).1 (Vl.right_okT HRT.out.2).2 (Nat.zero_le _) (by omega) HEN.out HQ3.out (ERow.below HS.out HB01.out (fun _ _ h=>h))).mono ?_
 rw [List.drop_zero]
 rintro e W4 ⟨a1,rfl,hg,hc,ha,hp⟩
 have HB4:=Lib.hid (below_gb HL3.out.bel hg HL2.out.bel.size (HL3.out.bel.size))
 have HQ4:=Lib.hid hc
 obtain ⟨⟨p0,p1,p2⟩,-⟩:=(show Bk W4 W2.heap.size 106 #[.slice A n c,.int .i64 a1,Vl.fndV g] from hc).k3
 clear hg hc
 cases hq:Vl.ofF x none (v.length+1) t v with
 | none =>
  have HE:Hid (150=R):=Lib.hid (by rw [←HR2.out,hq];rfl)
  have e0:Vl.deep (none:Option (Nat × List Vl.Node))=0:=rfl
  rw [e0]
  simp only [Int.cast_ofNat_Int]
  clear hp hq
  go_wp2_with fail
  go_ret
  exact ⟨by rw [←HE.out];rfl,HB4.out⟩
 | some p =>
  obtain ⟨d,r⟩:=p
  have hr:r=v.drop a1:=hp _ hq
  have hdp:=Vl.of_deep _ _ _ _ _ hq
  have hln:=(Vl.of_len (N:=v.length) _ _ _ _ _ (Nat.le_refl _) hq).1
  have hrl:r.length=n - a1:=by rw [hr,List.length_drop,HN.out]
  have HX:Hid ((if r.length≠0 then 150 else if 12<d then 151 else if 4096<Vl.size v then 3 else 0)=R):=Lib.hid (by rw [←HR2.out,hq];rfl)
  have e0:Vl.deep (some (d,r))=d:=rfl
  rw [e0]
  have hd1:((d:Int)==0)=false:=by rw [beq_eq_false_iff_ne];omega
  have hd2:¬(d:Int)=0:=by omega
  have hd3:¬d=0:=by omega
  have han:a1≤n:=by rw [HN.out];exact ha
  clear hp hq hr hdp HR2
  by_cases h1:a1<n
  case pos =>
   have HE:Hid (150=R):=Lib.hid (by rw [←HX.out];rw [if_pos (by omega)])
   have t0:((a1:Int) != (n:Int))=true:=by rw [bne_iff_ne];omega
   have t1:((a1:Int)==(n:Int))=false:=by rw [beq_eq_false_iff_ne];omega
   have t2:¬(a1:Int)=(n:Int):=by omega
   have t3:¬a1=n:=by omega
   go_wp2_with fail
   go_ret
   exact ⟨by rw [←HE.out];rfl,HB4.out⟩
  obtain rfl:a1=n:=by omega
  have HX2:Hid ((if 12<d then 151 else if 4096<Vl.size v then 3 else 0)=R):=Lib.hid (by have h:=HX.out;rw [if_neg (by omega)] at h;exact h)
  clear HX
  have HX:=HX2
  clear HX2
  by_cases h2:12<d
  case pos =>
   have HE:Hid (151=R):=Lib.hid (by rw [←HX.out];rw [if_pos h2])
   have t0:(12:Int)<(d:Int):=by omega
   go_wp2_with fail
   go_ret
   exact ⟨by rw [←HE.out];rfl,HB4.out⟩
  have t12:¬(12:Int)<(d:Int):=by omega
  have HX2:Hid ((if 4096<Vl.size v then 3 else 0)=R):=Lib.hid (by rw [←HX.out,if_neg h2])
  clear HX
  have HX:=HX2
  clear HX2
  by_cases h3:4096<a1
  case pos =>
   have HE:Hid (3=R):=Lib.hid (by rw [←HX.out];rw [if_pos (by rw [Vl.size_eq,←HN.out];omega)])
   have t0:(4096:Int)<(a1:Int):=by omega
   go_wp2_with fail
   go_ret
   exact ⟨by rw [←HE.out];rfl,HB4.out⟩
  have t13:¬(4096:Int)<(a1:Int):=by omega
  go_wp2_with fail
  clear p0 p1 p2
  go_loopw [10,50] (fun sz i wr=>∃ (k z:Nat),k≤a1∧i=.int .i64 k∧sz=.int .i64 z∧z≤4096∧Hid (z=a1+Vl.tsum (v.take k))∧Hid (Below w.heap.size w wr)) (fun _ i _=>a1 - (intOf i).toNat)
  case atStart=>exact ⟨0,a1,by omega,rfl,rfl,by omega,Lib.hid rfl,HB4⟩
  case round =>
   obtain ⟨k,z,hk,rfl,rfl,hz,HZK,HB⟩:=hrel
   obtain ⟨U,rfl⟩:∃ w',w'=wr:=⟨_,rfl⟩
   have ik0:(0:Int)≤(k:Int):=by omega
   by_cases hlt:k<a1
   case neg =>
    have HE:Hid (0=R):=Lib.hid (by rw [←HX.out,if_neg (by have h:=HZK.out;rw [List.take_of_length_le (by rw [←HN.out];omega)] at h;rw [Vl.size_eq,←HN.out,←h];omega)])
    go_wp2_with fail
    go_ret
    exact ⟨by rw [←HE.out];rfl,HB.out⟩
   have hka:k<v.length:=by rw [←HN.out];exact hlt
   obtain ⟨g5,off,cs,rfl,-,e1,hc⟩:=ERow.get HVV.out hka (by omega)
   have hzk:=HZ.out _ (List.getElem_mem hka)
   have hts:=Vl.tsum_take hka
   obtain ⟨⟨nk,ni,nt,nd⟩,Hx⟩:∃ y,Hid (v[k]=y):=⟨_,Lib.hid rfl⟩
   rw [Hx.out] at e1 hzk hts
   unfold Vl.NodE Vl.Node.cells at e1
   subst e1
   simp only at hzk hts
   have HTS:=Lib.hid hts
   have a0:=hc 0 _ rfl
   have a1c:=hc 1 _ rfl
   have a2:=hc 2 _ rfl
   have a3:=hc 3 _ rfl
   simp only [Nat.add_zero] at a0
   have hgl:g5<w.heap.size:=World.block_lt_of_cell? w _ a0
   have a0:=(HB.out.cell hgl).trans a0
   have a1c:=(HB.out.cell hgl).trans a1c
   have a2:=(HB.out.cell hgl).trans a2
   have a3:=(HB.out.cell hgl).trans a3
   have ik1:(k:Int)<(a1:Int):=by omega
   have hbsz:=HB.out.size
   clear hc Hx hts
   go_upto_region 16 with (fail)
   refine wp_named (fun U1 hW=>?_)
   obtain ⟨hb5,hq5,-⟩:=fresh_box hW
   clear hW
   have HB5:=Lib.hid (HB.out.trans (hb5.mono hbsz))
   obtain ⟨⟨b0,b1,b2,b3⟩,-⟩:=hq5.k4
   clear hb5 hq5 a0 a1c a2 a3 HB
   by_cases hbig:4096<z+nt.size
   case pos =>
    have HE:Hid (3=R):=Lib.hid (by rw [←HX.out,if_pos (by have h:=Vl.tsum_le v (k+1);rw [HTS.out] at h;rw [Vl.size_eq,←HN.out];have:=HZK.out;omega)])
    have t0:(4096:Int)<(z:Int)+(nt.size:Int):=by omega
    go_wp2_with fail
    go_ret
    exact ⟨by rw [←HE.out];rfl,HB5.out⟩
   have t0:¬(4096:Int)<(z:Int)+(nt.size:Int):=by omega
   have HZ2:Hid (z+nt.size=a1+Vl.tsum (v.take (k+1))):=Lib.hid (by rw [HTS.out,HZK.out];omega)
   go_wp2_with fail
   go_roundw
   case rel=>exact ⟨k+1,z+nt.size,by omega,by go_num,by go_num,by omega,HZ2,HB5⟩
   case measure=>simp [intOf];omega
end Go.Proofs.YtjfdohhdkdjifaaGreatDoor
set_option linter.unusedVariables false
set_option linter.unusedSimpArgs false
namespace Go.Proofs.YtjfdohhdkdjifaaGreatDoor
open Go.RowKit Go.BigFrame
set_option maxRecDepth 100000 in
set_option maxHeartbeats 1000000 in
theorem cputVar_any (B:Nat) (v:Value) (xs:List UInt8) (x:Nat) (hx:x<18446744073709551616) (hn:xs.length≤1000000000) (w:World) (hown:Ev.Bt w B v xs) (hB:B≤w.heap.size) :
  Calls Tryz.prog 51 #[v,.int .u64 x] w fun e w'=>∃ v',e=.returned v'∧Ev.Bt w' B v' (xs++Ev.var x)∧Below B w w'∧Only 5 w w':=by
 have HX:Hid (x<2 * 128 ^ 9):=Lib.hid (by simpa using hx)
 have HO:=Lib.hid hown
 clear hx hown
 go_enter Tryz.func51,Tryz.ntmps51
 go_wp2
 go_loopw [0,1] (fun b z wr=>∃ (f y:Nat) (p:List UInt8),f≤9∧p.length+f=9∧z=.int .u64 y∧y<18446744073709551616∧Hid (y<2 * 128 ^ f)∧Hid (p++Ev.varF f y=Ev.var x)∧Ev.Bt wr B b (xs++p)∧Below B w wr∧Hid (Only 5 w wr)) (fun _ z _=>(intOf z).toNat)
 case atStart=>exact ⟨9,x,[],by omega,rfl,rfl,by have:=HX.out;simpa using this,HX,Lib.hid rfl,by rw [List.append_nil];exact HO.out,Below.refl _ _,Lib.hid (Only.refl _ _)⟩
 case round =>
  obtain ⟨f,y,p,hf,hpf,rfl,hy64,HY,HP,hown,hb,HOY⟩:=hrel
  have hz:=hb.size
  have hlen:(xs++p).length≤1000000010:=by rw [List.length_append];omega
  have HPF:=Lib.hid hpf
  clear hpf
  by_cases hlt:128≤y
  ·obtain ⟨g,rfl⟩:∃ g,f=g+1:=by
    cases f with
    | zero=>have:=HY.out;omega
    | succ g=>exact ⟨g,rfl⟩
   have HS:=Lib.hid (Ev.varF_step (f:=g) hlt)
   have HB:=Lib.hid (Ev.byteV_or y)
   have hi:(128:Int)≤(y:Int):=by omega
   go_wp2_with (at_builtin;refine wpList_append_one rfl _ _ _ rfl B 5 _ _ Tryz.underlying99 info_u8 rfl _ (xs++p).length _ rfl hown.own _ rfl rfl (by simp only [maxLen];omega) (by omega) (by omega) ?_;intro v' w1 hown1 hb1 hg1;have HO1:=Lib.hid (HOY.out.trans ((Only.below ((Below.refl _ _).alloc (Nat.le_refl _) _)).trans (Only.row hg1 (hown.own.alloc _))));clear hg1)
   go_roundw
   case rel=>exact ⟨g,y / 128,p++[UInt8.ofNat (y % 128+128)],by omega,by have:=HPF.out;simp;omega,by go_num,by omega,Lib.hid (by have h:=HY.out;rw [Nat.pow_succ] at h;omega),Lib.hid (by rw [←HP.out,HS.out];simp),by rw [←List.append_assoc];exact Ev.Bt.push hown1 rfl HB.out,hb.trans hb1,HO1⟩
   case measure=>simp [intOf];omega
  ·have HL:=Lib.hid (Ev.varF_last (f:=f) (y:=y) (by omega))
   have HB:=Lib.hid (Ev.byteV_low (y:=y) (by omega))
   have hi:¬(128:Int)≤(y:Int):=by omega
   go_wp2_with (at_builtin;refine wpList_append_one rfl _ _ _ rfl B 5 _ _ Tryz.underlying99 info_u8 rfl _ (xs++p).length _ rfl hown.own _ rfl rfl (by simp only [maxLen];omega) (by omega) (by omega) ?_;intro v' w1 hown1 hb1 hg1;have HO1:=Lib.hid (HOY.out.trans ((Only.below ((Below.refl _ _).alloc (Nat.le_refl _) _)).trans (Only.row hg1 (hown.own.alloc _))));clear hg1)
   have hfin:=Ev.Bt.push hown1 rfl HB.out
   rw [←HL.out,List.append_assoc,HP.out] at hfin
   have HF:=Lib.hid hfin
   clear hfin
   go_ret
   exact ⟨_,rfl,HF.out,hb.trans hb1,HO1.out⟩
set_option maxRecDepth 100000 in
set_option maxHeartbeats 16000000 in
theorem cdright_any (sv:Value) (x:Id.Sch) (hF:Chk.Fine x) (tv:Value) (t:List Id.Srt) (w:World) (hk:Tk.KW w) (hv:Id.SchV w none sv x) (ht:Id.SortsR w none tv t) :
  Calls Tryz.prog 48 #[sv,tv] w fun e w'=>e=.returned (.int .i64 (Vl.typE x t))∧Below w.heap.size w w':=by
 obtain ⟨R,HR⟩:∃ R,Hid (Vl.typE x t=R):=⟨_,Lib.hid rfl⟩
 rw [HR.out]
 unfold Vl.typE at HR
 have HF:=Lib.hid hF
 have HKW:=Lib.hid hk
 have HV:=Lib.hid hv
 have HS:=Lib.hid ht
 obtain ⟨A,n,c,rfl⟩:=ERow.is ht
 have HN:Hid (n=t.length):=Lib.hid (by obtain ⟨_,_,e,_⟩:=ERow.slice ht;injection e)
 obtain ⟨A1,n1,c1,A2,n2,c2,A3,n3,c3,rfl,-,-,-⟩:=hv
 clear hF hk ht
 go_enter Tryz.func48,Tryz.ntmps48
 go_upto_region 1 with (fail)
 refine wp_named (fun V hV=>?_)
 have HL:=Lib.hid (Chk.Lx.start hV)
 clear hV
 obtain ⟨⟨q0,q1,q2,q3⟩,-⟩:=HL.out.box.k4
 go_wp2_with fail
 clear q0 q1 q2 q3
 refine (ccheck_any _ x HF.out _ (HKW.out.below HL.out.bel) (HV.out.below HL.out.bel)).mono ?_
 rintro e W1 ⟨rfl,hb⟩
 have HL1:=Lib.hid (HL.out.below hb)
 clear hb
 obtain ⟨⟨cw,ce⟩,HC⟩:∃ c,Hid (Chk.check x=c):=⟨_,Lib.hid rfl⟩
 rw [HC.out] at HR
 rw [HC.out]
 simp only at HR ⊢
 by_cases h0:ce=0
 case neg =>
  have HE:Hid (ce=R):=Lib.hid (by rw [←HR.out,if_pos h0])
  have t0:((ce:Int) != 0)=true:=by rw [bne_iff_ne];omega
  have t1:¬(ce:Int)=0:=by omega
  have t2:((ce:Int)==0)=false:=by rw [beq_eq_false_iff_ne];omega
  go_wp2_with fail
  go_ret
  exact ⟨by rw [←HE.out];rfl,HL1.out.bel⟩
 subst h0
 have hRt:Chk.Right x:=Chk.check_ok (by rw [HC.out])
 have HRT:=Lib.hid hRt
 have HR2:Hid ((if Chk.right x t=true then 0 else 131)=R):=Lib.hid (by rw [←HR.out];simp only [ne_eq,not_true,if_false])
 clear HR HC
 simp only [Int.cast_ofNat_Int]
 go_wp2_with fail
 refine (pType_any _ t _ (HKW.out.below HL1.out.bel) (ERow.below HS.out HL1.out.bel (fun _ _ h=>h))).mono ?_
 rintro e W2 ⟨rfl,hb⟩
 have HL2:=Lib.hid (HL1.out.below hb)
 clear hb
 obtain ⟨T,HT⟩:∃ T,Hid (Prn.typeP t=T):=⟨_,Lib.hid rfl⟩
 have HRR:Hid (Chk.right x t=(!T.toList.isEmpty&&Vl.lastOk x t)):=Lib.hid (by rw [Vl.right_typeP HRT.out,HT.out])
 have HLEN:Hid (T.toList.isEmpty=false→n≠0∧n≤12):=Lib.hid (fun h=>by rw [HN.out];exact Vl.typeP_len (by rw [HT.out];exact h))
 rw [HT.out]
 clear HT HL HL1
 cases hte:T.toList.isEmpty
 case true =>
  have HE:Hid (131=R):=Lib.hid (by rw [←HR2.out,if_neg (by rw [HRR.out,hte];simp)])
  go_wp2_with fail
  go_ret
  exact ⟨by rw [←HE.out];rfl,HL2.out.bel⟩
 obtain ⟨hn0,hn12⟩:=HLEN.out hte
 obtain ⟨k,rfl⟩:∃ k,n=k+1:=⟨n - 1,by omega⟩
 have hka:k<t.length:=by rw [←HN.out];omega
 obtain ⟨g,off,cs,rfl,-,e1,hc⟩:=ERow.get HS.out hka (by omega)
 have hlo:Vl.lastOk x t=(t[k].kind != 7||(Chk.find x t[k].name).isSome):=by unfold Vl.lastOk;rw [List.getLast?_eq_getElem?,show t.length - 1=k by rw [←HN.out];omega,List.getElem?_eq_getElem hka]
 obtain ⟨⟨yk,yn⟩,Hy⟩:∃ y,Hid (t[k]=y):=⟨_,Lib.hid rfl⟩
 rw [Hy.out] at e1 hlo
 unfold Id.SortE Id.Srt.cells at e1
 subst e1
 have HX:Hid ((if (yk != 7||(Chk.find x yn).isSome)=true then 0 else 131)=R):=Lib.hid (by rw [←HR2.out,HRR.out,hte,hlo];rfl)
 have a0:=hc 0 _ rfl
 have a1:=hc 1 _ rfl
 simp only [Nat.add_zero] at a0
 have hgl:g<w.heap.size:=World.block_lt_of_cell? w _ a0
 have a0:=(HL2.out.bel.cell hgl).trans a0
 have a1:=(HL2.out.bel.cell hgl).trans a1
 have HTE:=Lib.hid hte
 have e5:(((k+1:Nat):Int) - 1)=(k:Int):=by omega
 have e6:((k:Int)+1 - 1)=(k:Int):=by omega
 have ik0:(0:Int)≤(k:Int):=by omega
 have ik1:(k:Int)<((k+1:Nat):Int):=by omega
 have ik2:(k:Int)<(k:Int)+1:=by omega
 clear hc Hy hlo HLEN HR2 HRR hn0
 go_upto_region 7 with (fail)
 refine wp_named (fun W3 hW=>?_)
 obtain ⟨hb3,hq3,-⟩:=fresh_box hW
 clear hW
 have HL3:=Lib.hid (HL2.out.below hb3)
 obtain ⟨⟨b0,b1⟩,-⟩:=hq3.k2
 clear hb3 hq3 a0 a1 HL2 hte
 by_cases h7:yk=7
 case neg =>
  have HE:Hid (0=R):=Lib.hid (by rw [←HX.out,if_pos (by rw [show (yk != 7)=true by rw [bne_iff_ne];exact h7];rfl)])
  have t0:((yk:Int)==7)=false:=by rw [beq_eq_false_iff_ne];omega
  have t1:¬(yk:Int)=7:=by omega
  go_wp2_with fail
  go_ret
  exact ⟨by rw [←HE.out];rfl,HL3.out.bel⟩
 subst h7
 simp only [Int.cast_ofNat_Int] at *
 obtain ⟨⟨q0,q1,q2,q3⟩,-⟩:=HL3.out.box.k4
 go_wp2_with fail
 refine (cfind_any _ x yn (Vl.fine_small HF.out) _ (HV.out.below HL3.out.bel)).mono ?_
 rintro e W4 ⟨u,rfl,hb,uu,rfl,hu⟩
 obtain ⟨A9,n9,c9,rfl⟩:=ERow.is hu
 have HL4:=Lib.hid (HL3.out.below hb)
 clear hb hu b0 b1 q0 q1 q2 q3
 cases hs:(Chk.find x yn).isSome
 case false =>
  have HE:Hid (131=R):=Lib.hid (by rw [←HX.out,if_neg (by rw [hs];decide)])
  go_wp2_with fail
  go_ret
  exact ⟨by rw [←HE.out];rfl,HL4.out.bel.trans (((Below.refl _ _).alloc (Nat.le_refl _) _).mono HL4.out.bel.size)⟩
 have HE:Hid (0=R):=Lib.hid (by rw [←HX.out,if_pos (by rw [hs];rfl)])
 go_wp2_with fail
 go_ret
 exact ⟨by rw [←HE.out];rfl,HL4.out.bel.trans (((Below.refl _ _).alloc (Nat.le_refl _) _).mono HL4.out.bel.size)⟩
namespace Cd
theorem xor_all {a:Nat} (h:a<18446744073709551616):a ^^^ 18446744073709551615=18446744073709551615 - a:=by
 have h1:(BitVec.ofNat 64 a ^^^ BitVec.allOnes 64)= ~~~(BitVec.ofNat 64 a):=BitVec.xor_allOnes
 have h2:=congrArg BitVec.toNat h1
 rw [BitVec.toNat_xor,BitVec.toNat_allOnes,BitVec.toNat_not,BitVec.toNat_ofNat,Nat.mod_eq_of_lt (by simpa using h)] at h2
 simpa using h2
theorem zig_eq {n:Int} (h1:-9223372036854775808≤n) (h2:n≤9223372036854775807):bits .xor .u64 (IntKind.u64.wrap (IntKind.u64.wrap n * 2)) (IntKind.u64.wrap (n / 9223372036854775808))=((zz n:Nat):Int):=by
 rw [IntKind.wrap_u64,IntKind.wrap_u64,IntKind.wrap_u64]
 by_cases h:0≤n
 ·have eA:n % 18446744073709551616 * 2 % 18446744073709551616=((2 * n.toNat:Nat):Int):=by omega
  have eB:n / 9223372036854775808 % 18446744073709551616=((0:Nat):Int):=by omega
  rw [eA,eB,u64_xor_nat _ _ (by omega) (by omega),Nat.xor_zero]
  unfold zz
  rw [if_pos h]
 ·have eA:n % 18446744073709551616 * 2 % 18446744073709551616=((18446744073709551616 - 2 * (-n).toNat:Nat):Int):=by omega
  have eB:n / 9223372036854775808 % 18446744073709551616=((18446744073709551615:Nat):Int):=by omega
  rw [eA,eB,u64_xor_nat _ _ (by omega) (by omega),xor_all (by omega)]
  unfold zz
  rw [if_neg h]
  omega
theorem back_eq {u:Nat} (h:u<18446744073709551616):bits .xor .i64 ((u:Int) / 2) (IntKind.i64.wrap (-IntKind.i64.wrap (bits .and .u64 (u:Int) 1)))=un u:=by
 have e1:bits .and .u64 (u:Int) 1=((u % 2:Nat):Int):=by
  have h:=u64_and_nat u 1 h (by omega)
  rw [Nat.and_one_is_mod] at h
  exact h
 rw [e1]
 have e2:(u:Int) / 2=((u / 2:Nat):Int):=by omega
 rw [e2]
 have hu:u / 2<9223372036854775808:=by omega
 unfold un
 rcases Nat.mod_two_eq_zero_or_one u with h0 | h0
 ·rw [h0,if_pos rfl]
  show IntKind.i64.wrap ((BitVec.ofInt 64 ((u / 2:Nat):Int) ^^^ BitVec.ofInt 64 0).toNat:Int)=_
  rw [BitVec.toNat_xor,ofInt_u64 _ (by omega),show (BitVec.ofInt 64 0).toNat=0 from rfl,Nat.xor_zero]
  unfold IntKind.wrap
  simp [IntKind.bits,IntKind.signed]
  omega
 ·rw [h0,if_neg (by omega)]
  show IntKind.i64.wrap ((BitVec.ofInt 64 ((u / 2:Nat):Int) ^^^ BitVec.ofInt 64 (-1)).toNat:Int)=_
  rw [BitVec.toNat_xor,ofInt_u64 _ (by omega),show (BitVec.ofInt 64 (-1)).toNat=18446744073709551615 from rfl,xor_all (by omega)]
  unfold IntKind.wrap
  simp [IntKind.bits,IntKind.signed]
  omega
end Cd
set_option maxRecDepth 100000 in
theorem czig_any (n:Int) (h1:-9223372036854775808≤n) (h2:n≤9223372036854775807) (w:World) :
  Calls Tryz.prog 52 #[.int .i64 n] w fun e w'=>e=.returned (.int .u64 (Cd.zz n:Nat))∧w'=w:=by
 have HE:=Lib.hid (Cd.zig_eq h1 h2)
 go_enter Tryz.func52,Tryz.ntmps52
 go_wp2_with fail
 go_ret
 exact ⟨by first | (rw [HE.out];rfl) | rfl,rfl⟩
set_option maxRecDepth 100000 in
theorem cback_any (u:Nat) (h2:u<18446744073709551616) (w:World) :
  Calls Tryz.prog 108 #[.int .u64 u] w fun e w'=>e=.returned (.int .i64 (Cd.un u))∧w'=w:=by
 have HE:Hid (bits .xor .i64 ((u:Int) / 2) (wrap64 (-wrap64 (bits .and .u64 (u:Int) 1)))=Cd.un u):=Lib.hid (by
  have e:∀ n,wrap64 n=IntKind.i64.wrap n:=fun n=>by first | (rw [IntKind.wrap_i64];rfl) | (rw [IntKind.wrap_i64];unfold wrap64;rfl) | simp [wrap64,IntKind.wrap,IntKind.bits,IntKind.signed]
  rw [e,e]
  exact Cd.back_eq h2)
 go_enter Tryz.func108,Tryz.ntmps108
 go_wp2_with fail
 go_ret
 exact ⟨by rw [←HE.out];rfl,rfl⟩
end Go.Proofs.YtjfdohhdkdjifaaGreatDoor
set_option linter.unusedVariables false
set_option linter.unusedSimpArgs false
namespace Go.Proofs.YtjfdohhdkdjifaaGreatDoor
open Go.RowKit Go.BigFrame
namespace Cd
open Go.Proofs.YtjfdohhdkdjifaaGreatDoor.Id Go.Proofs.YtjfdohhdkdjifaaGreatDoor.Chk Go.Proofs.YtjfdohhdkdjifaaGreatDoor.Vl Go.Proofs.YtjfdohhdkdjifaaGreatDoor.Ev
/-- A part's bytes as Go converts its numbers. -/
def encG (n:Vl.Node):List UInt8 :=
 if n.kind=2 then [UInt8.ofNat (n.int % 256).toNat] else if n.kind=3 then var (zz n.int) else if n.kind=4 then var n.text.size++n.text.data.toList
 else if n.kind=5 then var (n.kids % 18446744073709551616).toNat else if n.kind=6 then [UInt8.ofNat (n.kids % 256).toNat] else if n.kind=8 then var (n.int % 18446744073709551616).toNat else []
def encGs (v:List Vl.Node):List UInt8:=v.flatMap encG
theorem encGs_next {v:List Vl.Node} {k:Nat} (h:k<v.length):encGs (v.take (k+1))=encGs (v.take k)++encG v[k]:=by
 unfold encGs
 rw [List.take_succ_eq_append_getElem h,List.flatMap_append]
 simp
theorem encG_len (n:Vl.Node):(encG n).length≤10+n.text.size:=by
 unfold encG
 have h1:=fun u=>(var_len u).2
 split
 ·simp;omega
 ·split
  ·have:=h1 (zz n.int);omega
  ·split
   ·rw [List.length_append];have:=h1 n.text.size;simp;omega
   ·split
    ·have:=h1 (n.kids % 18446744073709551616).toNat;omega
    ·split
     ·simp;omega
     ·split
      ·have:=h1 (n.int % 18446744073709551616).toNat;omega
      ·simp
theorem encGs_len:∀ (v:List Vl.Node),(encGs v).length≤10 * v.length+tsum v
 | []=>by simp [encGs,tsum]
 | n::v=>by
  have h1:=encG_len n
  have h2:=encGs_len v
  unfold encGs tsum at *
  simp only [List.flatMap_cons,List.length_append,List.length_cons,List.map_cons,List.sum_cons]
  omega
theorem encGs_take_len (v:List Vl.Node) (k:Nat):(encGs (v.take k)).length≤(encGs v).length:=by
 conv=>rhs;rw [←List.take_append_drop k v]
 unfold encGs
 rw [List.flatMap_append,List.length_append]
 omega
theorem byte_int (i:Int):Sm.byteV (UInt8.ofNat (i % 256).toNat)=.int .u8 (i % 256):=by
 unfold Sm.byteV
 rw [Sm.ofNat_toNat]
 congr 1
 omega
def encB (R:Nat) (v:List Vl.Node):ByteArray:=if R=0 then ⟨(encGs v).toArray⟩ else ⟨#[]⟩
/-- What a value's bytes are read as; what is not read, and where. -/
noncomputable def decP (s:Sch) (t:List Srt) (b:List UInt8):List Vl.Node × Nat × Nat:=if typE s t≠0 then ([],0,typE s t) else match decF s b 12 t ⟨0,[],0⟩ with
 | .error p=>([],p.1,p.2)
 | .ok y=>if y.at_<b.length then ([],y.at_,162) else (y.v,0,0)
end Cd
end Go.Proofs.YtjfdohhdkdjifaaGreatDoor
