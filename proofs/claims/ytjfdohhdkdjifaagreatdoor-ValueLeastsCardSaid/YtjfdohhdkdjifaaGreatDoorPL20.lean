/- value.types and value.Fits (printed by gen_valt.py). No condition but the keywords' table and the ones the theorems state. -/
import Derived.Test.YtjfdohhdkdjifaaGreatDoorPL19
import Derived.Test.YtjfdohhdkdjifaaGreatDoorPL16
import Derived.Test.YtjfdohhdkdjifaaGreatDoorPL13
import Derived.Test.YtjfdohhdkdjifaaGreatDoorPL18
import Derived.Test.YtjfdohhdkdjifaaGreatDoorPL17
set_option linter.unusedVariables false
set_option linter.unusedSimpArgs false
namespace Go.Proofs.YtjfdohhdkdjifaaGreatDoor
open Go.RowKit Go.BigFrame
namespace Vl
open Go.Proofs.YtjfdohhdkdjifaaGreatDoor.Id Go.Proofs.YtjfdohhdkdjifaaGreatDoor.Chk
/-- What is not right in a schema and a type. -/
noncomputable def typE (s:Sch) (t:List Srt):Nat:=if (check s).2≠0 then (check s).2 else if right s t=true then 0 else 131
theorem typeP_len {t:List Srt} (h:(Prn.typeP t).toList.isEmpty=false):t.length≠0∧t.length≤12:=by
 rw [typeP_empty] at h
 have h3:(decide (t.length≤12)&&Prn.okP t)=true:=by simpa using h
 rw [Bool.and_eq_true,decide_eq_true_eq] at h3
 refine ⟨fun e=>?_,h3.1⟩
 have h4:t=[]:=List.length_eq_zero_iff.1 e
 subst h4
 cases h3.2
theorem fits_typ {s:Sch} {t:List Srt} {v:List Node} (h:typE s t≠0):fits s t v=typE s t:=by
 unfold typE at h ⊢
 unfold fits
 split
 ·rfl
 ·rename_i h1
  rw [if_neg h1] at h
  split at h
  ·exact absurd rfl h
  ·rename_i h2
   rw [if_pos (by simpa using h2),if_neg h2]
theorem typ_ok {s:Sch} {t:List Srt} (h:typE s t=0):Right s∧right s t=true:=by
 unfold typE at h
 split at h
 ·rename_i h1;exact absurd h h1
 ·rename_i h1
  split at h
  ·rename_i h2;exact ⟨check_ok (by omega),h2⟩
  ·cases h
def fitsV (v:List Node) (R:Option (Nat × List Node)):Nat:=match R with
 | none=>150
 | some p=>if p.2.length≠0 then 150 else if 12<p.1 then 151 else if 4096<size v then 3 else 0
theorem fits_ofV {s:Sch} {t:List Srt} {v:List Node} (h:typE s t=0):fits s t v=fitsV v (ofF s none (v.length+1) t v):=by
 obtain ⟨h1,h2⟩:=typ_ok h
 unfold fits
 rw [if_neg (by rw [check_right h1];exact fun h=>h rfl),if_neg (by rw [h2];decide)]
 rfl
def tsum (v:List Node):Nat:=(v.map (·.text.size)).sum
theorem tsum_take {v:List Node} {k:Nat} (h:k<v.length):tsum (v.take (k+1))=tsum (v.take k)+v[k].text.size:=by
 unfold tsum
 rw [List.take_succ_eq_append_getElem h,List.map_append,List.sum_append]
 simp
theorem tsum_le (v:List Node) (k:Nat):tsum (v.take k)≤tsum v:=by
 have h:tsum v=tsum (v.take k)+tsum (v.drop k):=by
  unfold tsum
  rw [←List.sum_append,←List.map_append,List.take_append_drop]
 omega
theorem size_eq (v:List Node):size v=v.length+tsum v:=rfl
theorem fine_small {x:Sch} (h:Fine x):∀ r∈x.records,r.fields.length≤1000∧∀ f∈r.fields,f.type.length≤1000:=h.small
end Vl
set_option maxRecDepth 100000 in
set_option maxHeartbeats 16000000 in
theorem vtypes_any (sv:Value) (x:Id.Sch) (hF:Chk.Fine x) (tv:Value) (t:List Id.Srt) (w:World) (hk:Tk.KW w) (hv:Id.SchV w none sv x) (ht:Id.SortsR w none tv t) :
  Calls Tryz.prog 53 #[sv,tv] w fun e w'=>e=.returned (.int .i64 (Vl.typE x t))∧Below w.heap.size w w':=by
 obtain ⟨R,HR⟩:∃ R,Hid (Vl.typE x t=R):=⟨_,Lib.hid rfl⟩
 rw [HR.out]
 unfold Vl.typE at HR
 have HF:=Lib.hid hF
 have HKW:=Lib.hid hk
 have HV:=Lib.hid hv
 have HS:=Lib.hid ht
 obtain ⟨A,n,c,rfl⟩:=ERow.is ht
 have HN:Hid (n=t.length):=Lib.hid (by obtain ⟨_,_,e,_⟩:=ERow.slice ht;injection e)
 obtain ⟨A1,n1,c1,A2,n2,c2,A3,n3,c3,rfl,-,-,-⟩:=hv
 clear hF hk ht
 go_enter Tryz.func53,Tryz.ntmps53
 go_upto_region 1 with (fail)
 refine wp_named (fun V hV=>?_)
 have HL:=Lib.hid (Chk.Lx.start hV)
 clear hV
 obtain ⟨⟨q0,q1,q2,q3⟩,-⟩:=HL.out.box.k4
 go_wp2_with fail
 clear q0 q1 q2 q3
 refine (ccheck_any _ x HF.out _ (HKW.out.below HL.out.bel) (HV.out.below HL.out.bel)).mono ?_
 rintro e W1 ⟨rfl,hb⟩
 have HL1:=Lib.hid (HL.out.below hb)
 clear hb
 obtain ⟨⟨cw,ce⟩,HC⟩:∃ c,Hid (Chk.check x=c):=⟨_,Lib.hid rfl⟩
 rw [HC.out] at HR
 rw [HC.out]
 simp only at HR ⊢
 by_cases h0:ce=0
 case neg =>
  have HE:Hid (ce=R):=Lib.hid (by rw [←HR.out,if_pos h0])
  have t0:((ce:Int) != 0)=true:=by rw [bne_iff_ne];omega
  have t1:¬(ce:Int)=0:=by omega
  have t2:((ce:Int)==0)=false:=by rw [beq_eq_false_iff_ne];omega
  go_wp2_with fail
  go_ret
  exact ⟨by rw [←HE.out];rfl,HL1.out.bel⟩
 subst h0
 have hRt:Chk.Right x:=Chk.check_ok (by rw [HC.out])
 have HRT:=Lib.hid hRt
 have HR2:Hid ((if Chk.right x t=true then 0 else 131)=R):=Lib.hid (by rw [←HR.out];simp only [ne_eq,not_true,if_false])
 clear HR HC
 simp only [Int.cast_ofNat_Int]
 go_wp2_with fail
 refine (pType_any _ t _ (HKW.out.below HL1.out.bel) (ERow.below HS.out HL1.out.bel (fun _ _ h=>h))).mono ?_
 rintro e W2 ⟨rfl,hb⟩
 have HL2:=Lib.hid (HL1.out.below hb)
 clear hb
 obtain ⟨T,HT⟩:∃ T,Hid (Prn.typeP t=T):=⟨_,Lib.hid rfl⟩
 have HRR:Hid (Chk.right x t=(!T.toList.isEmpty&&Vl.lastOk x t)):=Lib.hid (by rw [Vl.right_typeP HRT.out,HT.out])
 have HLEN:Hid (T.toList.isEmpty=false→n≠0∧n≤12):=Lib.hid (fun h=>by rw [HN.out];exact Vl.typeP_len (by rw [HT.out];exact h))
 rw [HT.out]
 clear HT HL HL1
 cases hte:T.toList.isEmpty
 case true =>
  have HE:Hid (131=R):=Lib.hid (by rw [←HR2.out,if_neg (by rw [HRR.out,hte];simp)])
  go_wp2_with fail
  go_ret
  exact ⟨by rw [←HE.out];rfl,HL2.out.bel⟩
 obtain ⟨hn0,hn12⟩:=HLEN.out hte
 obtain ⟨k,rfl⟩:∃ k,n=k+1:=⟨n - 1,by omega⟩
 have hka:k<t.length:=by rw [←HN.out];omega
 obtain ⟨g,off,cs,rfl,-,e1,hc⟩:=ERow.get HS.out hka (by omega)
 have hlo:Vl.lastOk x t=(t[k].kind != 7||(Chk.find x t[k].name).isSome):=by unfold Vl.lastOk;rw [List.getLast?_eq_getElem?,show t.length - 1=k by rw [←HN.out];omega,List.getElem?_eq_getElem hka]
 obtain ⟨⟨yk,yn⟩,Hy⟩:∃ y,Hid (t[k]=y):=⟨_,Lib.hid rfl⟩
 rw [Hy.out] at e1 hlo
 unfold Id.SortE Id.Srt.cells at e1
 subst e1
 have HX:Hid ((if (yk != 7||(Chk.find x yn).isSome)=true then 0 else 131)=R):=Lib.hid (by rw [←HR2.out,HRR.out,hte,hlo];rfl)
 have a0:=hc 0 _ rfl
 have a1:=hc 1 _ rfl
 simp only [Nat.add_zero] at a0
 have hgl:g<w.heap.size:=World.block_lt_of_cell? w _ a0
 have a0:=(HL2.out.bel.cell hgl).trans a0
 have a1:=(HL2.out.bel.cell hgl).trans a1
 have HTE:=Lib.hid hte
 have e5:(((k+1:Nat):Int) - 1)=(k:Int):=by omega
 have e6:((k:Int)+1 - 1)=(k:Int):=by omega
 have ik0:(0:Int)≤(k:Int):=by omega
 have ik1:(k:Int)<((k+1:Nat):Int):=by omega
 have ik2:(k:Int)<(k:Int)+1:=by omega
 clear hc Hy hlo HLEN HR2 HRR hn0
 go_upto_region 7 with (fail)
 refine wp_named (fun W3 hW=>?_)
 obtain ⟨hb3,hq3,-⟩:=fresh_box hW
 clear hW
 have HL3:=Lib.hid (HL2.out.below hb3)
 obtain ⟨⟨b0,b1⟩,-⟩:=hq3.k2
 clear hb3 hq3 a0 a1 HL2 hte
 by_cases h7:yk=7
 case neg =>
  have HE:Hid (0=R):=Lib.hid (by rw [←HX.out,if_pos (by rw [show (yk != 7)=true by rw [bne_iff_ne];exact h7];rfl)])
  have t0:((yk:Int)==7)=false:=by rw [beq_eq_false_iff_ne];omega
  have t1:¬(yk:Int)=7:=by omega
  go_wp2_with fail
  go_ret
  exact ⟨by rw [←HE.out];rfl,HL3.out.bel⟩
 subst h7
 simp only [Int.cast_ofNat_Int] at *
 obtain ⟨⟨q0,q1,q2,q3⟩,-⟩:=HL3.out.box.k4
 go_wp2_with fail
 refine (cfind_any _ x yn (Vl.fine_small HF.out) _ (HV.out.below HL3.out.bel)).mono ?_
 rintro e W4 ⟨u,rfl,hb,uu,rfl,hu⟩
 obtain ⟨A9,n9,c9,rfl⟩:=ERow.is hu
 have HL4:=Lib.hid (HL3.out.below hb)
 clear hb hu b0 b1 q0 q1 q2 q3
 cases hs:(Chk.find x yn).isSome
 case false =>
  have HE:Hid (131=R):=Lib.hid (by rw [←HX.out,if_neg (by rw [hs];decide)])
  go_wp2_with fail
  go_ret
  exact ⟨by rw [←HE.out];rfl,HL4.out.bel.trans (((Below.refl _ _).alloc (Nat.le_refl _) _).mono HL4.out.bel.size)⟩
 have HE:Hid (0=R):=Lib.hid (by rw [←HX.out,if_pos (by rw [hs];rfl)])
 go_wp2_with fail
 go_ret
 exact ⟨by rw [←HE.out];rfl,HL4.out.bel.trans (((Below.refl _ _).alloc (Nat.le_refl _) _).mono HL4.out.bel.size)⟩
set_option maxRecDepth 100000 in
set_option maxHeartbeats 16000000 in
theorem vfits_any (sv:Value) (x:Id.Sch) (hF:Chk.Fine x) (tv:Value) (t:List Id.Srt) (vs:Value) (v:List Vl.Node) (hl:v.length≤100000) (hz:∀ n∈v,n.text.size≤100000) (w:World) (hk:Tk.KW w) (hv:Id.SchV w none sv x) (ht:Id.SortsR w none tv t) (hvv:Vl.ValR w none vs v) :
  Calls Tryz.prog 18 #[sv,tv,vs] w fun e w'=>e=.returned (.int .i64 (Vl.fits x t v))∧Below w.heap.size w w':=by
 obtain ⟨R,HR⟩:∃ R,Hid (Vl.fits x t v=R):=⟨_,Lib.hid rfl⟩
 rw [HR.out]
 have HF:=Lib.hid hF
 have HKW:=Lib.hid hk
 have HV:=Lib.hid hv
 have HS:=Lib.hid ht
 have HVV:=Lib.hid hvv
 have HZ:=Lib.hid hz
 obtain ⟨A,n,c,rfl⟩:=ERow.is hvv
 have HN:Hid (n=v.length):=Lib.hid (by obtain ⟨_,_,e,_⟩:=ERow.slice hvv;injection e)
 have hn:n≤100000:=by rw [HN.out];exact hl
 obtain ⟨A1,n1,c1,A2,n2,c2,A3,n3,c3,rfl,-,-,-⟩:=hv
 clear hF hk ht hvv hz
 go_enter Tryz.func18,Tryz.ntmps18
 go_upto_region 1 with (fail)
 refine wp_named (fun V hV=>?_)
 have HL:=Lib.hid (Chk.Lx.start hV)
 clear hV
 obtain ⟨⟨q0,q1,q2,q3⟩,-⟩:=HL.out.box.k4
 go_wp2_with fail
 clear q0 q1 q2 q3
 refine (vtypes_any _ x HF.out _ t _ (HKW.out.below HL.out.bel) (HV.out.below HL.out.bel) (ERow.below HS.out HL.out.bel (fun _ _ h=>h))).mono ?_
 rintro e W1 ⟨rfl,hb⟩
 have HL1:=Lib.hid (HL.out.below hb)
 clear hb HL
 obtain ⟨ce,HC⟩:∃ c,Hid (Vl.typE x t=c):=⟨_,Lib.hid rfl⟩
 rw [HC.out]
 by_cases h0:ce=0
 case neg =>
  have HE:Hid (ce=R):=Lib.hid (by rw [←HR.out,Vl.fits_typ (by rw [HC.out];exact h0),HC.out])
  have t0:((ce:Int) != 0)=true:=by rw [bne_iff_ne];omega
  have t1:¬(ce:Int)=0:=by omega
  have t2:((ce:Int)==0)=false:=by rw [beq_eq_false_iff_ne];omega
  go_wp2_with fail
  go_ret
  exact ⟨by rw [←HE.out];rfl,HL1.out.bel⟩
 subst h0
 have HRT:=Lib.hid (Vl.typ_ok HC.out)
 have HR2:Hid (Vl.fitsV v (Vl.ofF x none (v.length+1) t v)=R):=Lib.hid (by rw [←HR.out,Vl.fits_ofV HC.out])
 clear HR HC
 simp only [Int.cast_ofNat_Int]
 obtain ⟨⟨q0,q1,q2,q3⟩,-⟩:=HL1.out.box.k4
 go_wp2_with fail
 clear q0 q1 q2 q3
 refine (vfinder_any _ x (fun r hr=>by have:=Vl.name_size ((Prn.ok_of_right HRT.out.1).rn r hr);omega) HF.out.recs _ (HV.out.below HL1.out.bel)).mono ?_
 rintro e W2 ⟨g,m,rfl,hb,hf⟩
 have HL2:=Lib.hid (HL1.out.below hb)
 have HFD:=Lib.hid hf
 have HB12:=Lib.hid hb
 have HB01:=Lib.hid HL1.out.bel
 clear hb hf HL1
 go_upto_region 5 with (fail)
 refine wp_named (fun W3 hW=>?_)
 obtain ⟨hb3,hq3,-⟩:=fresh_box hW
 clear hW
 have HL3:=Lib.hid (HL2.out.below hb3)
 have HW23:=Lib.hid hb3
 have HQ3:=Lib.hid hq3
 have hb2:W2.heap.size<W3.heap.size:=hq3.lt
 clear hb3 hq3
 have HEN:Hid (Vl.Env x W1 W3 W2.heap.size g m):=Lib.hid (by have hg:=HFD.out.bx.lt;have hm:=HFD.out.fm.lt;exact ⟨bl_join HB12.out HW23.out,HFD.out.below HW23.out,HB12.out.size,by omega,by omega,hb2⟩)
 go_wp2_with fail
 refine (vof_any x v _ W1 W2.heap.size g m (ERow.below HVV.out HB01.out (fun _ _ h=>h)) hl HRT.out.1 (v.length+1) _ t 0 W3 (Vl.right_okT HRT.out.2).1 (Vl.right_okT HRT.out.2).2 (Nat.zero_le _) (by omega) HEN.out HQ3.out (ERow.below HS.out HB01.out (fun _ _ h=>h))).mono ?_
 rw [List.drop_zero]
 rintro e W4 ⟨a1,rfl,hg,hc,ha,hp⟩
 have HB4:=Lib.hid (below_gb HL3.out.bel hg HL2.out.bel.size (HL3.out.bel.size))
 have HQ4:=Lib.hid hc
 obtain ⟨⟨p0,p1,p2⟩,-⟩:=(show Bk W4 W2.heap.size 106 #[.slice A n c,.int .i64 a1,Vl.fndV g] from hc).k3
 clear hg hc
 cases hq:Vl.ofF x none (v.length+1) t v with
 | none =>
  have HE:Hid (150=R):=Lib.hid (by rw [←HR2.out,hq];rfl)
  have e0:Vl.deep (none:Option (Nat × List Vl.Node))=0:=rfl
  rw [e0]
  simp only [Int.cast_ofNat_Int]
  clear hp hq
  go_wp2_with fail
  go_ret
  exact ⟨by rw [←HE.out];rfl,HB4.out⟩
 | some p =>
  obtain ⟨d,r⟩:=p
  have hr:r=v.drop a1:=hp _ hq
  have hdp:=Vl.of_deep _ _ _ _ _ hq
  have hln:=(Vl.of_len (N:=v.length) _ _ _ _ _ (Nat.le_refl _) hq).1
  have hrl:r.length=n - a1:=by rw [hr,List.length_drop,HN.out]
  have HX:Hid ((if r.length≠0 then 150 else if 12<d then 151 else if 4096<Vl.size v then 3 else 0)=R):=Lib.hid (by rw [←HR2.out,hq];rfl)
  have e0:Vl.deep (some (d,r))=d:=rfl
  rw [e0]
  have hd1:((d:Int)==0)=false:=by rw [beq_eq_false_iff_ne];omega
  have hd2:¬(d:Int)=0:=by omega
  have hd3:¬d=0:=by omega
  have han:a1≤n:=by rw [HN.out];exact ha
  clear hp hq hr hdp HR2
  by_cases h1:a1<n
  case pos =>
   have HE:Hid (150=R):=Lib.hid (by rw [←HX.out];rw [if_pos (by omega)])
   have t0:((a1:Int) != (n:Int))=true:=by rw [bne_iff_ne];omega
   have t1:((a1:Int)==(n:Int))=false:=by rw [beq_eq_false_iff_ne];omega
   have t2:¬(a1:Int)=(n:Int):=by omega
   have t3:¬a1=n:=by omega
   go_wp2_with fail
   go_ret
   exact ⟨by rw [←HE.out];rfl,HB4.out⟩
  obtain rfl:a1=n:=by omega
  have HX2:Hid ((if 12<d then 151 else if 4096<Vl.size v then 3 else 0)=R):=Lib.hid (by have h:=HX.out;rw [if_neg (by omega)] at h;exact h)
  clear HX
  have HX:=HX2
  clear HX2
  by_cases h2:12<d
  case pos =>
   have HE:Hid (151=R):=Lib.hid (by rw [←HX.out];rw [if_pos h2])
   have t0:(12:Int)<(d:Int):=by omega
   go_wp2_with fail
   go_ret
   exact ⟨by rw [←HE.out];rfl,HB4.out⟩
  have t12:¬(12:Int)<(d:Int):=by omega
  have HX2:Hid ((if 4096<Vl.size v then 3 else 0)=R):=Lib.hid (by rw [←HX.out,if_neg h2])
  clear HX
  have HX:=HX2
  clear HX2
  by_cases h3:4096<a1
  case pos =>
   have HE:Hid (3=R):=Lib.hid (by rw [←HX.out];rw [if_pos (by rw [Vl.size_eq,←HN.out];omega)])
   have t0:(4096:Int)<(a1:Int):=by omega
   go_wp2_with fail
   go_ret
   exact ⟨by rw [←HE.out];rfl,HB4.out⟩
  have t13:¬(4096:Int)<(a1:Int):=by omega
  go_wp2_with fail
  clear p0 p1 p2
  go_loopw [10,50] (fun sz i wr=>∃ (k z:Nat),k≤a1∧i=.int .i64 k∧sz=.int .i64 z∧z≤4096∧Hid (z=a1+Vl.tsum (v.take k))∧Hid (Below w.heap.size w wr)) (fun _ i _=>a1 - (intOf i).toNat)
  case atStart=>exact ⟨0,a1,by omega,rfl,rfl,by omega,Lib.hid rfl,HB4⟩
  case round =>
   obtain ⟨k,z,hk,rfl,rfl,hz,HZK,HB⟩:=hrel
   obtain ⟨U,rfl⟩:∃ w',w'=wr:=⟨_,rfl⟩
   have ik0:(0:Int)≤(k:Int):=by omega
   by_cases hlt:k<a1
   case neg =>
    have HE:Hid (0=R):=Lib.hid (by rw [←HX.out,if_neg (by have h:=HZK.out;rw [List.take_of_length_le (by rw [←HN.out];omega)] at h;rw [Vl.size_eq,←HN.out,←h];omega)])
    go_wp2_with fail
    go_ret
    exact ⟨by rw [←HE.out];rfl,HB.out⟩
   have hka:k<v.length:=by rw [←HN.out];exact hlt
   obtain ⟨g5,off,cs,rfl,-,e1,hc⟩:=ERow.get HVV.out hka (by omega)
   have hzk:=HZ.out _ (List.getElem_mem hka)
   have hts:=Vl.tsum_take hka
   obtain ⟨⟨nk,ni,nt,nd⟩,Hx⟩:∃ y,Hid (v[k]=y):=⟨_,Lib.hid rfl⟩
   rw [Hx.out] at e1 hzk hts
   unfold Vl.NodE Vl.Node.cells at e1
   subst e1
   simp only at hzk hts
   have HTS:=Lib.hid hts
   have a0:=hc 0 _ rfl
   have a1c:=hc 1 _ rfl
   have a2:=hc 2 _ rfl
   have a3:=hc 3 _ rfl
   simp only [Nat.add_zero] at a0
   have hgl:g5<w.heap.size:=World.block_lt_of_cell? w _ a0
   have a0:=(HB.out.cell hgl).trans a0
   have a1c:=(HB.out.cell hgl).trans a1c
   have a2:=(HB.out.cell hgl).trans a2
   have a3:=(HB.out.cell hgl).trans a3
   have ik1:(k:Int)<(a1:Int):=by omega
   have hbsz:=HB.out.size
   clear hc Hx hts
   go_upto_region 16 with (fail)
   refine wp_named (fun U1 hW=>?_)
   obtain ⟨hb5,hq5,-⟩:=fresh_box hW
   clear hW
   have HB5:=Lib.hid (HB.out.trans (hb5.mono hbsz))
   obtain ⟨⟨b0,b1,b2,b3⟩,-⟩:=hq5.k4
   clear hb5 hq5 a0 a1c a2 a3 HB
   by_cases hbig:4096<z+nt.size
   case pos =>
    have HE:Hid (3=R):=Lib.hid (by rw [←HX.out,if_pos (by have h:=Vl.tsum_le v (k+1);rw [HTS.out] at h;rw [Vl.size_eq,←HN.out];have:=HZK.out;omega)])
    have t0:(4096:Int)<(z:Int)+(nt.size:Int):=by omega
    go_wp2_with fail
    go_ret
    exact ⟨by rw [←HE.out];rfl,HB5.out⟩
   have t0:¬(4096:Int)<(z:Int)+(nt.size:Int):=by omega
   have HZ2:Hid (z+nt.size=a1+Vl.tsum (v.take (k+1))):=Lib.hid (by rw [HTS.out,HZK.out];omega)
   go_wp2_with fail
   go_roundw
   case rel=>exact ⟨k+1,z+nt.size,by omega,by go_num,by go_num,by omega,HZ2,HB5⟩
   case measure=>simp [intOf];omega
end Go.Proofs.YtjfdohhdkdjifaaGreatDoor
set_option linter.unusedVariables false
set_option linter.unusedSimpArgs false
namespace Go.Proofs.YtjfdohhdkdjifaaGreatDoor
open Go.RowKit Go.BigFrame
namespace Vl
open Go.Proofs.YtjfdohhdkdjifaaGreatDoor.Id Go.Proofs.YtjfdohhdkdjifaaGreatDoor.Chk
def KidE (w0 w:World) (cs:List Value) (t:List Srt):Prop:=∃ u,cs=[u]∧SortsR w0 none u t
def KidR (w0 w:World) (v:Value) (l:List (List Srt)):Prop:=ERow w (some w0.heap.size) 45 1 (KidE w0) v l
theorem KidR.below {w0 w w':World} {v:Value} {l:List (List Srt)} (h:KidR w0 w v l) (hb:Below w.heap.size w w'):KidR w0 w' v l:=ERow.below h hb (fun _ _ h=>h)
/-- What lies there while a whole is gone over. -/
structure Go5 (w wr:World) (S nd st:Array Value):Prop where
 bel:Below w.heap.size w wr
 sch:Bk wr w.heap.size 28 S
 node:Bk wr (w.heap.size+1) 71 nd
 sort:Bk wr (w.heap.size+2) 44 st
theorem Go5.below {w wr w':World} {S nd st:Array Value} (h:Go5 w wr S nd st) (hb:Below wr.heap.size wr w'):Go5 w w' S nd st :=
 ⟨h.bel.trans (hb.mono h.bel.size),h.sch.below hb h.sch.lt,h.node.below hb h.node.lt,h.sort.below hb h.sort.lt⟩
theorem Go5.base {w wr w':World} {B:Nat} {S nd st:Array Value} (h:Go5 w wr S nd st) (hb:Below B wr w') (hB:w.heap.size+3≤B):Go5 w w' S nd st :=
 ⟨h.bel.trans (hb.mono (by omega)),h.sch.below hb (by omega),h.node.below hb (by omega),h.sort.below hb (by omega)⟩
end Vl
end Go.Proofs.YtjfdohhdkdjifaaGreatDoor
set_option linter.unusedVariables false
set_option linter.unusedSimpArgs false
namespace Go.Proofs.YtjfdohhdkdjifaaGreatDoor
open Go.RowKit Go.BigFrame
namespace Vl
theorem endL_zero (N:Nat) (r:List Node):endL N 0 r=some r:=by cases r <;> rfl
theorem endAt_nat (v:List Node) (a:Nat):endAt v (a:Int)=endL v.length 1 (v.drop a):=by
 unfold endAt
 rw [if_pos (by omega),Int.toNat_natCast]
theorem endAt_neg (v:List Node) {a:Int} (h:a<0):endAt v a=none:=by
 unfold endAt
 rw [if_neg (by omega)]
theorem endAt_far (v:List Node) {a:Int} (h:(v.length:Int)≤a):endAt v a=none:=by
 unfold endAt
 split
 ·rw [List.drop_of_length_le (by omega)]
  rfl
 ·rfl
theorem endL_step {N m:Nat} {n:Node} {r:List Node} {d:Nat} (hd:n.kids=d) (hN:d≤N):endL N (m+1) (n::r)=endL N (m+d) r:=by
 conv=>lhs;unfold endL
 rw [hd,if_pos ⟨by omega,by omega⟩,Int.toNat_natCast]
theorem endL_bad {N m:Nat} {n:Node} {r:List Node} (h:n.kids<0∨(N:Int)<n.kids):endL N (m+1) (n::r)=none:=by
 unfold endL
 rw [if_neg (by omega)]
theorem endV_some {v r:List Node} {k:Nat} (hk:k≤v.length) (h:r=v.drop k):endV v (some r)=(k:Int):=by
 subst h
 show (v.length:Int) - ((v.drop k).length:Int)=k
 rw [List.length_drop]
 omega
end Vl
set_option maxRecDepth 100000 in
set_option maxHeartbeats 16000000 in
theorem vend_any (vs:Value) (v:List Vl.Node) (a:Int) (w:World) (hv:Vl.ValR w none vs v) (hl:v.length≤100000) :
  Calls Tryz.prog 61 #[vs,.int .i64 a] w fun e w'=>e=.returned (.int .i64 (Vl.endV v (Vl.endAt v a)))∧w'=w:=by
 obtain ⟨R,HR⟩:∃ R,Hid (Vl.endAt v a=R):=⟨_,Lib.hid rfl⟩
 rw [HR.out]
 obtain ⟨A,n,c,rfl⟩:=ERow.is hv
 have HN:Hid (n=v.length):=Lib.hid (by obtain ⟨_,_,e,_⟩:=ERow.slice hv;injection e)
 have hn:n≤100000:=by rw [HN.out];exact hl
 have HV:=Lib.hid hv
 clear hv hl
 by_cases h0:a<0
 case pos =>
  have HE:Hid (R=none):=Lib.hid (by rw [←HR.out];exact Vl.endAt_neg v h0)
  go_enter Tryz.func61,Tryz.ntmps61
  go_wp2_with fail
  go_ret
  exact ⟨by rw [HE.out];rfl,rfl⟩
 by_cases h1:(n:Int)≤a
 case pos =>
  have HE:Hid (R=none):=Lib.hid (by rw [←HR.out];exact Vl.endAt_far v (by rw [←HN.out];exact h1))
  go_enter Tryz.func61,Tryz.ntmps61
  go_wp2_with fail
  go_ret
  exact ⟨by rw [HE.out];rfl,rfl⟩
 obtain ⟨k0,rfl⟩:∃ k:Nat,a=k:=⟨a.toNat,by omega⟩
 have hk0:k0≤n:=by omega
 have hk1:¬n≤k0:=by omega
 have HS:Hid (Vl.endL n 1 (v.drop k0)=R):=Lib.hid (by rw [←HR.out,Vl.endAt_nat,←HN.out])
 clear HR
 go_enter Tryz.func61,Tryz.ntmps61
 go_wp2_with fail
 go_loopw [1,5] (fun i j wr=>∃ (k l:Nat),k≤n∧i=.int .i64 k∧j=.int .i64 l∧l≤1+k * 100000∧Hid (Vl.endL n l (v.drop k)=R)∧w=wr) (fun i _ _=>n - (intOf i).toNat)
 case atStart=>exact ⟨k0,1,hk0,rfl,rfl,by omega,HS,rfl⟩
 case round =>
  obtain ⟨k,l,hk,rfl,rfl,hl,HK,rfl⟩:=hrel
  have ik0:(0:Int)≤(k:Int):=by omega
  have hl2:l≤10000100001:=by omega
  cases l with
  | zero =>
   have HE:Hid (R=some (v.drop k)):=Lib.hid (by rw [←HK.out,Vl.endL_zero])
   try simp only [Int.cast_ofNat_Int] at *
   go_wp2_with fail
   go_ret
   exact ⟨by rw [HE.out,Vl.endV_some (by rw [←HN.out];exact hk) rfl];rfl,rfl⟩
  | succ m =>
   have t0:(0:Int)<((m+1:Nat):Int):=by omega
   have t0n:0<m+1:=by omega
   by_cases hlt:k<n
   case neg =>
    obtain rfl:k=n:=by omega
    have HE:Hid (R=none):=Lib.hid (by rw [←HK.out,List.drop_of_length_le (by rw [←HN.out];exact Nat.le_refl _)];rfl)
    go_wp2_with fail
    go_ret
    exact ⟨by rw [HE.out];rfl,rfl⟩
   have hka:k<v.length:=by rw [←HN.out];exact hlt
   obtain ⟨g,off,cs,rfl,-,e1,hc⟩:=ERow.get HV.out hka (by omega)
   obtain ⟨⟨nk,ni,nt,nd⟩,Hx⟩:∃ y,Hid (v[k]=y):=⟨_,Lib.hid rfl⟩
   have HD:Hid (v.drop k=⟨nk,ni,nt,nd⟩::v.drop (k+1)):=Lib.hid (by rw [List.drop_eq_getElem_cons hka,Hx.out])
   rw [Hx.out] at e1
   unfold Vl.NodE Vl.Node.cells at e1
   subst e1
   have a3:=hc 3 _ rfl
   have ik1:(k:Int)<(n:Int):=by omega
   clear hc Hx
   have t1:((k:Int)==(n:Int))=false:=by rw [beq_eq_false_iff_ne];omega
   have t1n:¬(k:Int)=(n:Int):=by omega
   rw [HD.out] at HK
   by_cases hd0:nd<0
   case pos =>
    have HE:Hid (R=none):=Lib.hid (by rw [←HK.out];exact Vl.endL_bad (.inl hd0))
    clear HK
    go_wp2_with fail
    go_ret
    exact ⟨by rw [HE.out];rfl,rfl⟩
   by_cases hd1:(n:Int)<nd
   case pos =>
    have HE:Hid (R=none):=Lib.hid (by rw [←HK.out];exact Vl.endL_bad (.inr hd1))
    clear HK
    go_wp2_with fail
    go_ret
    exact ⟨by rw [HE.out];rfl,rfl⟩
   obtain ⟨d,rfl⟩:∃ d:Nat,nd=d:=⟨nd.toNat,by omega⟩
   have hd2:d≤n:=by omega
   have hd3:¬n<d:=by omega
   have HK2:Hid (Vl.endL n (m+d) (v.drop (k+1))=R):=Lib.hid (by rw [←HK.out];exact (Vl.endL_step rfl hd2).symm)
   have e1:((m+1:Nat):Int)+((d:Int) - 1)=((m+d:Nat):Int):=by omega
   clear HK
   go_wp2_with fail
   go_roundw
   case rel=>exact ⟨k+1,m+d,by omega,by go_num,by go_num,by omega,HK2,by first | rfl | trivial⟩
   case measure=>simp [intOf];omega
end Go.Proofs.YtjfdohhdkdjifaaGreatDoor
set_option linter.unusedVariables false
set_option linter.unusedSimpArgs false
namespace Go.Proofs.YtjfdohhdkdjifaaGreatDoor
open Go.RowKit Go.BigFrame
namespace Vl
open Go.Proofs.YtjfdohhdkdjifaaGreatDoor.Id Go.Proofs.YtjfdohhdkdjifaaGreatDoor.Chk Go.Proofs.YtjfdohhdkdjifaaGreatDoor.Prn
theorem fits_ok {s:Sch} {t:List Srt} {v:List Node} (h:fits s t v=0):Right s∧right s t=true∧∃ d,ofF s none (v.length+1) t v=some (d,[])∧d≤12∧size v≤4096:=by
 unfold fits at h
 split at h
 ·rename_i h1
  exact absurd h h1
 ·rename_i h1
  split at h
  ·cases h
  ·rename_i h2
   refine ⟨check_ok (by omega),by simpa using h2,?_⟩
   split at h
   ·cases h
   ·rename_i p hp
    obtain ⟨d,r⟩:=p
    split at h
    ·cases h
    ·rename_i h3
     split at h
     ·cases h
     ·rename_i h4
      split at h
      ·cases h
      ·rename_i h5
       simp only at h3 h4
       obtain rfl:r=[]:=List.length_eq_zero_iff.1 (by omega)
       exact ⟨d,hp,by omega,by omega⟩
theorem fits_end {s:Sch} {t:List Srt} {v:List Node} (h:fits s t v=0):v≠[]∧endL v.length 1 v=some []:=by
 obtain ⟨_,_,d,h1,_,_⟩:=fits_ok h
 obtain ⟨_,h2,h3⟩:=of_len (N:=v.length) _ t v d [] (Nat.le_refl _) h1
 refine ⟨fun e=>?_,h3⟩
 subst e
 simp at h2
/-- A whole by itself. -/
theorem endL_cut {N M:Nat}:∀ {r:List Node} {a:Nat} {r':List Node},endL N a r=some r'→r.length - r'.length≤M→endL M a (r.take (r.length - r'.length))=some []
 | r,0,r',h,hM=>by
  have:endL N 0 r=some r:=by cases r <;> rfl
  rw [this] at h
  injection h with h
  subst h
  rw [Nat.sub_self,List.take_zero]
  rfl
 | [],a+1,r',h,hM=>by cases h
 | n::r,a+1,r',h,hM=>by
  unfold endL at h
  split at h
  ·rename_i hn
   obtain ⟨h1,h2⟩:=endL_len h
   rw [List.length_cons] at hM ⊢
   rw [show r.length+1 - r'.length=(r.length - r'.length)+1 by omega,List.take_succ_cons]
   unfold endL
   rw [if_pos ⟨hn.1,by omega⟩]
   exact endL_cut h (by omega)
  ·cases h
theorem field_whole {N:Nat} {fn:ByteArray}:∀ {fs:List Fld} {r:List Node} {a:List Node},fieldL N fn fs r=some a→a≠[]∧endL a.length 1 a=some []
 | [],r,a,h=>by cases h
 | f::fs,r,a,h=>by
  unfold fieldL at h
  split at h
  ·cases h
  ·rename_i r' hr
   split at h
   ·injection h with h
    obtain ⟨h1,h2⟩:=endL_len hr
    have hl:a.length=r.length - r'.length:=by rw [←h,List.length_take];omega
    refine ⟨fun e=>by rw [e] at hl;simp at hl;omega,?_⟩
    rw [hl,←h]
    exact endL_cut hr (Nat.le_refl _)
   ·exact field_whole h
end Vl
end Go.Proofs.YtjfdohhdkdjifaaGreatDoor
set_option linter.unusedVariables false
set_option linter.unusedSimpArgs false
namespace Go.Proofs.YtjfdohhdkdjifaaGreatDoor
open Go.RowKit Go.BigFrame
namespace Vl
open Go.Proofs.YtjfdohhdkdjifaaGreatDoor.Id Go.Proofs.YtjfdohhdkdjifaaGreatDoor.Chk Go.Proofs.YtjfdohhdkdjifaaGreatDoor.Prn
def lvQ (p:List Srt→Bool) (r:Rec):Bool:=if r.choice then r.fields.any (fun f=>p f.type) else r.fields.all (fun f=>p f.type)
/-- Is there a value of a type that is at most so deep? -/
def lvT (s:Sch):Nat→List Srt→Bool
 | 0,_=>false
 | _+1,[]=>false
 | d+1,x::_=>if x.kind=7 then (match find s x.name with | none=>false | some r=>lvQ (lvT s d) r) else true
theorem lvQ_mono {p q:List Srt→Bool} (h:∀ t,p t=true→q t=true) {r:Rec} (hr:lvQ p r=true):lvQ q r=true:=by
 unfold lvQ at hr ⊢
 split at hr
 ·rename_i hc
  rw [if_pos hc]
  obtain ⟨f,hf,hp⟩:=List.any_eq_true.1 hr
  exact List.any_eq_true.2 ⟨f,hf,h _ hp⟩
 ·rename_i hc
  rw [if_neg hc]
  exact List.all_eq_true.2 fun f hf=>h _ (List.all_eq_true.1 hr f hf)
theorem lvT_succ {s:Sch}:∀ (d:Nat) (t:List Srt),lvT s d t=true→lvT s (d+1) t=true
 | 0,t,h=>by unfold lvT at h;cases h
 | d+1,[],h=>by unfold lvT at h;cases h
 | d+1,x::t,h=>by
  unfold lvT at h ⊢
  split at h
  ·rename_i h7
   rw [if_pos h7]
   split at h
   ·cases h
   ·exact lvQ_mono (lvT_succ d) h
  ·rename_i h7
   rw [if_neg h7]
theorem lvT_mono {s:Sch} {d e:Nat} (hde:d≤e) {t:List Srt} (h:lvT s d t=true):lvT s e t=true:=by
 induction e with
 | zero =>
  obtain rfl:d=0:=by omega
  exact h
 | succ e ih =>
  by_cases hd:d=e+1
  ·subst hd;exact h
  ·exact lvT_succ _ _ (ih (by omega))
/-- Depths as they are known: of each name, 0 if none is. -/
abbrev Kn:=ByteArray→Nat
def dpt (kn:Kn) (t:List Srt):Nat:=match t with
 | []=>0
 | x::_=>if x.kind=7 then kn x.name else 1
structure LstS where
 best:Nat
 worst:Nat
 miss:Bool
def lstStep (kn:Kn) (a:LstS) (f:Fld):LstS :=
 ⟨if 0<dpt kn f.type∧(a.best=0∨dpt kn f.type<a.best) then dpt kn f.type else a.best,max a.worst (dpt kn f.type),a.miss||dpt kn f.type==0⟩
def lstF (kn:Kn) (r:Rec):LstS:=r.fields.foldl (lstStep kn) ⟨0,0,false⟩
def lstD (kn:Kn) (r:Rec):Nat × Bool:=if r.choice then ((lstF kn r).best+1,decide (0<(lstF kn r).best)) else ((lstF kn r).worst+1,!(lstF kn r).miss)
/-- What the fold finds. -/
theorem lst_fold (kn:Kn):∀ (l:List Fld) (a:LstS),
  (∀ d,(l.foldl (lstStep kn) a).worst≤d↔a.worst≤d∧∀ f∈l,dpt kn f.type≤d) ∧
  ((l.foldl (lstStep kn) a).miss=true↔a.miss=true∨∃ f∈l,dpt kn f.type=0) ∧
  ((l.foldl (lstStep kn) a).best=0↔a.best=0∧∀ f∈l,dpt kn f.type=0) ∧
  (∀ f∈l,dpt kn f.type≠0→(l.foldl (lstStep kn) a).best≤dpt kn f.type) ∧
  (a.best≠0→(l.foldl (lstStep kn) a).best≤a.best) ∧
  ((l.foldl (lstStep kn) a).best≠a.best→∃ f∈l,dpt kn f.type=(l.foldl (lstStep kn) a).best)
 | [],a=>by simp
 | f::l,a=>by
  obtain ⟨h1,h2,h3,h4,h5,h6⟩:=lst_fold kn l (lstStep kn a f)
  rw [List.foldl_cons]
  have hb:(lstStep kn a f).best=if 0<dpt kn f.type∧(a.best=0∨dpt kn f.type<a.best) then dpt kn f.type else a.best:=rfl
  have hw:(lstStep kn a f).worst=max a.worst (dpt kn f.type):=rfl
  have hm:(lstStep kn a f).miss=(a.miss||dpt kn f.type==0):=rfl
  generalize (l.foldl (lstStep kn) (lstStep kn a f))=b at *
  generalize lstStep kn a f=c at *
  refine ⟨fun d=>?_,?_,?_,?_,?_,?_⟩
  ·rw [h1 d,hw]
   simp only [List.mem_cons,forall_eq_or_imp]
   constructor
   ·rintro ⟨a1,a2⟩;exact ⟨by omega,by omega,a2⟩
   ·rintro ⟨a1,a2,a3⟩;exact ⟨by omega,a3⟩
  ·rw [h2,hm]
   simp only [List.mem_cons,exists_eq_or_imp,Bool.or_eq_true,beq_iff_eq,or_assoc]
  ·rw [h3,hb]
   simp only [List.mem_cons,forall_eq_or_imp]
   split <;> constructor <;> (rintro ⟨a1,a2⟩) <;> first | (exact ⟨by omega,by omega,a2⟩) | (exact ⟨by omega,a2.2⟩) | omega
  ·intro g hg hd
   rcases List.mem_cons.1 hg with rfl | hg
   ·by_cases hc:c.best=0
    ·rw [hb] at hc
     split at hc <;> omega
    ·have:=h5 hc
     rw [hb] at this
     split at this <;> omega
   ·exact h4 g hg hd
  ·intro ha
   by_cases hc:c.best=0
   ·rw [hb] at hc
    split at hc <;> omega
   ·have:=h5 hc
    rw [hb] at this
    split at this <;> omega
  ·intro hne
   by_cases hc:b.best=c.best
   ·refine ⟨f,by simp,?_⟩
    rw [hc,hb]
    rw [hc,hb] at hne
    split at hne
    ·rename_i h;rw [if_pos h]
    ·exact absurd rfl hne
   ·obtain ⟨g,hg,he⟩:=h6 hc
    exact ⟨g,by simp [hg],he⟩
/-- The least depths. -/
def Min (s:Sch) (kn:Kn):Prop:=∀ n,(kn n≠0→lvT s (kn n) [⟨7,n⟩]=true)∧∀ d,lvT s d [⟨7,n⟩]=true→kn n≠0∧kn n≤d
def Sd (s:Sch) (kn:Kn):Prop:=∀ n,kn n≠0→lvT s (kn n) [⟨7,n⟩]=true
theorem lvT_head {s:Sch} {d:Nat} {x:Srt} {t:List Srt}:lvT s d (x::t)=lvT s d [x]:=by
 cases d with
 | zero=>rfl
 | succ d=>rfl
theorem lvT_name {s:Sch} {d:Nat} {x:Srt} (h:x.kind=7):lvT s d [x]=lvT s d [⟨7,x.name⟩]:=by
 obtain ⟨k,n⟩:=x
 simp only at h
 subst h
 rfl
theorem Sd.dpt {s:Sch} {kn:Kn} (h:Sd s kn) {t:List Srt} (hd:dpt kn t≠0):lvT s (dpt kn t) t=true:=by
 cases t with
 | nil=>exact absurd rfl hd
 | cons x t =>
  rw [lvT_head]
  unfold Vl.dpt at hd ⊢
  simp only at hd ⊢
  by_cases h7:x.kind=7
  ·rw [if_pos h7] at hd ⊢
   rw [lvT_name h7]
   exact h _ hd
  ·rw [if_neg h7]
   unfold lvT
   rw [if_neg h7]
theorem Min.dpt {s:Sch} {kn:Kn} (h:Min s kn) {t:List Srt} {d:Nat} (hd:lvT s d t=true):dpt kn t≠0∧dpt kn t≤d:=by
 cases t with
 | nil=>cases d <;> (unfold lvT at hd;cases hd)
 | cons x t =>
  rw [lvT_head] at hd
  unfold Vl.dpt
  simp only
  by_cases h7:x.kind=7
  ·rw [if_pos h7]
   rw [lvT_name h7] at hd
   exact (h _).2 d hd
  ·rw [if_neg h7]
   cases d with
   | zero=>cases hd
   | succ d=>exact ⟨by omega,by omega⟩
/-- A record's least depth is right, as far as others' are. -/
theorem Sd.rec {s:Sch} {kn:Kn} (h:Sd s kn) {n:ByteArray} {r:Rec} (hf:find s n=some r) (ho:(lstD kn r).2=true):lvT s (lstD kn r).1 [⟨7,n⟩]=true:=by
 obtain ⟨h1,h2,h3,h4,h5,h6⟩:=lst_fold kn r.fields ⟨0,0,false⟩
 have e:r.fields.foldl (lstStep kn) ⟨0,0,false⟩=lstF kn r:=rfl
 rw [e] at h1 h2 h3 h4 h5 h6
 unfold lstD at ho ⊢
 cases hc:r.choice
 ·rw [hc] at ho
  simp only [Bool.false_eq_true,if_false] at ho ⊢
  unfold lvT
  simp only [if_true,hf]
  unfold lvQ
  rw [hc]
  simp only [Bool.false_eq_true,if_false]
  refine List.all_eq_true.2 fun f hfm=>?_
  have hm:¬(lstF kn r).miss=true:=by simpa using ho
  rw [h2] at hm
  have hd:Vl.dpt kn f.type≠0:=fun e=>hm (.inr ⟨f,hfm,e⟩)
  exact lvT_mono (((h1 _).1 (Nat.le_refl _)).2 f hfm) (h.dpt hd)
 ·rw [hc] at ho
  simp only [if_true,decide_eq_true_eq] at ho ⊢
  unfold lvT
  simp only [if_true,hf]
  unfold lvQ
  rw [hc]
  simp only [if_true]
  obtain ⟨f,hfm,he⟩:=h6 (by simp only;omega)
  refine List.any_eq_true.2 ⟨f,hfm,?_⟩
  have hd:Vl.dpt kn f.type≠0:=by omega
  have:=h.dpt hd
  rw [he] at this
  exact this
/-- Where nothing changes any more, the depths are the least. -/
def Stop (s:Sch) (kn:Kn):Prop:=∀ r∈s.records,(lstD kn r).2=true→kn r.name≠0∧kn r.name≤(lstD kn r).1
theorem Stop.le {s:Sch} {kn:Kn} (h:Stop s kn):∀ (d:Nat) (t:List Srt),lvT s d t=true→dpt kn t≠0∧dpt kn t≤d
 | 0,t,hl=>by unfold lvT at hl;cases hl
 | d+1,[],hl=>by unfold lvT at hl;cases hl
 | d+1,x::t,hl=>by
  unfold lvT at hl
  unfold dpt
  simp only
  split at hl
  ·rename_i h7
   rw [if_pos h7]
   split at hl
   ·cases hl
   ·rename_i r hr
    obtain ⟨hm,hn⟩:=find_name hr
    obtain ⟨h1,h2,h3,h4,h5,h6⟩:=lst_fold kn r.fields ⟨0,0,false⟩
    have e:r.fields.foldl (lstStep kn) ⟨0,0,false⟩=lstF kn r:=rfl
    rw [e] at h1 h2 h3 h4 h5 h6
    have hs:=h r hm
    rw [hn] at hs
    unfold lstD at hs
    unfold lvQ at hl
    cases hc:r.choice
    ·rw [hc] at hs hl
     simp only [Bool.false_eq_true,if_false] at hs hl
     have ha:=List.all_eq_true.1 hl
     have hmiss:(lstF kn r).miss=false:=by
      rw [Bool.eq_false_iff]
      intro hmi
      rcases h2.1 hmi with e | ⟨f,hf,e⟩
      ·cases e
      ·exact (Stop.le h d f.type (ha f hf)).1 e
     obtain ⟨a1,a2⟩:=hs (by rw [hmiss];rfl)
     refine ⟨a1,Nat.le_trans a2 ?_⟩
     have:=(h1 d).2 ⟨Nat.zero_le _,fun f hf=>(Stop.le h d f.type (ha f hf)).2⟩
     omega
    ·rw [hc] at hs hl
     simp only [if_true,decide_eq_true_eq] at hs hl
     obtain ⟨f,hf,hp⟩:=List.any_eq_true.1 hl
     obtain ⟨b1,b2⟩:=Stop.le h d f.type hp
     have hb:(lstF kn r).best≠0:=fun e=>b1 ((h3.1 e).2 f hf)
     have hb2:=h4 f hf b1
     obtain ⟨a1,a2⟩:=hs (by omega)
     exact ⟨a1,by omega⟩
  ·rename_i h7
   rw [if_neg h7]
   exact ⟨by omega,by omega⟩
theorem Stop.min {s:Sch} {kn:Kn} (h:Stop s kn) (hs:Sd s kn):Min s kn:=fun n=>⟨hs n,fun d hd=>by
 have:=h.le d _ hd
 exact this⟩
/-- In a right schema each record has a value. -/
theorem right_lv {s:Sch} (h:Right s) {r:Rec} (hr:r∈s.records):∃ d,lvT s d [⟨7,r.name⟩]=true:=by
 have hb:=(right_iff.1 h).2.2.2.2.1
 have hv:Val s.records r.name.toList:=by
  have:=hb (valB s.records r.name,r.name) (by unfold bottomsT;exact List.mem_flatMap.2 ⟨r,hr,by unfold bottomsR;simp⟩)
  unfold valB at this
  simpa using this
 have key:=hv (fun nm=>∀ n:ByteArray,n.toList=nm→∃ d,lvT s d [⟨7,n⟩]=true) (fun q hq hp n hn=>by
  obtain rfl:n=q.name:=Tk.text_eq hn
  have hf:=right_find h hq
  have hT:∀ t,hasP (fun nm=>∀ n:ByteArray,n.toList=nm→∃ d,lvT s d [⟨7,n⟩]=true) t→∃ d,lvT s d t=true:=fun t ht=>by
   cases t with
   | nil=>exact absurd ht (fun h=>h)
   | cons x t =>
    rcases ht with h7 | hP
    ·exact ⟨1,by unfold lvT;rw [if_neg h7]⟩
    ·obtain ⟨d,hd⟩:=hP x.name rfl
     by_cases h7:x.kind=7
     ·exact ⟨d,by rw [lvT_head,lvT_name h7];exact hd⟩
     ·exact ⟨1,by unfold lvT;rw [if_neg h7]⟩
  cases hc:q.choice
  ·have hall:∀ l:List Fld,(∀ x∈l,hasP (fun nm=>∀ n:ByteArray,n.toList=nm→∃ d,lvT s d [⟨7,n⟩]=true) x.type)→∃ d,∀ x∈l,lvT s d x.type=true:=fun l=>by
    induction l with
    | nil=>exact fun _=>⟨0,by simp⟩
    | cons x l ih =>
     intro hx
     obtain ⟨d1,h1⟩:=hT x.type (hx x (by simp))
     obtain ⟨d2,h2⟩:=ih (fun y hy=>hx y (by simp [hy]))
     refine ⟨max d1 d2,fun y hy=>?_⟩
     rcases List.mem_cons.1 hy with rfl | hy
     ·exact lvT_mono (Nat.le_max_left _ _) h1
     ·exact lvT_mono (Nat.le_max_right _ _) (h2 y hy)
   obtain ⟨d,hd⟩:=hall q.fields (hp.2 hc)
   refine ⟨d+1,?_⟩
   unfold lvT
   simp only [if_true,hf]
   unfold lvQ
   rw [hc]
   simp only [Bool.false_eq_true,if_false]
   exact List.all_eq_true.2 hd
  ·obtain ⟨x,hx,hpx⟩:=hp.1 hc
   obtain ⟨d,hd⟩:=hT x.type hpx
   refine ⟨d+1,?_⟩
   unfold lvT
   simp only [if_true,hf]
   unfold lvQ
   rw [hc]
   simp only [if_true]
   exact List.any_eq_true.2 ⟨x,hx,hd⟩)
 exact key r.name rfl
end Vl
end Go.Proofs.YtjfdohhdkdjifaaGreatDoor
