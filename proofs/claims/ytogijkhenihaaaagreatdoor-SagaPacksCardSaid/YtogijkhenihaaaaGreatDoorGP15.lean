/- check: rule 3, the names that stand twice (printed by gen_doubles.py). No condition. check.Check: the walk (printed by gen_check.py). No condition. (merged by merge.py: XChkO XChkP). No condition but the ones the theorems state. -/
import Derived.Test.YtogijkhenihaaaaGreatDoorGP06
import Derived.Test.YtogijkhenihaaaaGreatDoorGP01
import Derived.Test.YtogijkhenihaaaaGreatDoorGP13
import Derived.Test.YtogijkhenihaaaaGreatDoorGP14
set_option linter.unusedVariables false
set_option linter.unusedSimpArgs false
namespace Go.Proofs.YtogijkhenihaaaaGreatDoor
open Go.RowKit Go.BigFrame
namespace Chk
open Go.Proofs.YtogijkhenihaaaaGreatDoor.Id
def dblP (rn:ByteArray):List ByteArray→List ByteArray→List Test
 | [],_=>[]
 | y::l,own=>(!seenB own y,part rn y)::dblP rn l (own++[y])
def dblG:List Sag→List ByteArray→List Test
 | [],_=>[]
 | g::l,seen=>(!seenB seen g.name,g.name)::dblG l (seen++[g.name])
def dblV:List Svc→List Sag→List ByteArray→List Test
 | [],gs,seen=>dblG gs seen
 | v::l,gs,seen=>(!seenB seen v.name,v.name)::(dblP v.name (v.methods.map (·.name)) []++dblV l gs (seen++[v.name]))
def dblR:List Rec→List Svc→List Sag→List ByteArray→List Test
 | [],vs,gs,seen=>dblV vs gs seen
 | r::l,vs,gs,seen=>(!seenB seen r.name,r.name)::(dblP r.name (r.fields.map (·.name)) []++dblR l vs gs (seen++[r.name]))
def doublesT (x:Sch):List Test:=dblR x.records x.services x.sagas []
theorem dblP_next {α:Type} (rn:ByteArray) (nm:α→ByteArray) {l:List α} {k:Nat} (h:k<l.length) (own:List ByteArray):dblP rn ((l.drop k).map nm) own=(!seenB own (nm l[k]),part rn (nm l[k]))::dblP rn ((l.drop (k+1)).map nm) (own++[nm l[k]]):=by
 rw [List.drop_eq_getElem_cons h];rfl
theorem dblG_next {l:List Sag} {k:Nat} (h:k<l.length) (seen:List ByteArray):dblG (l.drop k) seen=(!seenB seen l[k].name,l[k].name)::dblG (l.drop (k+1)) (seen++[l[k].name]):=by
 rw [List.drop_eq_getElem_cons h];rfl
theorem dblV_next {l:List Svc} {k:Nat} (h:k<l.length) (gs:List Sag) (seen:List ByteArray):dblV (l.drop k) gs seen=(!seenB seen l[k].name,l[k].name)::(dblP l[k].name (l[k].methods.map (·.name)) []++dblV (l.drop (k+1)) gs (seen++[l[k].name])):=by
 rw [List.drop_eq_getElem_cons h];rfl
theorem dblR_next {l:List Rec} {k:Nat} (h:k<l.length) (vs:List Svc) (gs:List Sag) (seen:List ByteArray):dblR (l.drop k) vs gs seen=(!seenB seen l[k].name,l[k].name)::(dblP l[k].name (l[k].fields.map (·.name)) []++dblR (l.drop (k+1)) vs gs (seen++[l[k].name])):=by
 rw [List.drop_eq_getElem_cons h];rfl
/-- A map of the rule's own is written. -/
theorem In.fresh {w0 w wr w':World} {f m:Nat} {S:Array Value} (h:In w0 w wr f S) (hg:wr.grownBy w' (some m)) (hm:w.heap.size<m):In w0 w w' f S :=
 ⟨below_gb h.b0 hg (by have:=h.lo;have:=h.hi;omega) h.b0.size,⟨hg.os.trans h.gb.os,hg.tape.trans h.gb.tape,hg.output.trans h.gb.output,Nat.le_trans h.gb.size hg.size,fun i hi hne=>(hg.block i (Nat.lt_of_lt_of_le hi h.gb.size) (by intro e;injection e with e;omega)).trans (h.gb.block i hi hne)⟩,h.box.grown hg (by intro e;injection e with e;omega),h.lo,h.hi⟩
theorem Fb.fresh {w0 w wr w':World} {f m:Nat} {S:Array Value} {cur:Flt} (hf:Fb wr f cur) (h:In w0 w wr f S) (hg:wr.grownBy w' (some m)) (hm:w.heap.size<m):Fb w' f cur:=Bk.grown hf hg (by have:=h.hi;intro e;injection e with e;omega)
theorem Cnt.ne {wr:World} {m g:Nat} {seen:List ByteArray} {t:TypeId} {cs:Array Value} (h:Cnt wr m seen) (hg:Bk wr g t cs):some g≠some m:=by
 intro e
 injection e with e
 subst e
 obtain ⟨D,⟨es,clock,hb,_⟩,_⟩:=h
 unfold Bk at hg
 rw [hg] at hb
 injection hb with hb
 cases hb
end Chk
set_option maxRecDepth 100000 in
set_option maxHeartbeats 8000000 in
theorem cdoubles_any (v:Value) (x:Id.Sch) (hF:Chk.Mid x) (f:Nat) (cur:Chk.Flt) (w0 w:World) (hkw:Tk.KW w0) (hv:Id.SchV w0 none v x) (hb:Below w0.heap.size w0 w) (hlo:w0.heap.size≤f) (hf:Chk.Fb w f cur) :
  Calls Tryz.prog 40 #[v,.pointer (some ⟨f,0,none⟩)] w fun e w'=>e=.returned (.tuple #[])∧w.grownBy w' (some f)∧Chk.Fb w' f (Chk.run 130 (Chk.doublesT x) cur):=by
 obtain ⟨R,HR⟩:∃ R,Hid (Chk.run 130 (Chk.doublesT x) cur=R):=⟨_,Lib.hid rfl⟩
 rw [HR.out]
 have HS:Hid (Chk.run 130 (Chk.dblR (x.records.drop 0) x.services x.sagas []) cur=R):=Lib.hid (by rw [←HR.out];rfl)
 have HV:=Lib.hid hv
 have HKW:=Lib.hid hkw
 have HFine:=Lib.hid hF
 obtain ⟨A1,n1,c1,A2,n2,c2,A3,n3,c3,rfl,r1,r2,r3⟩:=hv
 have hn1:n1=x.records.length:=by obtain ⟨_,_,e,_⟩:=ERow.slice r1;injection e
 have hn2:n2=x.services.length:=by obtain ⟨_,_,e,_⟩:=ERow.slice r2;injection e
 have hn3:n3=x.sagas.length:=by obtain ⟨_,_,e,_⟩:=ERow.slice r3;injection e
 have hm1:n1≤10000:=by rw [hn1];exact hF.recs
 have hm2:n2≤10000:=by rw [hn2];exact hF.svcs
 have hm3:n3≤10000:=by rw [hn3];exact hF.sags
 have HN1:=Lib.hid hn1
 have H1:=Lib.hid r1
 have HN2:=Lib.hid hn2
 have H2:=Lib.hid r2
 have HN3:=Lib.hid hn3
 have H3:=Lib.hid r3
 have HF0:=Lib.hid hf
 have HB0:=Lib.hid hb
 clear r1 r2 r3 hn1 hn2 hn3 hf hb hkw hF HR
 go_enter Tryz.func40,Tryz.ntmps40
 go_upto_region 1 with (fail)
 refine wp_named (fun W0 hW0=>?_)
 have HI:=Lib.hid (Chk.In.start HB0.out hlo (Bk.lt HF0.out) hW0)
 have HFb:=Lib.hid (Chk.Fb.start HF0.out hW0)
 clear hW0
 obtain ⟨S,HSeq⟩:∃ S:Array Value,Hid (S=#[.string x.name,.slice A1 n1 c1,.slice A2 n2 c2,.slice A3 n3 c3]):=⟨_,Lib.hid rfl⟩
 rw [←HSeq.out] at HI
 have hmm:=@run_makeMap Tryz.prog
 obtain ⟨⟨q0,q1,q2,q3⟩,-⟩:=(Chk.box_of HSeq.out HI.out _ (Bl.refl _)).k4
 go_upto_region 2 with (fail)
 refine wp_named (fun V0 hV0=>?_)
 obtain ⟨mb,hmbe⟩:∃ mb,mb=W0.heap.size:=⟨_,rfl⟩
 have hmblt:w.heap.size<mb:=by rw [hmbe];have:=HI.out.size;omega
 have hc0:Chk.Cnt V0 mb []:=by subst hV0 hmbe;exact Chk.Cnt.made W0
 have hb0:Below W0.heap.size W0 V0:=by subst hV0;exact (Below.refl _ _).alloc (Nat.le_refl _) _
 clear hV0 q0 q1 q2 q3
 rw [←hmbe]
 have HIx:=Lib.hid (HI.out.below hb0)
 have HFx:=Lib.hid (HFb.out.below hb0)
 clear HI HFb
 have HI:=HIx
 have HFb:=HFx
 clear HIx HFx
 have HMA:=Lib.hid hc0
 clear hc0 hb0 hmbe
 obtain ⟨⟨q0,q1,q2,q3⟩,-⟩:=(Chk.box_of HSeq.out HI.out _ (Bl.refl _)).k4
 go_wp2_with fail
 clear q0 q1 q2 q3
 go_loopw [21] (fun i wr=>∃ (k:Nat) (cu:Chk.Flt) (seen:List ByteArray),k≤n1∧i=.int .i64 k∧Hid (Chk.run 130 (Chk.dblR ((x.records).drop k) x.services x.sagas seen) cu=R)∧seen.length≤0+k∧Hid (Chk.In w0 w wr f S)∧Hid (Chk.Fb wr f cu)∧Hid (Chk.Cnt wr mb seen)) (fun i _=>n1 - (intOf i).toNat)
 case atStart=>exact ⟨0,_,[],by omega,rfl,HS,by first | omega | (simp;done) | (simp;omega),HI,HFb,HMA⟩
 case round =>
  clear HI HFb HS HMA  
  obtain ⟨k1,cu1,seen1,hk1,rfl,HK,hsl1,HI,HFb,HMA⟩:=hrel
  obtain ⟨W1,rfl⟩:∃ w',w'=wr:=⟨_,rfl⟩
  by_cases hlt1:k1<n1
  case pos =>
   have hka:k1<(x.records).length:=by rw [←HN1.out];exact hlt1
   obtain ⟨g1,off1,cs,rfl,-,he,hc⟩:=ERow.get H1.out hka (by omega)
   have HD:=HK.out
   rw [Chk.dblR_next hka] at HD
   have hfi:=HFine.out.re _ (List.getElem_mem hka)
   generalize (x.records)[k1]=r at *
   obtain ⟨rn,rc,rf⟩:=r
   obtain ⟨u,rfl,HU⟩:=he
   simp only at HU hc HD hfi
   obtain ⟨A5,n5,c5,rfl⟩:=ERow.is HU
   have hn5:n5=rf.length:=by obtain ⟨_,_,e,_⟩:=ERow.slice HU;injection e
   have hm5:n5≤10000:=by rw [hn5];exact Nat.le_trans hfi.2.1 (by decide)
   have HN5:=Lib.hid hn5
   have H5:=Lib.hid HU
   clear HU hn5
   have HFi1:=Lib.hid hfi
   have HD1:=Lib.hid HD
   have hB:=HI.out.b0
   have a0:=hc 0 _ rfl
   have a1:=hc 1 _ rfl
   have a2:=hc 2 _ rfl
   have hgl1:g1<w0.heap.size:=World.block_lt_of_cell? w0 _ a0
   have a0:=(hB.cell hgl1).trans a0
   have a1:=(hB.cell hgl1).trans a1
   have a2:=(hB.cell hgl1).trans a2
   simp only [Nat.add_zero] at a0
   have i10:(0:Int)≤(k1:Int):=by omega
   have i11:(k1:Int)<(n1:Int):=by omega
   have hbw:=hB.size
   have hgw1:¬g1=W1.heap.size:=by omega
   clear hc hB hka HD HK hfi hbw
   go_upto_region 5 with (fail)
   refine wp_named (fun V1 hV=>?_)
   obtain ⟨hbV,hqV,-⟩:=fresh_box hV
   clear hV
   have HIx:=Lib.hid (HI.out.below hbV)
   have HFx:=Lib.hid (HFb.out.below hbV)
   clear HI HFb
   have HI:=HIx
   have HFb:=HFx
   clear HIx HFx
   have hx:=Lib.hid (HMA.out.below hbV)
   clear HMA
   have HMA:=hx
   clear hx
   have HQ1:=Lib.hid hqV
   clear hqV hbV a0 a1 a2
   have hd:Below V1.heap.size V1 V1.drew:=(Below.refl _ _).drew
   have HIx:=Lib.hid (HI.out.below hd)
   have HFx:=Lib.hid (HFb.out.below hd)
   clear HI HFb
   have HI:=HIx
   have HFb:=HFx
   clear HIx HFx
   have hx:=Lib.hid (HMA.out.below hd)
   clear HMA
   have HMA:=hx
   clear hx
   have hx:=Lib.hid (HQ1.out.below hd HQ1.out.lt)
   clear HQ1
   have HQ1:=hx
   clear hx
   have hSS:=HQ1.out
   refine wp_region_L_calm (fun w'=>Bk w' W1.heap.size 42 _) [7] (by kernel_rfl) hSS (fun hHeld=>?_)
   (refine wpAnyL_take0 0 (v:=?_) rfl (by kernel_rfl) (by kernel_rfl) (by kernel_rfl) (by kernel_rfl) (fun _ _ _ h=>h) (fun _=>by assumption) (by rfl) ?_ ?_;rotate_left;· (intro w;go_simp;try with_reducible rfl);try simp only [Act.put,List.setIfInBounds_toArray,List.set_cons_zero,List.set_cons_succ])
   (refine wpAnyL_take0 1 (v:=?_) rfl (by kernel_rfl) (by kernel_rfl) (by kernel_rfl) (by kernel_rfl) (fun _ _ _ h=>h) (fun _=>by assumption) (by rfl) ?_ ?_;rotate_left;· (intro w;go_simp;try with_reducible rfl);try simp only [Act.put,List.setIfInBounds_toArray,List.set_cons_zero,List.set_cons_succ])
   (refine wpAnyL_take0 2 (v:=?_) rfl (by kernel_rfl) (by kernel_rfl) (by kernel_rfl) (by kernel_rfl) (fun _ _ _ h=>h) (fun _=>by assumption) (by rfl) ?_ ?_;rotate_left;· (intro w;go_simp;try with_reducible rfl);try simp only [Act.put,List.setIfInBounds_toArray,List.set_cons_zero,List.set_cons_succ])
   (refine Lst.takeZ 7 3 (v:=?_) rfl (by kernel_rfl) (by kernel_rfl) (by kernel_rfl) (by kernel_rfl) (by kernel_rfl) (by kernel_rfl) (fun _ _ _ h=>h) (by assumption) (by rfl) ?_ ?_;rotate_left;· (intro w hSw;have e:=(Bk.k3 hSw).1.1;go_simp;try with_reducible rfl);try simp only [Act.put,List.setIfInBounds_toArray,List.set_cons_zero,List.set_cons_succ])
   (refine wpAnyL_take0 5 (v:=?_) rfl (by kernel_rfl) (by kernel_rfl) (by kernel_rfl) (by kernel_rfl) (fun _ _ _ h=>h) (fun _=>by assumption) (by rfl) ?_ ?_;rotate_left;· (intro w;go_simp;try with_reducible rfl);try simp only [Act.put,List.setIfInBounds_toArray,List.set_cons_zero,List.set_cons_succ])
   (refine Lst.takeZ 7 6 (v:=?_) rfl (by kernel_rfl) (by kernel_rfl) (by kernel_rfl) (by kernel_rfl) (by kernel_rfl) (by kernel_rfl) (fun _ _ _ h=>h) (by assumption) (by rfl) ?_ ?_;rotate_left;· (intro w hSw;have e:=(Bk.k3 hSw).1.1;go_simp;try with_reducible rfl);try simp only [Act.put,List.setIfInBounds_toArray,List.set_cons_zero,List.set_cons_succ])
   clear hSS hd
   have HNEW:=Lib.hid (cnew_any mb seen1 rn HFi1.out.1 (by omega) _ HMA.out)
   (refine wpAnyL_step 4 (by kernel_rfl) rfl (fun K hK=>?_))
   go_simp
   refine HNEW.out.mono ?_
   rintro e X ⟨rfl,hg,hc⟩
   have hx:=Lib.hid (Bk.grown HQ1.out hg (HMA.out.ne HQ1.out))
   clear HQ1
   have HQ1:=hx
   clear hx
   have HIx:=Lib.hid (HI.out.fresh hg hmblt)
   have HFx:=Lib.hid (HFb.out.fresh HI.out hg hmblt)
   clear HI HFb HMA
   have HI:=HIx
   have HFb:=HFx
   have HMA:=Lib.hid hc
   clear HIx HFx hc
   (refine hK.out _ _ (fun hnn=>HQ1.out) ?_;clear hK K;try simp only [Act.put,List.setIfInBounds_toArray,List.set_cons_zero,List.set_cons_succ])
   clear HNEW hHeld
   (refine wpAnyL_step 7 (by kernel_rfl) rfl (fun K hK=>?_))
   go_simp
   refine (Chk.at_any HI.out HFb.out (Below.refl _ _) (!Chk.seenB seen1 rn) (rn) 130).mono ?_
   rintro e Y ⟨rfl,hg,hi,hf⟩
   (refine hK.out _ _ (fun hnn=>(absurd hnn (by decide))) ?_;clear hK K;try simp only [Act.put,List.setIfInBounds_toArray,List.set_cons_zero,List.set_cons_succ])
   have hx:=Lib.hid (HMA.out.kept hg (by intro e;injection e with e;have:=HI.out.hi;omega))
   clear HMA
   have HMA:=hx
   clear hx
   have hx:=Lib.hid (Bk.grown HQ1.out hg (Chk.ne_f HFb.out HQ1.out (by decide)))
   clear HQ1
   have HQ1:=hx
   clear hx
   clear HI HFb
   have HI:=Lib.hid hi
   have HFb:=Lib.hid hf
   clear hi hf hg
   refine wpAnyL_done (by kernel_rfl) ?_ _
   refine NoPanic.normal ?_
   go_upto_region 7 with (fail)
   refine wp_named (fun V3 hV3=>?_)
   obtain ⟨mo,hmoe⟩:∃ mo,mo=Y.heap.size:=⟨_,rfl⟩
   have hmolt:w.heap.size<mo:=by rw [hmoe];have:=HI.out.size;omega
   have hmne:mb<mo:=by rw [hmoe];exact HMA.out.lt
   have hc0:Chk.Cnt V3 mo []:=by subst hV3 hmoe;exact Chk.Cnt.made Y
   have hb0:Below Y.heap.size Y V3:=by subst hV3;exact (Below.refl _ _).alloc (Nat.le_refl _) _
   clear hV3
   rw [←hmoe]
   have HIx:=Lib.hid (HI.out.below hb0)
   have HFx:=Lib.hid (HFb.out.below hb0)
   clear HI HFb
   have HI:=HIx
   have HFb:=HFx
   clear HIx HFx
   have hx:=Lib.hid (HMA.out.below hb0)
   clear HMA
   have HMA:=hx
   clear hx
   have hx:=Lib.hid (HQ1.out.below hb0 HQ1.out.lt)
   clear HQ1
   have HQ1:=hx
   clear hx
   have HMO:=Lib.hid hc0
   clear hc0 hb0 hmoe
   obtain ⟨⟨b0,b1,b2⟩,-⟩:=HQ1.out.k3
   go_wp2_with fail
   clear b0 b1 b2
   have HSi:Hid (Chk.run 130 (Chk.dblR ((x.records).drop (k1+1)) x.services x.sagas (seen1++[rn])) (Chk.run 130 (Chk.dblP rn ((rf.drop 0).map (·.name)) []) (Chk.at_ (!Chk.seenB seen1 rn) rn 130 cu1))=R):=Lib.hid (by have h:=HD1.out;simp only [Chk.run,Chk.run_app] at h;exact h)
   go_loopw [37] (fun i wr=>∃ (k:Nat) (cu:Chk.Flt) (seen:List ByteArray),k≤n5∧i=.int .i64 k∧Hid (Chk.run 130 (Chk.dblR ((x.records).drop (k1+1)) x.services x.sagas (seen1++[rn])) (Chk.run 130 (Chk.dblP rn (((rf).drop k).map (·.name)) seen) cu)=R)∧seen.length≤0+k∧Hid (Chk.In w0 w wr f S)∧Hid (Chk.Fb wr f cu)∧Hid (Chk.Cnt wr mo seen)∧Hid (Chk.Cnt wr mb (seen1++[rn]))∧Hid (Bk wr W1.heap.size 42 #[.string rn,.bool rc,.slice A5 n5 c5])) (fun i _=>n5 - (intOf i).toNat)
   case atStart=>exact ⟨0,_,[],by omega,rfl,HSi,by first | omega | (simp;done) | (simp;omega),HI,HFb,HMO,HMA,HQ1⟩
   case round =>
    clear HI HFb HSi HMO HMA HQ1
    obtain ⟨k2,cu2,own,hk2,rfl,HK,hsl2,HI,HFb,HMO,HMA,HQ1⟩:=hrel
    obtain ⟨W2,rfl⟩:∃ w',w'=wr:=⟨_,rfl⟩
    by_cases hlt2:k2<n5
    case pos =>
     have hka:k2<(rf).length:=by rw [←HN5.out];exact hlt2
     obtain ⟨g2,off2,cs,rfl,-,he,hc⟩:=ERow.get H5.out hka (by omega)
     have HD:=HK.out
     rw [Chk.dblP_next rn (·.name) hka] at HD
     have hfi:=HFi1.out.2.2 _ (List.getElem_mem hka)
     generalize (rf)[k2]=r at *
     obtain ⟨yn,yt⟩:=r
     obtain ⟨u,rfl,HU⟩:=he
     simp only at HU hc HD hfi
     obtain ⟨A7,n7,c7,rfl⟩:=ERow.is HU
     clear HU
     have HFi2:=Lib.hid hfi
     have HD2:=Lib.hid HD
     have hB:=HI.out.b0
     have a0:=hc 0 _ rfl
     have a1:=hc 1 _ rfl
     have hgl2:g2<w0.heap.size:=World.block_lt_of_cell? w0 _ a0
     have a0:=(hB.cell hgl2).trans a0
     have a1:=(hB.cell hgl2).trans a1
     simp only [Nat.add_zero] at a0
     have i20:(0:Int)≤(k2:Int):=by omega
     have i21:(k2:Int)<(n5:Int):=by omega
     have hbw:=hB.size
     have hgw2:¬g2=W2.heap.size:=by omega
     clear hc hB hka HD HK hfi hbw
     go_upto_region 10 with (fail)
     refine wp_named (fun V2 hV=>?_)
     obtain ⟨hbV,hqV,-⟩:=fresh_box hV
     clear hV
     have HIx:=Lib.hid (HI.out.below hbV)
     have HFx:=Lib.hid (HFb.out.below hbV)
     clear HI HFb
     have HI:=HIx
     have HFb:=HFx
     clear HIx HFx
     have hx:=Lib.hid (HMA.out.below hbV)
     clear HMA
     have HMA:=hx
     clear hx
     have hx:=Lib.hid (HMO.out.below hbV)
     clear HMO
     have HMO:=hx
     clear hx
     have hx:=Lib.hid (HQ1.out.below hbV HQ1.out.lt)
     clear HQ1
     have HQ1:=hx
     clear hx
     have HQ2:=Lib.hid hqV
     clear hqV hbV a0 a1
     have hd:Below V2.heap.size V2 V2.drew:=(Below.refl _ _).drew
     have HIx:=Lib.hid (HI.out.below hd)
     have HFx:=Lib.hid (HFb.out.below hd)
     clear HI HFb
     have HI:=HIx
     have HFb:=HFx
     clear HIx HFx
     have hx:=Lib.hid (HMA.out.below hd)
     clear HMA
     have HMA:=hx
     clear hx
     have hx:=Lib.hid (HMO.out.below hd)
     clear HMO
     have HMO:=hx
     clear hx
     have hx:=Lib.hid (HQ1.out.below hd HQ1.out.lt)
     clear HQ1
     have HQ1:=hx
     clear hx
     have hx:=Lib.hid (HQ2.out.below hd HQ2.out.lt)
     clear HQ2
     have HQ2:=hx
     clear hx
     have hSS:=And.intro HQ1.out HQ2.out
     refine wp_region_L_calm (fun w'=>Bk w' W1.heap.size 42 _∧Bk w' W2.heap.size 176 _) [10] (by kernel_rfl) hSS (fun hHeld=>?_)
     (refine wpAnyL_take0 0 (v:=?_) rfl (by kernel_rfl) (by kernel_rfl) (by kernel_rfl) (by kernel_rfl) (fun _ _ _ h=>h) (fun _=>by assumption) (by rfl) ?_ ?_;rotate_left;· (intro w;go_simp;try with_reducible rfl);try simp only [Act.put,List.setIfInBounds_toArray,List.set_cons_zero,List.set_cons_succ])
     (refine wpAnyL_take0 1 (v:=?_) rfl (by kernel_rfl) (by kernel_rfl) (by kernel_rfl) (by kernel_rfl) (fun _ _ _ h=>h) (fun _=>by assumption) (by rfl) ?_ ?_;rotate_left;· (intro w;go_simp;try with_reducible rfl);try simp only [Act.put,List.setIfInBounds_toArray,List.set_cons_zero,List.set_cons_succ])
     (refine wpAnyL_take0 2 (v:=?_) rfl (by kernel_rfl) (by kernel_rfl) (by kernel_rfl) (by kernel_rfl) (fun _ _ _ h=>h) (fun _=>by assumption) (by rfl) ?_ ?_;rotate_left;· (intro w;go_simp;try with_reducible rfl);try simp only [Act.put,List.setIfInBounds_toArray,List.set_cons_zero,List.set_cons_succ])
     (refine Lst.takeZ 10 3 (v:=?_) rfl (by kernel_rfl) (by kernel_rfl) (by kernel_rfl) (by kernel_rfl) (by kernel_rfl) (by kernel_rfl) (fun _ _ _ h=>h) (by assumption) (by rfl) ?_ ?_;rotate_left;· (intro w hSw;have e:=(Bk.k2 hSw.2).1.1;go_simp;try with_reducible rfl);try simp only [Act.put,List.setIfInBounds_toArray,List.set_cons_zero,List.set_cons_succ])
     (refine wpAnyL_take0 5 (v:=?_) rfl (by kernel_rfl) (by kernel_rfl) (by kernel_rfl) (by kernel_rfl) (fun _ _ _ h=>h) (fun _=>by assumption) (by rfl) ?_ ?_;rotate_left;· (intro w;go_simp;try with_reducible rfl);try simp only [Act.put,List.setIfInBounds_toArray,List.set_cons_zero,List.set_cons_succ])
     (refine Lst.takeZ 10 6 (v:=?_) rfl (by kernel_rfl) (by kernel_rfl) (by kernel_rfl) (by kernel_rfl) (by kernel_rfl) (by kernel_rfl) (fun _ _ _ h=>h) (by assumption) (by rfl) ?_ ?_;rotate_left;· (intro w hSw;have e:=(Bk.k3 hSw.1).1.1;go_simp;try with_reducible rfl);try simp only [Act.put,List.setIfInBounds_toArray,List.set_cons_zero,List.set_cons_succ])
     (refine wpAnyL_take0 7 (v:=?_) rfl (by kernel_rfl) (by kernel_rfl) (by kernel_rfl) (by kernel_rfl) (fun _ _ _ h=>h) (fun _=>by assumption) (by rfl) ?_ ?_;rotate_left;· (intro w;go_simp;try with_reducible rfl);try simp only [Act.put,List.setIfInBounds_toArray,List.set_cons_zero,List.set_cons_succ])
     (refine Lst.takeZ 10 8 (v:=?_) rfl (by kernel_rfl) (by kernel_rfl) (by kernel_rfl) (by kernel_rfl) (by kernel_rfl) (by kernel_rfl) (fun _ _ _ h=>h) (by assumption) (by rfl) ?_ ?_;rotate_left;· (intro w hSw;have e:=(Bk.k2 hSw.2).1.1;go_simp;try with_reducible rfl);try simp only [Act.put,List.setIfInBounds_toArray,List.set_cons_zero,List.set_cons_succ])
     clear hSS hd
     have HNEW:=Lib.hid (cnew_any mo own yn HFi2.out.1 (by omega) _ HMO.out)
     have HPT:Hid (∀ w',Calls Tryz.prog 108 #[.string rn,.string yn] w' fun e w''=>e=.returned (.string (Chk.part rn yn))∧w''=w'):=Lib.hid (fun w'=>cpart_any rn yn HFi1.out.1 HFi2.out.1 w')
     (refine wpAnyL_step 4 (by kernel_rfl) rfl (fun K hK=>?_))
     go_simp
     refine HNEW.out.mono ?_
     rintro e X ⟨rfl,hg,hc⟩
     have hx:=Lib.hid (HMA.out.kept hg (by intro e;injection e with e;omega))
     clear HMA
     have HMA:=hx
     clear hx
     have hx:=Lib.hid (Bk.grown HQ1.out hg (HMO.out.ne HQ1.out))
     clear HQ1
     have HQ1:=hx
     clear hx
     have hx:=Lib.hid (Bk.grown HQ2.out hg (HMO.out.ne HQ2.out))
     clear HQ2
     have HQ2:=hx
     clear hx
     have HIx:=Lib.hid (HI.out.fresh hg hmolt)
     have HFx:=Lib.hid (HFb.out.fresh HI.out hg hmolt)
     clear HI HFb HMO
     have HI:=HIx
     have HFb:=HFx
     have HMO:=Lib.hid hc
     clear HIx HFx hc
     (refine hK.out _ _ (fun hnn=>⟨HQ1.out,HQ2.out⟩) ?_;clear hK K;try simp only [Act.put,List.setIfInBounds_toArray,List.set_cons_zero,List.set_cons_succ])
     clear HNEW hHeld
     (refine wpAnyL_step 9 (by kernel_rfl) rfl (fun K hK=>?_))
     go_simp
     refine (HPT.out _).mono ?_
     rintro e Z ⟨rfl,rfl⟩
     (refine hK.out _ _ (fun hnn=>⟨HQ1.out,HQ2.out⟩) ?_;clear hK K;try simp only [Act.put,List.setIfInBounds_toArray,List.set_cons_zero,List.set_cons_succ])
     (refine wpAnyL_step 10 (by kernel_rfl) rfl (fun K hK=>?_))
     go_simp
     refine (Chk.at_any HI.out HFb.out (Below.refl _ _) (!Chk.seenB own yn) (Chk.part rn yn) 130).mono ?_
     rintro e Y2 ⟨rfl,hg,hi,hf⟩
     (refine hK.out _ _ (fun hnn=>(absurd hnn (by decide))) ?_;clear hK K;try simp only [Act.put,List.setIfInBounds_toArray,List.set_cons_zero,List.set_cons_succ])
     have hx:=Lib.hid (HMA.out.kept hg (by intro e;injection e with e;have:=HI.out.hi;omega))
     clear HMA
     have HMA:=hx
     clear hx
     have hx:=Lib.hid (HMO.out.kept hg (by intro e;injection e with e;have:=HI.out.hi;omega))
     clear HMO
     have HMO:=hx
     clear hx
     have hx:=Lib.hid (Bk.grown HQ1.out hg (Chk.ne_f HFb.out HQ1.out (by decide)))
     clear HQ1
     have HQ1:=hx
     clear hx
     have hx:=Lib.hid (Bk.grown HQ2.out hg (Chk.ne_f HFb.out HQ2.out (by decide)))
     clear HQ2
     have HQ2:=hx
     clear hx
     clear HI HFb
     have HI:=Lib.hid hi
     have HFb:=Lib.hid hf
     clear hi hf hg
     refine wpAnyL_done (by kernel_rfl) ?_ _
     refine NoPanic.normal ?_
     clear HPT
     have HKn2:Hid (Chk.run 130 (Chk.dblR ((x.records).drop (k1+1)) x.services x.sagas (seen1++[rn])) (Chk.run 130 (Chk.dblP rn (((rf).drop (k2+1)).map (·.name)) (own++[yn])) (Chk.at_ (!Chk.seenB own yn) (Chk.part rn yn) 130 cu2))=R):=Lib.hid (by exact HD2.out)
     go_wp2_with fail
     go_roundw
     case rel=>exact ⟨k2+1,_,(own++[yn]),by omega,by go_num,HKn2,by simp;omega,HI,HFb,HMO,HMA,HQ1⟩
     case measure=>simp [intOf];omega
    have HX2:Hid (Chk.run 130 (Chk.dblR ((x.records).drop (k1+1)) x.services x.sagas (seen1++[rn])) (cu2)=R):=Lib.hid (by have h:=HK.out;rw [List.drop_of_length_le (show rf.length≤k2 by rw [←HN5.out];omega)] at h;exact h)
    clear HK HMO
    have HKn1:Hid (Chk.run 130 (Chk.dblR ((x.records).drop (k1+1)) x.services x.sagas (seen1++[rn])) cu2=R):=Lib.hid (by exact HX2.out)
    go_wp2_with fail
    go_roundw
    case rel=>exact ⟨k1+1,_,(seen1++[rn]),by omega,by go_num,HKn1,by simp;omega,HI,HFb,HMA⟩
    case measure=>simp [intOf];omega
  have HS1:Hid (Chk.run 130 (Chk.dblV (x.services.drop 0) x.sagas seen1) cu1=R):=Lib.hid (by have h:=HK.out;rw [List.drop_of_length_le (show x.records.length≤k1 by rw [←HN1.out];omega)] at h;exact h)
  clear HK
  obtain ⟨⟨q0,q1,q2,q3⟩,-⟩:=(Chk.box_of HSeq.out HI.out _ (Bl.refl _)).k4
  go_wp2_with fail
  clear q0 q1 q2 q3
  go_loopw [57] (fun i wr=>∃ (k:Nat) (cu:Chk.Flt) (seen:List ByteArray),k≤n2∧i=.int .i64 k∧Hid (Chk.run 130 (Chk.dblV ((x.services).drop k) x.sagas seen) cu=R)∧seen.length≤20000+k∧Hid (Chk.In w0 w wr f S)∧Hid (Chk.Fb wr f cu)∧Hid (Chk.Cnt wr mb seen)) (fun i _=>n2 - (intOf i).toNat)
  case atStart=>exact ⟨0,_,_,by omega,rfl,HS1,by first | omega | (simp;done) | (simp;omega),HI,HFb,HMA⟩
  case round =>
   clear HI HFb HS1 HMA  
   obtain ⟨k1,cu1,seen1,hk1,rfl,HK,hsl1,HI,HFb,HMA⟩:=hrel
   obtain ⟨W1,rfl⟩:∃ w',w'=wr:=⟨_,rfl⟩
   by_cases hlt1:k1<n2
   case pos =>
    have hka:k1<(x.services).length:=by rw [←HN2.out];exact hlt1
    obtain ⟨g1,off1,cs,rfl,-,he,hc⟩:=ERow.get H2.out hka (by omega)
    have HD:=HK.out
    rw [Chk.dblV_next hka] at HD
    have hfi:=HFine.out.sv _ (List.getElem_mem hka)
    generalize (x.services)[k1]=r at *
    obtain ⟨rn,rf⟩:=r
    obtain ⟨u,rfl,HU⟩:=he
    simp only at HU hc HD hfi
    obtain ⟨A5,n5,c5,rfl⟩:=ERow.is HU
    have hn5:n5=rf.length:=by obtain ⟨_,_,e,_⟩:=ERow.slice HU;injection e
    have hm5:n5≤10000:=by rw [hn5];exact Nat.le_trans hfi.2.1 (by decide)
    have HN5:=Lib.hid hn5
    have H5:=Lib.hid HU
    clear HU hn5
    have HFi1:=Lib.hid hfi
    have HD1:=Lib.hid HD
    have hB:=HI.out.b0
    have a0:=hc 0 _ rfl
    have a1:=hc 1 _ rfl
    have hgl1:g1<w0.heap.size:=World.block_lt_of_cell? w0 _ a0
    have a0:=(hB.cell hgl1).trans a0
    have a1:=(hB.cell hgl1).trans a1
    simp only [Nat.add_zero] at a0
    have i10:(0:Int)≤(k1:Int):=by omega
    have i11:(k1:Int)<(n2:Int):=by omega
    have hbw:=hB.size
    have hgw1:¬g1=W1.heap.size:=by omega
    clear hc hB hka HD HK hfi hbw
    go_upto_region 16 with (fail)
    refine wp_named (fun V1 hV=>?_)
    obtain ⟨hbV,hqV,-⟩:=fresh_box hV
    clear hV
    have HIx:=Lib.hid (HI.out.below hbV)
    have HFx:=Lib.hid (HFb.out.below hbV)
    clear HI HFb
    have HI:=HIx
    have HFb:=HFx
    clear HIx HFx
    have hx:=Lib.hid (HMA.out.below hbV)
    clear HMA
    have HMA:=hx
    clear hx
    have HQ1:=Lib.hid hqV
    clear hqV hbV a0 a1
    have hd:Below V1.heap.size V1 V1.drew:=(Below.refl _ _).drew
    have HIx:=Lib.hid (HI.out.below hd)
    have HFx:=Lib.hid (HFb.out.below hd)
    clear HI HFb
    have HI:=HIx
    have HFb:=HFx
    clear HIx HFx
    have hx:=Lib.hid (HMA.out.below hd)
    clear HMA
    have HMA:=hx
    clear hx
    have hx:=Lib.hid (HQ1.out.below hd HQ1.out.lt)
    clear HQ1
    have HQ1:=hx
    clear hx
    have hSS:=HQ1.out
    refine wp_region_L_calm (fun w'=>Bk w' W1.heap.size 101 _) [7] (by kernel_rfl) hSS (fun hHeld=>?_)
    (refine wpAnyL_take0 0 (v:=?_) rfl (by kernel_rfl) (by kernel_rfl) (by kernel_rfl) (by kernel_rfl) (fun _ _ _ h=>h) (fun _=>by assumption) (by rfl) ?_ ?_;rotate_left;· (intro w;go_simp;try with_reducible rfl);try simp only [Act.put,List.setIfInBounds_toArray,List.set_cons_zero,List.set_cons_succ])
    (refine wpAnyL_take0 1 (v:=?_) rfl (by kernel_rfl) (by kernel_rfl) (by kernel_rfl) (by kernel_rfl) (fun _ _ _ h=>h) (fun _=>by assumption) (by rfl) ?_ ?_;rotate_left;· (intro w;go_simp;try with_reducible rfl);try simp only [Act.put,List.setIfInBounds_toArray,List.set_cons_zero,List.set_cons_succ])
    (refine wpAnyL_take0 2 (v:=?_) rfl (by kernel_rfl) (by kernel_rfl) (by kernel_rfl) (by kernel_rfl) (fun _ _ _ h=>h) (fun _=>by assumption) (by rfl) ?_ ?_;rotate_left;· (intro w;go_simp;try with_reducible rfl);try simp only [Act.put,List.setIfInBounds_toArray,List.set_cons_zero,List.set_cons_succ])
    (refine Lst.takeZ 7 3 (v:=?_) rfl (by kernel_rfl) (by kernel_rfl) (by kernel_rfl) (by kernel_rfl) (by kernel_rfl) (by kernel_rfl) (fun _ _ _ h=>h) (by assumption) (by rfl) ?_ ?_;rotate_left;· (intro w hSw;have e:=(Bk.k2 hSw).1.1;go_simp;try with_reducible rfl);try simp only [Act.put,List.setIfInBounds_toArray,List.set_cons_zero,List.set_cons_succ])
    (refine wpAnyL_take0 5 (v:=?_) rfl (by kernel_rfl) (by kernel_rfl) (by kernel_rfl) (by kernel_rfl) (fun _ _ _ h=>h) (fun _=>by assumption) (by rfl) ?_ ?_;rotate_left;· (intro w;go_simp;try with_reducible rfl);try simp only [Act.put,List.setIfInBounds_toArray,List.set_cons_zero,List.set_cons_succ])
    (refine Lst.takeZ 7 6 (v:=?_) rfl (by kernel_rfl) (by kernel_rfl) (by kernel_rfl) (by kernel_rfl) (by kernel_rfl) (by kernel_rfl) (fun _ _ _ h=>h) (by assumption) (by rfl) ?_ ?_;rotate_left;· (intro w hSw;have e:=(Bk.k2 hSw).1.1;go_simp;try with_reducible rfl);try simp only [Act.put,List.setIfInBounds_toArray,List.set_cons_zero,List.set_cons_succ])
    clear hSS hd
    have HNEW:=Lib.hid (cnew_any mb seen1 rn HFi1.out.1 (by omega) _ HMA.out)
    (refine wpAnyL_step 4 (by kernel_rfl) rfl (fun K hK=>?_))
    go_simp
    refine HNEW.out.mono ?_
    rintro e X ⟨rfl,hg,hc⟩
    have hx:=Lib.hid (Bk.grown HQ1.out hg (HMA.out.ne HQ1.out))
    clear HQ1
    have HQ1:=hx
    clear hx
    have HIx:=Lib.hid (HI.out.fresh hg hmblt)
    have HFx:=Lib.hid (HFb.out.fresh HI.out hg hmblt)
    clear HI HFb HMA
    have HI:=HIx
    have HFb:=HFx
    have HMA:=Lib.hid hc
    clear HIx HFx hc
    (refine hK.out _ _ (fun hnn=>HQ1.out) ?_;clear hK K;try simp only [Act.put,List.setIfInBounds_toArray,List.set_cons_zero,List.set_cons_succ])
    clear HNEW hHeld
    (refine wpAnyL_step 7 (by kernel_rfl) rfl (fun K hK=>?_))
    go_simp
    refine (Chk.at_any HI.out HFb.out (Below.refl _ _) (!Chk.seenB seen1 rn) (rn) 130).mono ?_
    rintro e Y ⟨rfl,hg,hi,hf⟩
    (refine hK.out _ _ (fun hnn=>(absurd hnn (by decide))) ?_;clear hK K;try simp only [Act.put,List.setIfInBounds_toArray,List.set_cons_zero,List.set_cons_succ])
    have hx:=Lib.hid (HMA.out.kept hg (by intro e;injection e with e;have:=HI.out.hi;omega))
    clear HMA
    have HMA:=hx
    clear hx
    have hx:=Lib.hid (Bk.grown HQ1.out hg (Chk.ne_f HFb.out HQ1.out (by decide)))
    clear HQ1
    have HQ1:=hx
    clear hx
    clear HI HFb
    have HI:=Lib.hid hi
    have HFb:=Lib.hid hf
    clear hi hf hg
    refine wpAnyL_done (by kernel_rfl) ?_ _
    refine NoPanic.normal ?_
    go_upto_region 18 with (fail)
    refine wp_named (fun V3 hV3=>?_)
    obtain ⟨mo,hmoe⟩:∃ mo,mo=Y.heap.size:=⟨_,rfl⟩
    have hmolt:w.heap.size<mo:=by rw [hmoe];have:=HI.out.size;omega
    have hmne:mb<mo:=by rw [hmoe];exact HMA.out.lt
    have hc0:Chk.Cnt V3 mo []:=by subst hV3 hmoe;exact Chk.Cnt.made Y
    have hb0:Below Y.heap.size Y V3:=by subst hV3;exact (Below.refl _ _).alloc (Nat.le_refl _) _
    clear hV3
    rw [←hmoe]
    have HIx:=Lib.hid (HI.out.below hb0)
    have HFx:=Lib.hid (HFb.out.below hb0)
    clear HI HFb
    have HI:=HIx
    have HFb:=HFx
    clear HIx HFx
    have hx:=Lib.hid (HMA.out.below hb0)
    clear HMA
    have HMA:=hx
    clear hx
    have hx:=Lib.hid (HQ1.out.below hb0 HQ1.out.lt)
    clear HQ1
    have HQ1:=hx
    clear hx
    have HMO:=Lib.hid hc0
    clear hc0 hb0 hmoe
    obtain ⟨⟨b0,b1⟩,-⟩:=HQ1.out.k2
    go_wp2_with fail
    clear b0 b1
    have HSi:Hid (Chk.run 130 (Chk.dblV ((x.services).drop (k1+1)) x.sagas (seen1++[rn])) (Chk.run 130 (Chk.dblP rn ((rf.drop 0).map (·.name)) []) (Chk.at_ (!Chk.seenB seen1 rn) rn 130 cu1))=R):=Lib.hid (by have h:=HD1.out;simp only [Chk.run,Chk.run_app] at h;exact h)
    go_loopw [73] (fun i wr=>∃ (k:Nat) (cu:Chk.Flt) (seen:List ByteArray),k≤n5∧i=.int .i64 k∧Hid (Chk.run 130 (Chk.dblV ((x.services).drop (k1+1)) x.sagas (seen1++[rn])) (Chk.run 130 (Chk.dblP rn (((rf).drop k).map (·.name)) seen) cu)=R)∧seen.length≤0+k∧Hid (Chk.In w0 w wr f S)∧Hid (Chk.Fb wr f cu)∧Hid (Chk.Cnt wr mo seen)∧Hid (Chk.Cnt wr mb (seen1++[rn]))∧Hid (Bk wr W1.heap.size 101 #[.string rn,.slice A5 n5 c5])) (fun i _=>n5 - (intOf i).toNat)
    case atStart=>exact ⟨0,_,[],by omega,rfl,HSi,by first | omega | (simp;done) | (simp;omega),HI,HFb,HMO,HMA,HQ1⟩
    case round =>
     clear HI HFb HSi HMO HMA HQ1
     obtain ⟨k2,cu2,own,hk2,rfl,HK,hsl2,HI,HFb,HMO,HMA,HQ1⟩:=hrel
     obtain ⟨W2,rfl⟩:∃ w',w'=wr:=⟨_,rfl⟩
     by_cases hlt2:k2<n5
     case pos =>
      have hka:k2<(rf).length:=by rw [←HN5.out];exact hlt2
      obtain ⟨g2,off2,cs,rfl,-,he,hc⟩:=ERow.get H5.out hka (by omega)
      have HD:=HK.out
      rw [Chk.dblP_next rn (·.name) hka] at HD
      have hfi:=HFi1.out.2.2 _ (List.getElem_mem hka)
      generalize (rf)[k2]=r at *
      obtain ⟨m0,m1,m2,m3,m4⟩:=r
      unfold Id.MthE Id.Mth.cells at he
      subst he
      simp only at hc HD hfi
      have HFi2:=Lib.hid hfi
      have HD2:=Lib.hid HD
      have hB:=HI.out.b0
      have a0:=hc 0 _ rfl
      have a1:=hc 1 _ rfl
      have a2:=hc 2 _ rfl
      have a3:=hc 3 _ rfl
      have a4:=hc 4 _ rfl
      have hgl2:g2<w0.heap.size:=World.block_lt_of_cell? w0 _ a0
      have a0:=(hB.cell hgl2).trans a0
      have a1:=(hB.cell hgl2).trans a1
      have a2:=(hB.cell hgl2).trans a2
      have a3:=(hB.cell hgl2).trans a3
      have a4:=(hB.cell hgl2).trans a4
      simp only [Nat.add_zero] at a0
      have i20:(0:Int)≤(k2:Int):=by omega
      have i21:(k2:Int)<(n5:Int):=by omega
      have hbw:=hB.size
      have hgw2:¬g2=W2.heap.size:=by omega
      clear hc hB hka HD HK hfi hbw
      go_upto_region 21 with (fail)
      refine wp_named (fun V2 hV=>?_)
      obtain ⟨hbV,hqV,-⟩:=fresh_box hV
      clear hV
      have HIx:=Lib.hid (HI.out.below hbV)
      have HFx:=Lib.hid (HFb.out.below hbV)
      clear HI HFb
      have HI:=HIx
      have HFb:=HFx
      clear HIx HFx
      have hx:=Lib.hid (HMA.out.below hbV)
      clear HMA
      have HMA:=hx
      clear hx
      have hx:=Lib.hid (HMO.out.below hbV)
      clear HMO
      have HMO:=hx
      clear hx
      have hx:=Lib.hid (HQ1.out.below hbV HQ1.out.lt)
      clear HQ1
      have HQ1:=hx
      clear hx
      have HQ2:=Lib.hid hqV
      clear hqV hbV a0 a1 a2 a3 a4
      have hd:Below V2.heap.size V2 V2.drew:=(Below.refl _ _).drew
      have HIx:=Lib.hid (HI.out.below hd)
      have HFx:=Lib.hid (HFb.out.below hd)
      clear HI HFb
      have HI:=HIx
      have HFb:=HFx
      clear HIx HFx
      have hx:=Lib.hid (HMA.out.below hd)
      clear HMA
      have HMA:=hx
      clear hx
      have hx:=Lib.hid (HMO.out.below hd)
      clear HMO
      have HMO:=hx
      clear hx
      have hx:=Lib.hid (HQ1.out.below hd HQ1.out.lt)
      clear HQ1
      have HQ1:=hx
      clear hx
      have hx:=Lib.hid (HQ2.out.below hd HQ2.out.lt)
      clear HQ2
      have HQ2:=hx
      clear hx
      have hSS:=And.intro HQ1.out HQ2.out
      refine wp_region_L_calm (fun w'=>Bk w' W1.heap.size 101 _∧Bk w' W2.heap.size 180 _) [10] (by kernel_rfl) hSS (fun hHeld=>?_)
      (refine wpAnyL_take0 0 (v:=?_) rfl (by kernel_rfl) (by kernel_rfl) (by kernel_rfl) (by kernel_rfl) (fun _ _ _ h=>h) (fun _=>by assumption) (by rfl) ?_ ?_;rotate_left;· (intro w;go_simp;try with_reducible rfl);try simp only [Act.put,List.setIfInBounds_toArray,List.set_cons_zero,List.set_cons_succ])
      (refine wpAnyL_take0 1 (v:=?_) rfl (by kernel_rfl) (by kernel_rfl) (by kernel_rfl) (by kernel_rfl) (fun _ _ _ h=>h) (fun _=>by assumption) (by rfl) ?_ ?_;rotate_left;· (intro w;go_simp;try with_reducible rfl);try simp only [Act.put,List.setIfInBounds_toArray,List.set_cons_zero,List.set_cons_succ])
      (refine wpAnyL_take0 2 (v:=?_) rfl (by kernel_rfl) (by kernel_rfl) (by kernel_rfl) (by kernel_rfl) (fun _ _ _ h=>h) (fun _=>by assumption) (by rfl) ?_ ?_;rotate_left;· (intro w;go_simp;try with_reducible rfl);try simp only [Act.put,List.setIfInBounds_toArray,List.set_cons_zero,List.set_cons_succ])
      (refine Lst.takeZ 10 3 (v:=?_) rfl (by kernel_rfl) (by kernel_rfl) (by kernel_rfl) (by kernel_rfl) (by kernel_rfl) (by kernel_rfl) (fun _ _ _ h=>h) (by assumption) (by rfl) ?_ ?_;rotate_left;· (intro w hSw;have e:=(Bk.k5 hSw.2).1.1;go_simp;try with_reducible rfl);try simp only [Act.put,List.setIfInBounds_toArray,List.set_cons_zero,List.set_cons_succ])
      (refine wpAnyL_take0 5 (v:=?_) rfl (by kernel_rfl) (by kernel_rfl) (by kernel_rfl) (by kernel_rfl) (fun _ _ _ h=>h) (fun _=>by assumption) (by rfl) ?_ ?_;rotate_left;· (intro w;go_simp;try with_reducible rfl);try simp only [Act.put,List.setIfInBounds_toArray,List.set_cons_zero,List.set_cons_succ])
      (refine Lst.takeZ 10 6 (v:=?_) rfl (by kernel_rfl) (by kernel_rfl) (by kernel_rfl) (by kernel_rfl) (by kernel_rfl) (by kernel_rfl) (fun _ _ _ h=>h) (by assumption) (by rfl) ?_ ?_;rotate_left;· (intro w hSw;have e:=(Bk.k2 hSw.1).1.1;go_simp;try with_reducible rfl);try simp only [Act.put,List.setIfInBounds_toArray,List.set_cons_zero,List.set_cons_succ])
      (refine wpAnyL_take0 7 (v:=?_) rfl (by kernel_rfl) (by kernel_rfl) (by kernel_rfl) (by kernel_rfl) (fun _ _ _ h=>h) (fun _=>by assumption) (by rfl) ?_ ?_;rotate_left;· (intro w;go_simp;try with_reducible rfl);try simp only [Act.put,List.setIfInBounds_toArray,List.set_cons_zero,List.set_cons_succ])
      (refine Lst.takeZ 10 8 (v:=?_) rfl (by kernel_rfl) (by kernel_rfl) (by kernel_rfl) (by kernel_rfl) (by kernel_rfl) (by kernel_rfl) (fun _ _ _ h=>h) (by assumption) (by rfl) ?_ ?_;rotate_left;· (intro w hSw;have e:=(Bk.k5 hSw.2).1.1;go_simp;try with_reducible rfl);try simp only [Act.put,List.setIfInBounds_toArray,List.set_cons_zero,List.set_cons_succ])
      clear hSS hd
      have HNEW:=Lib.hid (cnew_any mo own m0 HFi2.out.1 (by omega) _ HMO.out)
      have HPT:Hid (∀ w',Calls Tryz.prog 108 #[.string rn,.string m0] w' fun e w''=>e=.returned (.string (Chk.part rn m0))∧w''=w'):=Lib.hid (fun w'=>cpart_any rn m0 HFi1.out.1 HFi2.out.1 w')
      (refine wpAnyL_step 4 (by kernel_rfl) rfl (fun K hK=>?_))
      go_simp
      refine HNEW.out.mono ?_
      rintro e X ⟨rfl,hg,hc⟩
      have hx:=Lib.hid (HMA.out.kept hg (by intro e;injection e with e;omega))
      clear HMA
      have HMA:=hx
      clear hx
      have hx:=Lib.hid (Bk.grown HQ1.out hg (HMO.out.ne HQ1.out))
      clear HQ1
      have HQ1:=hx
      clear hx
      have hx:=Lib.hid (Bk.grown HQ2.out hg (HMO.out.ne HQ2.out))
      clear HQ2
      have HQ2:=hx
      clear hx
      have HIx:=Lib.hid (HI.out.fresh hg hmolt)
      have HFx:=Lib.hid (HFb.out.fresh HI.out hg hmolt)
      clear HI HFb HMO
      have HI:=HIx
      have HFb:=HFx
      have HMO:=Lib.hid hc
      clear HIx HFx hc
      (refine hK.out _ _ (fun hnn=>⟨HQ1.out,HQ2.out⟩) ?_;clear hK K;try simp only [Act.put,List.setIfInBounds_toArray,List.set_cons_zero,List.set_cons_succ])
      clear HNEW hHeld
      (refine wpAnyL_step 9 (by kernel_rfl) rfl (fun K hK=>?_))
      go_simp
      refine (HPT.out _).mono ?_
      rintro e Z ⟨rfl,rfl⟩
      (refine hK.out _ _ (fun hnn=>⟨HQ1.out,HQ2.out⟩) ?_;clear hK K;try simp only [Act.put,List.setIfInBounds_toArray,List.set_cons_zero,List.set_cons_succ])
      (refine wpAnyL_step 10 (by kernel_rfl) rfl (fun K hK=>?_))
      go_simp
      refine (Chk.at_any HI.out HFb.out (Below.refl _ _) (!Chk.seenB own m0) (Chk.part rn m0) 130).mono ?_
      rintro e Y2 ⟨rfl,hg,hi,hf⟩
      (refine hK.out _ _ (fun hnn=>(absurd hnn (by decide))) ?_;clear hK K;try simp only [Act.put,List.setIfInBounds_toArray,List.set_cons_zero,List.set_cons_succ])
      have hx:=Lib.hid (HMA.out.kept hg (by intro e;injection e with e;have:=HI.out.hi;omega))
      clear HMA
      have HMA:=hx
      clear hx
      have hx:=Lib.hid (HMO.out.kept hg (by intro e;injection e with e;have:=HI.out.hi;omega))
      clear HMO
      have HMO:=hx
      clear hx
      have hx:=Lib.hid (Bk.grown HQ1.out hg (Chk.ne_f HFb.out HQ1.out (by decide)))
      clear HQ1
      have HQ1:=hx
      clear hx
      have hx:=Lib.hid (Bk.grown HQ2.out hg (Chk.ne_f HFb.out HQ2.out (by decide)))
      clear HQ2
      have HQ2:=hx
      clear hx
      clear HI HFb
      have HI:=Lib.hid hi
      have HFb:=Lib.hid hf
      clear hi hf hg
      refine wpAnyL_done (by kernel_rfl) ?_ _
      refine NoPanic.normal ?_
      clear HPT
      have HKn2:Hid (Chk.run 130 (Chk.dblV ((x.services).drop (k1+1)) x.sagas (seen1++[rn])) (Chk.run 130 (Chk.dblP rn (((rf).drop (k2+1)).map (·.name)) (own++[m0])) (Chk.at_ (!Chk.seenB own m0) (Chk.part rn m0) 130 cu2))=R):=Lib.hid (by exact HD2.out)
      go_wp2_with fail
      go_roundw
      case rel=>exact ⟨k2+1,_,(own++[m0]),by omega,by go_num,HKn2,by simp;omega,HI,HFb,HMO,HMA,HQ1⟩
      case measure=>simp [intOf];omega
     have HX2:Hid (Chk.run 130 (Chk.dblV ((x.services).drop (k1+1)) x.sagas (seen1++[rn])) (cu2)=R):=Lib.hid (by have h:=HK.out;rw [List.drop_of_length_le (show rf.length≤k2 by rw [←HN5.out];omega)] at h;exact h)
     clear HK HMO
     have HKn1:Hid (Chk.run 130 (Chk.dblV ((x.services).drop (k1+1)) x.sagas (seen1++[rn])) cu2=R):=Lib.hid (by exact HX2.out)
     go_wp2_with fail
     go_roundw
     case rel=>exact ⟨k1+1,_,(seen1++[rn]),by omega,by go_num,HKn1,by simp;omega,HI,HFb,HMA⟩
     case measure=>simp [intOf];omega
   have HS1:Hid (Chk.run 130 (Chk.dblG (x.sagas.drop 0) seen1) cu1=R):=Lib.hid (by have h:=HK.out;rw [List.drop_of_length_le (show x.services.length≤k1 by rw [←HN2.out];omega)] at h;exact h)
   clear HK
   obtain ⟨⟨q0,q1,q2,q3⟩,-⟩:=(Chk.box_of HSeq.out HI.out _ (Bl.refl _)).k4
   go_wp2_with fail
   clear q0 q1 q2 q3
   go_loopw [93] (fun i wr=>∃ (k:Nat) (cu:Chk.Flt) (seen:List ByteArray),k≤n3∧i=.int .i64 k∧Hid (Chk.run 130 (Chk.dblG ((x.sagas).drop k) seen) cu=R)∧seen.length≤50000+k∧Hid (Chk.In w0 w wr f S)∧Hid (Chk.Fb wr f cu)∧Hid (Chk.Cnt wr mb seen)) (fun i _=>n3 - (intOf i).toNat)
   case atStart=>exact ⟨0,_,_,by omega,rfl,HS1,by first | omega | (simp;done) | (simp;omega),HI,HFb,HMA⟩
   case round =>
    clear HI HFb HS1 HMA  
    obtain ⟨k1,cu1,seen1,hk1,rfl,HK,hsl1,HI,HFb,HMA⟩:=hrel
    obtain ⟨W1,rfl⟩:∃ w',w'=wr:=⟨_,rfl⟩
    by_cases hlt1:k1<n3
    case pos =>
     have hka:k1<(x.sagas).length:=by rw [←HN3.out];exact hlt1
     obtain ⟨g1,off1,cs,rfl,-,he,hc⟩:=ERow.get H3.out hka (by omega)
     have HD:=HK.out
     rw [Chk.dblG_next hka] at HD
     have hfi:=HFine.out.sa _ (List.getElem_mem hka)
     generalize (x.sagas)[k1]=r at *
     obtain ⟨rn,ra,rf⟩:=r
     obtain ⟨u,rfl,HU⟩:=he
     simp only at HU hc HD hfi
     obtain ⟨A5,n5,c5,rfl⟩:=ERow.is HU
     have hn5:n5=rf.length:=by obtain ⟨_,_,e,_⟩:=ERow.slice HU;injection e
     have hm5:n5≤10000:=by rw [hn5];exact Nat.le_trans hfi.2.1 (by decide)
     have HN5:=Lib.hid hn5
     have H5:=Lib.hid HU
     clear HU hn5
     have HFi1:=Lib.hid hfi
     have HD1:=Lib.hid HD
     have hB:=HI.out.b0
     have a0:=hc 0 _ rfl
     have a1:=hc 1 _ rfl
     have a2:=hc 2 _ rfl
     have hgl1:g1<w0.heap.size:=World.block_lt_of_cell? w0 _ a0
     have a0:=(hB.cell hgl1).trans a0
     have a1:=(hB.cell hgl1).trans a1
     have a2:=(hB.cell hgl1).trans a2
     simp only [Nat.add_zero] at a0
     have i10:(0:Int)≤(k1:Int):=by omega
     have i11:(k1:Int)<(n3:Int):=by omega
     have hbw:=hB.size
     have hgw1:¬g1=W1.heap.size:=by omega
     clear hc hB hka HD HK hfi hbw
     go_upto_region 27 with (fail)
     refine wp_named (fun V1 hV=>?_)
     obtain ⟨hbV,hqV,-⟩:=fresh_box hV
     clear hV
     have HIx:=Lib.hid (HI.out.below hbV)
     have HFx:=Lib.hid (HFb.out.below hbV)
     clear HI HFb
     have HI:=HIx
     have HFb:=HFx
     clear HIx HFx
     have hx:=Lib.hid (HMA.out.below hbV)
     clear HMA
     have HMA:=hx
     clear hx
     have HQ1:=Lib.hid hqV
     clear hqV hbV a0 a1 a2
     have hd:Below V1.heap.size V1 V1.drew:=(Below.refl _ _).drew
     have HIx:=Lib.hid (HI.out.below hd)
     have HFx:=Lib.hid (HFb.out.below hd)
     clear HI HFb
     have HI:=HIx
     have HFb:=HFx
     clear HIx HFx
     have hx:=Lib.hid (HMA.out.below hd)
     clear HMA
     have HMA:=hx
     clear hx
     have hx:=Lib.hid (HQ1.out.below hd HQ1.out.lt)
     clear HQ1
     have HQ1:=hx
     clear hx
     have hSS:=HQ1.out
     refine wp_region_L_calm (fun w'=>Bk w' W1.heap.size 105 _) [7] (by kernel_rfl) hSS (fun hHeld=>?_)
     (refine wpAnyL_take0 0 (v:=?_) rfl (by kernel_rfl) (by kernel_rfl) (by kernel_rfl) (by kernel_rfl) (fun _ _ _ h=>h) (fun _=>by assumption) (by rfl) ?_ ?_;rotate_left;· (intro w;go_simp;try with_reducible rfl);try simp only [Act.put,List.setIfInBounds_toArray,List.set_cons_zero,List.set_cons_succ])
     (refine wpAnyL_take0 1 (v:=?_) rfl (by kernel_rfl) (by kernel_rfl) (by kernel_rfl) (by kernel_rfl) (fun _ _ _ h=>h) (fun _=>by assumption) (by rfl) ?_ ?_;rotate_left;· (intro w;go_simp;try with_reducible rfl);try simp only [Act.put,List.setIfInBounds_toArray,List.set_cons_zero,List.set_cons_succ])
     (refine wpAnyL_take0 2 (v:=?_) rfl (by kernel_rfl) (by kernel_rfl) (by kernel_rfl) (by kernel_rfl) (fun _ _ _ h=>h) (fun _=>by assumption) (by rfl) ?_ ?_;rotate_left;· (intro w;go_simp;try with_reducible rfl);try simp only [Act.put,List.setIfInBounds_toArray,List.set_cons_zero,List.set_cons_succ])
     (refine Lst.takeZ 7 3 (v:=?_) rfl (by kernel_rfl) (by kernel_rfl) (by kernel_rfl) (by kernel_rfl) (by kernel_rfl) (by kernel_rfl) (fun _ _ _ h=>h) (by assumption) (by rfl) ?_ ?_;rotate_left;· (intro w hSw;have e:=(Bk.k3 hSw).1.1;go_simp;try with_reducible rfl);try simp only [Act.put,List.setIfInBounds_toArray,List.set_cons_zero,List.set_cons_succ])
     (refine wpAnyL_take0 5 (v:=?_) rfl (by kernel_rfl) (by kernel_rfl) (by kernel_rfl) (by kernel_rfl) (fun _ _ _ h=>h) (fun _=>by assumption) (by rfl) ?_ ?_;rotate_left;· (intro w;go_simp;try with_reducible rfl);try simp only [Act.put,List.setIfInBounds_toArray,List.set_cons_zero,List.set_cons_succ])
     (refine Lst.takeZ 7 6 (v:=?_) rfl (by kernel_rfl) (by kernel_rfl) (by kernel_rfl) (by kernel_rfl) (by kernel_rfl) (by kernel_rfl) (fun _ _ _ h=>h) (by assumption) (by rfl) ?_ ?_;rotate_left;· (intro w hSw;have e:=(Bk.k3 hSw).1.1;go_simp;try with_reducible rfl);try simp only [Act.put,List.setIfInBounds_toArray,List.set_cons_zero,List.set_cons_succ])
     clear hSS hd
     have HNEW:=Lib.hid (cnew_any mb seen1 rn HFi1.out.1 (by omega) _ HMA.out)
     (refine wpAnyL_step 4 (by kernel_rfl) rfl (fun K hK=>?_))
     go_simp
     refine HNEW.out.mono ?_
     rintro e X ⟨rfl,hg,hc⟩
     have hx:=Lib.hid (Bk.grown HQ1.out hg (HMA.out.ne HQ1.out))
     clear HQ1
     have HQ1:=hx
     clear hx
     have HIx:=Lib.hid (HI.out.fresh hg hmblt)
     have HFx:=Lib.hid (HFb.out.fresh HI.out hg hmblt)
     clear HI HFb HMA
     have HI:=HIx
     have HFb:=HFx
     have HMA:=Lib.hid hc
     clear HIx HFx hc
     (refine hK.out _ _ (fun hnn=>HQ1.out) ?_;clear hK K;try simp only [Act.put,List.setIfInBounds_toArray,List.set_cons_zero,List.set_cons_succ])
     clear HNEW hHeld
     (refine wpAnyL_step 7 (by kernel_rfl) rfl (fun K hK=>?_))
     go_simp
     refine (Chk.at_any HI.out HFb.out (Below.refl _ _) (!Chk.seenB seen1 rn) (rn) 130).mono ?_
     rintro e Y ⟨rfl,hg,hi,hf⟩
     (refine hK.out _ _ (fun hnn=>(absurd hnn (by decide))) ?_;clear hK K;try simp only [Act.put,List.setIfInBounds_toArray,List.set_cons_zero,List.set_cons_succ])
     have hx:=Lib.hid (HMA.out.kept hg (by intro e;injection e with e;have:=HI.out.hi;omega))
     clear HMA
     have HMA:=hx
     clear hx
     have hx:=Lib.hid (Bk.grown HQ1.out hg (Chk.ne_f HFb.out HQ1.out (by decide)))
     clear HQ1
     have HQ1:=hx
     clear hx
     clear HI HFb
     have HI:=Lib.hid hi
     have HFb:=Lib.hid hf
     clear hi hf hg
     refine wpAnyL_done (by kernel_rfl) ?_ _
     refine NoPanic.normal ?_
     have HKn1:Hid (Chk.run 130 (Chk.dblG ((x.sagas).drop (k1+1)) (seen1++[rn])) (Chk.at_ (!Chk.seenB seen1 rn) rn 130 cu1)=R):=Lib.hid (by exact HD1.out)
     go_wp2_with fail
     go_roundw
     case rel=>exact ⟨k1+1,_,(seen1++[rn]),by omega,by go_num,HKn1,by simp;omega,HI,HFb,HMA⟩
     case measure=>simp [intOf];omega
    have HE:Hid (cu1=R):=Lib.hid (by have h:=HK.out;rw [List.drop_of_length_le (show x.sagas.length≤k1 by rw [←HN3.out];omega)] at h;exact h)
    go_wp2_with fail
    refine bodyPost_end (results_none rfl _ _ _) rfl ?_
    exact ⟨rfl,HI.out.gb,by rw [←HE.out];exact HFb.out⟩
end Go.Proofs.YtogijkhenihaaaaGreatDoor
set_option linter.unusedVariables false
set_option linter.unusedSimpArgs false
namespace Go.Proofs.YtogijkhenihaaaaGreatDoor
open Go.RowKit Go.BigFrame
namespace Chk
open Go.Proofs.YtogijkhenihaaaaGreatDoor.Id
def first:List Flt→ByteArray × Nat
 | []=>(⟨#[]⟩,0)
 | none::l=>first l
 | some p::_=>p
noncomputable def flts (x:Sch):List Flt:=[run 120 (namesT x) none,run 135 (countsT x) none,run 130 (doublesT x) none,run 131 (typesT x) none,run 132 (bottomsT x) none,run 134 (effectsT x) none,run 133 (undosT x) none,run 240 (sagasT x) none,run 241 (stepsT x) none,run 133 (waysT x) none]
noncomputable def check (x:Sch):ByteArray × Nat:=first (flts x)
theorem run_keeps (e:Nat) (p:ByteArray × Nat):∀ l:List Test,run e l (some p)=some p
 | []=>rfl
 | t::l=>by
  show run e l (at_ t.1 t.2 e (some p))=some p
  have:at_ t.1 t.2 e (some p)=some p:=by unfold at_;split <;> rfl
  rw [this]
  exact run_keeps e p l
theorem run_right {e:Nat}:∀ {l:List Test},run e l none=none→∀ t∈l,t.1=true
 | [],_,t,ht=>absurd ht (by simp)
 | u::l,h,t,ht=>by
  have h1:run e l (at_ u.1 u.2 e none)=none:=h
  cases hu:u.1 with
  | false =>
   have:at_ u.1 u.2 e none=some (u.2,e):=by unfold at_;rw [hu];rfl
   rw [this,run_keeps] at h1
   cases h1
  | true =>
   have:at_ u.1 u.2 e none=none:=by unfold at_;rw [hu];rfl
   rw [this] at h1
   rcases List.mem_cons.1 ht with rfl | ht
   ·exact hu
   ·exact run_right h1 t ht
theorem Wide.mid {x:Sch} (h:Wide x) (hc:run 135 (countsT x) none=none):Mid x:=by
 have ht:=run_right hc
 unfold countsT at ht
 simp only [List.mem_cons,List.mem_append,List.mem_flatMap] at ht
 refine ⟨h.nm,h.recs,h.svcs,h.sags,fun r hr=>?_,fun v hv=>?_,fun g hg=>?_⟩
 ·obtain ⟨a,b,c⟩:=h.re r hr
  have:=ht (decide ((r.fields.length:Int)≤16),r.name) (.inr (.inl ⟨r,hr,by simp [countsR]⟩))
  simp only [decide_eq_true_eq] at this
  exact ⟨a,by omega,c⟩
 ·obtain ⟨a,b,c⟩:=h.sv v hv
  have:=ht (decide ((v.methods.length:Int)≤16),v.name) (.inr (.inr (.inl ⟨v,hv,by simp [countsV]⟩)))
  simp only [decide_eq_true_eq] at this
  exact ⟨a,by omega,c⟩
 ·obtain ⟨a,b,c⟩:=h.sa g hg
  have:=ht (decide (1≤(g.steps.length:Int))&&decide ((g.steps.length:Int)≤8),g.name) (.inr (.inr (.inr ⟨g,hg,by simp [countsG]⟩)))
  simp only [Bool.and_eq_true,decide_eq_true_eq] at this
  exact ⟨a,by omega,c⟩
end Chk
theorem chk_ix0 (W:World):Sem.run Tryz.prog (Instr.index 86 (.agg #[.func (.func 38) #[] #[],.func (.func 39) #[] #[],.func (.func 40) #[] #[],.func (.func 41) #[] #[],.func (.func 42) #[] #[],.func (.func 43) #[] #[],.func (.func 44) #[] #[],.func (.func 45) #[] #[],.func (.func 46) #[] #[],.func (.func 47) #[] #[]]) (.int .i64 0)) W=.ok (.func (.func 38) #[] #[]) W:=by kernel_rfl
theorem chk_ix1 (W:World):Sem.run Tryz.prog (Instr.index 86 (.agg #[.func (.func 38) #[] #[],.func (.func 39) #[] #[],.func (.func 40) #[] #[],.func (.func 41) #[] #[],.func (.func 42) #[] #[],.func (.func 43) #[] #[],.func (.func 44) #[] #[],.func (.func 45) #[] #[],.func (.func 46) #[] #[],.func (.func 47) #[] #[]]) (.int .i64 1)) W=.ok (.func (.func 39) #[] #[]) W:=by kernel_rfl
theorem chk_ix2 (W:World):Sem.run Tryz.prog (Instr.index 86 (.agg #[.func (.func 38) #[] #[],.func (.func 39) #[] #[],.func (.func 40) #[] #[],.func (.func 41) #[] #[],.func (.func 42) #[] #[],.func (.func 43) #[] #[],.func (.func 44) #[] #[],.func (.func 45) #[] #[],.func (.func 46) #[] #[],.func (.func 47) #[] #[]]) (.int .i64 2)) W=.ok (.func (.func 40) #[] #[]) W:=by kernel_rfl
theorem chk_ix3 (W:World):Sem.run Tryz.prog (Instr.index 86 (.agg #[.func (.func 38) #[] #[],.func (.func 39) #[] #[],.func (.func 40) #[] #[],.func (.func 41) #[] #[],.func (.func 42) #[] #[],.func (.func 43) #[] #[],.func (.func 44) #[] #[],.func (.func 45) #[] #[],.func (.func 46) #[] #[],.func (.func 47) #[] #[]]) (.int .i64 3)) W=.ok (.func (.func 41) #[] #[]) W:=by kernel_rfl
theorem chk_ix4 (W:World):Sem.run Tryz.prog (Instr.index 86 (.agg #[.func (.func 38) #[] #[],.func (.func 39) #[] #[],.func (.func 40) #[] #[],.func (.func 41) #[] #[],.func (.func 42) #[] #[],.func (.func 43) #[] #[],.func (.func 44) #[] #[],.func (.func 45) #[] #[],.func (.func 46) #[] #[],.func (.func 47) #[] #[]]) (.int .i64 4)) W=.ok (.func (.func 42) #[] #[]) W:=by kernel_rfl
theorem chk_ix5 (W:World):Sem.run Tryz.prog (Instr.index 86 (.agg #[.func (.func 38) #[] #[],.func (.func 39) #[] #[],.func (.func 40) #[] #[],.func (.func 41) #[] #[],.func (.func 42) #[] #[],.func (.func 43) #[] #[],.func (.func 44) #[] #[],.func (.func 45) #[] #[],.func (.func 46) #[] #[],.func (.func 47) #[] #[]]) (.int .i64 5)) W=.ok (.func (.func 43) #[] #[]) W:=by kernel_rfl
theorem chk_ix6 (W:World):Sem.run Tryz.prog (Instr.index 86 (.agg #[.func (.func 38) #[] #[],.func (.func 39) #[] #[],.func (.func 40) #[] #[],.func (.func 41) #[] #[],.func (.func 42) #[] #[],.func (.func 43) #[] #[],.func (.func 44) #[] #[],.func (.func 45) #[] #[],.func (.func 46) #[] #[],.func (.func 47) #[] #[]]) (.int .i64 6)) W=.ok (.func (.func 44) #[] #[]) W:=by kernel_rfl
theorem chk_ix7 (W:World):Sem.run Tryz.prog (Instr.index 86 (.agg #[.func (.func 38) #[] #[],.func (.func 39) #[] #[],.func (.func 40) #[] #[],.func (.func 41) #[] #[],.func (.func 42) #[] #[],.func (.func 43) #[] #[],.func (.func 44) #[] #[],.func (.func 45) #[] #[],.func (.func 46) #[] #[],.func (.func 47) #[] #[]]) (.int .i64 7)) W=.ok (.func (.func 45) #[] #[]) W:=by kernel_rfl
theorem chk_ix8 (W:World):Sem.run Tryz.prog (Instr.index 86 (.agg #[.func (.func 38) #[] #[],.func (.func 39) #[] #[],.func (.func 40) #[] #[],.func (.func 41) #[] #[],.func (.func 42) #[] #[],.func (.func 43) #[] #[],.func (.func 44) #[] #[],.func (.func 45) #[] #[],.func (.func 46) #[] #[],.func (.func 47) #[] #[]]) (.int .i64 8)) W=.ok (.func (.func 46) #[] #[]) W:=by kernel_rfl
theorem chk_ix9 (W:World):Sem.run Tryz.prog (Instr.index 86 (.agg #[.func (.func 38) #[] #[],.func (.func 39) #[] #[],.func (.func 40) #[] #[],.func (.func 41) #[] #[],.func (.func 42) #[] #[],.func (.func 43) #[] #[],.func (.func 44) #[] #[],.func (.func 45) #[] #[],.func (.func 46) #[] #[],.func (.func 47) #[] #[]]) (.int .i64 9)) W=.ok (.func (.func 47) #[] #[]) W:=by kernel_rfl
set_option maxRecDepth 100000 in
set_option maxHeartbeats 16000000 in
theorem ccheckW_any (v:Value) (x:Id.Sch) (hF:Chk.Wide x) (w:World) (hkw:Tk.KW w) (hv:Id.SchV w none v x) :
  Calls Tryz.prog 10 #[v] w fun e w'=>e=.returned (.tuple #[.string (Chk.check x).1,.int .i64 (Chk.check x).2])∧Below w.heap.size w w':=by
 obtain ⟨R,HR⟩:∃ R,Hid (Chk.check x=R):=⟨_,Lib.hid rfl⟩
 rw [HR.out]
 have HR0:Hid (Chk.first ((Chk.flts x).drop 0)=R):=HR
 have HV:=Lib.hid hv
 have HKW:=Lib.hid hkw
 have HFine:=Lib.hid hF
 obtain ⟨A1,n1,c1,A2,n2,c2,A3,n3,c3,rfl,-,-,-⟩:=hv
 clear hkw hF HR
 go_enter Tryz.func10,Tryz.ntmps10
 go_upto_region 1 with (fail)
 refine wp_named (fun W0 hW0=>?_)
 obtain ⟨hb0,hq0,-⟩:=fresh_box hW0
 clear hW0
 have HB:=Lib.hid hb0
 have HQ:=Lib.hid hq0
 clear hb0 hq0
 go_wp2_with fail
 go_loopw [8] (fun i wr=>∃ (k:Nat),k≤10∧i=.int .i64 k∧Hid (Chk.first ((Chk.flts x).drop k)=R)∧Hid (2≤k→Chk.run 135 (Chk.countsT x) none=none)∧Hid (Below w.heap.size w wr)∧Hid (Bk wr w.heap.size 28 #[.string x.name,.slice A1 n1 c1,.slice A2 n2 c2,.slice A3 n3 c3])) (fun i _=>10 - (intOf i).toNat)
 case atStart=>exact ⟨0,by omega,rfl,HR0,Lib.hid (fun h=>absurd h (by decide)),HB,HQ⟩
 case round =>
  clear HB HQ HR0
  obtain ⟨k,hk,rfl,HK,HP,HB,HQ⟩:=hrel
  obtain ⟨Wk,rfl⟩:∃ w',w'=wr:=⟨_,rfl⟩
  have hbs:=HB.out.size
  rcases (show k=0∨k=1∨k=2∨k=3∨k=4∨k=5∨k=6∨k=7∨k=8∨k=9∨k=10 by omega) with rfl | rfl | rfl | rfl | rfl | rfl | rfl | rfl | rfl | rfl | rfl
  ·have hst:Chk.first ((Chk.flts x).drop 0)=Chk.first (Chk.run 120 (Chk.namesT x) none::(Chk.flts x).drop (0+1)):=rfl
   have HK2:Hid (Chk.first (Chk.run 120 (Chk.namesT x) none::(Chk.flts x).drop (0+1))=R):=Lib.hid (by rw [←hst];exact HK.out)
   clear hst HK
   have hix:=chk_ix0
   simp only [Int.cast_ofNat_Int]
   go_upto_region 5 with (fail)
   refine wp_named (fun W1 hW1=>?_)
   obtain ⟨hb1,hq1,-⟩:=fresh_box hW1
   clear hW1
   have HB1:=Lib.hid (HB.out.trans (hb1.mono hbs))
   have HQ1:=Lib.hid (HQ.out.below hb1 HQ.out.lt)
   have HF1:Hid (Chk.Fb W1 Wk.heap.size none):=Lib.hid hq1
   clear hb1 hq1 hix
   obtain ⟨⟨q0,q1,q2,q3⟩,-⟩:=HQ1.out.k4
   go_wp2_with fail
   refine (cnames_any _ x HFine.out Wk.heap.size none w W1 HKW.out HV.out HB1.out hbs HF1.out).mono ?_
   rintro e W2 ⟨rfl,hg2,hf2⟩
   have HB2:=Lib.hid (below_gb HB1.out hg2 hbs HB1.out.size)
   have HQ2:=Lib.hid (Bk.grown HQ1.out hg2 (by have:=HQ.out.lt;intro e;injection e with e;omega))
   obtain ⟨F,HF⟩:∃ F,Hid (Chk.run 120 (Chk.namesT x) none=F):=⟨_,Lib.hid rfl⟩
   rw [HF.out] at hf2 HK2
   clear hg2 q0 q1 q2 q3
   cases F with
   | none =>
    have hbk:Bk W2 Wk.heap.size 88 #[.bool false,.string ⟨#[]⟩,.int .i64 0]:=hf2
    obtain ⟨⟨y0,y1,y2⟩,-⟩:=hbk.k3
    clear hf2 hbk
    have HK3:Hid (Chk.first ((Chk.flts x).drop (0+1))=R):=Lib.hid HK2.out
    go_wp2_with fail
    go_roundw
    case rel=>exact ⟨0+1,by omega,by go_num,HK3,Lib.hid (fun h=>absurd h (by decide)),HB2,HQ2⟩
    case measure=>simp [intOf]
   | some p =>
    obtain ⟨wh,ec⟩:=p
    have hbk:Bk W2 Wk.heap.size 88 #[.bool true,.string wh,.int .i64 ec]:=hf2
    obtain ⟨⟨y0,y1,y2⟩,-⟩:=hbk.k3
    clear hf2 hbk
    have HE:Hid ((wh,ec)=R):=Lib.hid HK2.out
    go_wp2_with fail
    go_quiet (fail)
    go_wp2_with fail
    go_ret2
    exact ⟨by rw [←HE.out];rfl,below_drewN HB2.out nq⟩
  ·have hst:Chk.first ((Chk.flts x).drop 1)=Chk.first (Chk.run 135 (Chk.countsT x) none::(Chk.flts x).drop (1+1)):=rfl
   have HK2:Hid (Chk.first (Chk.run 135 (Chk.countsT x) none::(Chk.flts x).drop (1+1))=R):=Lib.hid (by rw [←hst];exact HK.out)
   clear hst HK
   have hix:=chk_ix1
   simp only [Int.cast_ofNat_Int]
   go_upto_region 5 with (fail)
   refine wp_named (fun W1 hW1=>?_)
   obtain ⟨hb1,hq1,-⟩:=fresh_box hW1
   clear hW1
   have HB1:=Lib.hid (HB.out.trans (hb1.mono hbs))
   have HQ1:=Lib.hid (HQ.out.below hb1 HQ.out.lt)
   have HF1:Hid (Chk.Fb W1 Wk.heap.size none):=Lib.hid hq1
   clear hb1 hq1 hix
   obtain ⟨⟨q0,q1,q2,q3⟩,-⟩:=HQ1.out.k4
   go_wp2_with fail
   refine (ccounts_any _ x HFine.out Wk.heap.size none w W1 HKW.out HV.out HB1.out hbs HF1.out).mono ?_
   rintro e W2 ⟨rfl,hg2,hf2⟩
   have HB2:=Lib.hid (below_gb HB1.out hg2 hbs HB1.out.size)
   have HQ2:=Lib.hid (Bk.grown HQ1.out hg2 (by have:=HQ.out.lt;intro e;injection e with e;omega))
   obtain ⟨F,HF⟩:∃ F,Hid (Chk.run 135 (Chk.countsT x) none=F):=⟨_,Lib.hid rfl⟩
   rw [HF.out] at hf2 HK2
   clear hg2 q0 q1 q2 q3
   cases F with
   | none =>
    have hbk:Bk W2 Wk.heap.size 88 #[.bool false,.string ⟨#[]⟩,.int .i64 0]:=hf2
    obtain ⟨⟨y0,y1,y2⟩,-⟩:=hbk.k3
    clear hf2 hbk
    have HK3:Hid (Chk.first ((Chk.flts x).drop (1+1))=R):=Lib.hid HK2.out
    go_wp2_with fail
    go_roundw
    case rel=>exact ⟨1+1,by omega,by go_num,HK3,Lib.hid (fun _=>HF.out),HB2,HQ2⟩
    case measure=>simp [intOf]
   | some p =>
    obtain ⟨wh,ec⟩:=p
    have hbk:Bk W2 Wk.heap.size 88 #[.bool true,.string wh,.int .i64 ec]:=hf2
    obtain ⟨⟨y0,y1,y2⟩,-⟩:=hbk.k3
    clear hf2 hbk
    have HE:Hid ((wh,ec)=R):=Lib.hid HK2.out
    go_wp2_with fail
    go_quiet (fail)
    go_wp2_with fail
    go_ret2
    exact ⟨by rw [←HE.out];rfl,below_drewN HB2.out nq⟩
  ·have hst:Chk.first ((Chk.flts x).drop 2)=Chk.first (Chk.run 130 (Chk.doublesT x) none::(Chk.flts x).drop (2+1)):=rfl
   have HK2:Hid (Chk.first (Chk.run 130 (Chk.doublesT x) none::(Chk.flts x).drop (2+1))=R):=Lib.hid (by rw [←hst];exact HK.out)
   clear hst HK
   have hix:=chk_ix2
   simp only [Int.cast_ofNat_Int]
   go_upto_region 5 with (fail)
   refine wp_named (fun W1 hW1=>?_)
   obtain ⟨hb1,hq1,-⟩:=fresh_box hW1
   clear hW1
   have HB1:=Lib.hid (HB.out.trans (hb1.mono hbs))
   have HQ1:=Lib.hid (HQ.out.below hb1 HQ.out.lt)
   have HF1:Hid (Chk.Fb W1 Wk.heap.size none):=Lib.hid hq1
   clear hb1 hq1 hix
   obtain ⟨⟨q0,q1,q2,q3⟩,-⟩:=HQ1.out.k4
   go_wp2_with fail
   refine (cdoubles_any _ x (HFine.out.mid (HP.out (by decide))) Wk.heap.size none w W1 HKW.out HV.out HB1.out hbs HF1.out).mono ?_
   rintro e W2 ⟨rfl,hg2,hf2⟩
   have HB2:=Lib.hid (below_gb HB1.out hg2 hbs HB1.out.size)
   have HQ2:=Lib.hid (Bk.grown HQ1.out hg2 (by have:=HQ.out.lt;intro e;injection e with e;omega))
   obtain ⟨F,HF⟩:∃ F,Hid (Chk.run 130 (Chk.doublesT x) none=F):=⟨_,Lib.hid rfl⟩
   rw [HF.out] at hf2 HK2
   clear hg2 q0 q1 q2 q3
   cases F with
   | none =>
    have hbk:Bk W2 Wk.heap.size 88 #[.bool false,.string ⟨#[]⟩,.int .i64 0]:=hf2
    obtain ⟨⟨y0,y1,y2⟩,-⟩:=hbk.k3
    clear hf2 hbk
    have HK3:Hid (Chk.first ((Chk.flts x).drop (2+1))=R):=Lib.hid HK2.out
    go_wp2_with fail
    go_roundw
    case rel=>exact ⟨2+1,by omega,by go_num,HK3,Lib.hid (fun _=>HP.out (by decide)),HB2,HQ2⟩
    case measure=>simp [intOf]
   | some p =>
    obtain ⟨wh,ec⟩:=p
    have hbk:Bk W2 Wk.heap.size 88 #[.bool true,.string wh,.int .i64 ec]:=hf2
    obtain ⟨⟨y0,y1,y2⟩,-⟩:=hbk.k3
    clear hf2 hbk
    have HE:Hid ((wh,ec)=R):=Lib.hid HK2.out
    go_wp2_with fail
    go_quiet (fail)
    go_wp2_with fail
    go_ret2
    exact ⟨by rw [←HE.out];rfl,below_drewN HB2.out nq⟩
  ·have hst:Chk.first ((Chk.flts x).drop 3)=Chk.first (Chk.run 131 (Chk.typesT x) none::(Chk.flts x).drop (3+1)):=rfl
   have HK2:Hid (Chk.first (Chk.run 131 (Chk.typesT x) none::(Chk.flts x).drop (3+1))=R):=Lib.hid (by rw [←hst];exact HK.out)
   clear hst HK
   have hix:=chk_ix3
   simp only [Int.cast_ofNat_Int]
   go_upto_region 5 with (fail)
   refine wp_named (fun W1 hW1=>?_)
   obtain ⟨hb1,hq1,-⟩:=fresh_box hW1
   clear hW1
   have HB1:=Lib.hid (HB.out.trans (hb1.mono hbs))
   have HQ1:=Lib.hid (HQ.out.below hb1 HQ.out.lt)
   have HF1:Hid (Chk.Fb W1 Wk.heap.size none):=Lib.hid hq1
   clear hb1 hq1 hix
   obtain ⟨⟨q0,q1,q2,q3⟩,-⟩:=HQ1.out.k4
   go_wp2_with fail
   refine (ctypes_any _ x (HFine.out.mid (HP.out (by decide))) Wk.heap.size none w W1 HKW.out HV.out HB1.out hbs HF1.out).mono ?_
   rintro e W2 ⟨rfl,hg2,hf2⟩
   have HB2:=Lib.hid (below_gb HB1.out hg2 hbs HB1.out.size)
   have HQ2:=Lib.hid (Bk.grown HQ1.out hg2 (by have:=HQ.out.lt;intro e;injection e with e;omega))
   obtain ⟨F,HF⟩:∃ F,Hid (Chk.run 131 (Chk.typesT x) none=F):=⟨_,Lib.hid rfl⟩
   rw [HF.out] at hf2 HK2
   clear hg2 q0 q1 q2 q3
   cases F with
   | none =>
    have hbk:Bk W2 Wk.heap.size 88 #[.bool false,.string ⟨#[]⟩,.int .i64 0]:=hf2
    obtain ⟨⟨y0,y1,y2⟩,-⟩:=hbk.k3
    clear hf2 hbk
    have HK3:Hid (Chk.first ((Chk.flts x).drop (3+1))=R):=Lib.hid HK2.out
    go_wp2_with fail
    go_roundw
    case rel=>exact ⟨3+1,by omega,by go_num,HK3,Lib.hid (fun _=>HP.out (by decide)),HB2,HQ2⟩
    case measure=>simp [intOf]
   | some p =>
    obtain ⟨wh,ec⟩:=p
    have hbk:Bk W2 Wk.heap.size 88 #[.bool true,.string wh,.int .i64 ec]:=hf2
    obtain ⟨⟨y0,y1,y2⟩,-⟩:=hbk.k3
    clear hf2 hbk
    have HE:Hid ((wh,ec)=R):=Lib.hid HK2.out
    go_wp2_with fail
    go_quiet (fail)
    go_wp2_with fail
    go_ret2
    exact ⟨by rw [←HE.out];rfl,below_drewN HB2.out nq⟩
  ·have hst:Chk.first ((Chk.flts x).drop 4)=Chk.first (Chk.run 132 (Chk.bottomsT x) none::(Chk.flts x).drop (4+1)):=rfl
   have HK2:Hid (Chk.first (Chk.run 132 (Chk.bottomsT x) none::(Chk.flts x).drop (4+1))=R):=Lib.hid (by rw [←hst];exact HK.out)
   clear hst HK
   have hix:=chk_ix4
   simp only [Int.cast_ofNat_Int]
   go_upto_region 5 with (fail)
   refine wp_named (fun W1 hW1=>?_)
   obtain ⟨hb1,hq1,-⟩:=fresh_box hW1
   clear hW1
   have HB1:=Lib.hid (HB.out.trans (hb1.mono hbs))
   have HQ1:=Lib.hid (HQ.out.below hb1 HQ.out.lt)
   have HF1:Hid (Chk.Fb W1 Wk.heap.size none):=Lib.hid hq1
   clear hb1 hq1 hix
   obtain ⟨⟨q0,q1,q2,q3⟩,-⟩:=HQ1.out.k4
   go_wp2_with fail
   refine (cbottoms_any _ x (HFine.out.mid (HP.out (by decide))) Wk.heap.size none w W1 HKW.out HV.out HB1.out hbs HF1.out).mono ?_
   rintro e W2 ⟨rfl,hg2,hf2⟩
   have HB2:=Lib.hid (below_gb HB1.out hg2 hbs HB1.out.size)
   have HQ2:=Lib.hid (Bk.grown HQ1.out hg2 (by have:=HQ.out.lt;intro e;injection e with e;omega))
   obtain ⟨F,HF⟩:∃ F,Hid (Chk.run 132 (Chk.bottomsT x) none=F):=⟨_,Lib.hid rfl⟩
   rw [HF.out] at hf2 HK2
   clear hg2 q0 q1 q2 q3
   cases F with
   | none =>
    have hbk:Bk W2 Wk.heap.size 88 #[.bool false,.string ⟨#[]⟩,.int .i64 0]:=hf2
    obtain ⟨⟨y0,y1,y2⟩,-⟩:=hbk.k3
    clear hf2 hbk
    have HK3:Hid (Chk.first ((Chk.flts x).drop (4+1))=R):=Lib.hid HK2.out
    go_wp2_with fail
    go_roundw
    case rel=>exact ⟨4+1,by omega,by go_num,HK3,Lib.hid (fun _=>HP.out (by decide)),HB2,HQ2⟩
    case measure=>simp [intOf]
   | some p =>
    obtain ⟨wh,ec⟩:=p
    have hbk:Bk W2 Wk.heap.size 88 #[.bool true,.string wh,.int .i64 ec]:=hf2
    obtain ⟨⟨y0,y1,y2⟩,-⟩:=hbk.k3
    clear hf2 hbk
    have HE:Hid ((wh,ec)=R):=Lib.hid HK2.out
    go_wp2_with fail
    go_quiet (fail)
    go_wp2_with fail
    go_ret2
    exact ⟨by rw [←HE.out];rfl,below_drewN HB2.out nq⟩
  ·have hst:Chk.first ((Chk.flts x).drop 5)=Chk.first (Chk.run 134 (Chk.effectsT x) none::(Chk.flts x).drop (5+1)):=rfl
   have HK2:Hid (Chk.first (Chk.run 134 (Chk.effectsT x) none::(Chk.flts x).drop (5+1))=R):=Lib.hid (by rw [←hst];exact HK.out)
   clear hst HK
   have hix:=chk_ix5
   simp only [Int.cast_ofNat_Int]
   go_upto_region 5 with (fail)
   refine wp_named (fun W1 hW1=>?_)
   obtain ⟨hb1,hq1,-⟩:=fresh_box hW1
   clear hW1
   have HB1:=Lib.hid (HB.out.trans (hb1.mono hbs))
   have HQ1:=Lib.hid (HQ.out.below hb1 HQ.out.lt)
   have HF1:Hid (Chk.Fb W1 Wk.heap.size none):=Lib.hid hq1
   clear hb1 hq1 hix
   obtain ⟨⟨q0,q1,q2,q3⟩,-⟩:=HQ1.out.k4
   go_wp2_with fail
   refine (ceffects_any _ x (HFine.out.mid (HP.out (by decide))) Wk.heap.size none w W1 HKW.out HV.out HB1.out hbs HF1.out).mono ?_
   rintro e W2 ⟨rfl,hg2,hf2⟩
   have HB2:=Lib.hid (below_gb HB1.out hg2 hbs HB1.out.size)
   have HQ2:=Lib.hid (Bk.grown HQ1.out hg2 (by have:=HQ.out.lt;intro e;injection e with e;omega))
   obtain ⟨F,HF⟩:∃ F,Hid (Chk.run 134 (Chk.effectsT x) none=F):=⟨_,Lib.hid rfl⟩
   rw [HF.out] at hf2 HK2
   clear hg2 q0 q1 q2 q3
   cases F with
   | none =>
    have hbk:Bk W2 Wk.heap.size 88 #[.bool false,.string ⟨#[]⟩,.int .i64 0]:=hf2
    obtain ⟨⟨y0,y1,y2⟩,-⟩:=hbk.k3
    clear hf2 hbk
    have HK3:Hid (Chk.first ((Chk.flts x).drop (5+1))=R):=Lib.hid HK2.out
    go_wp2_with fail
    go_roundw
    case rel=>exact ⟨5+1,by omega,by go_num,HK3,Lib.hid (fun _=>HP.out (by decide)),HB2,HQ2⟩
    case measure=>simp [intOf]
   | some p =>
    obtain ⟨wh,ec⟩:=p
    have hbk:Bk W2 Wk.heap.size 88 #[.bool true,.string wh,.int .i64 ec]:=hf2
    obtain ⟨⟨y0,y1,y2⟩,-⟩:=hbk.k3
    clear hf2 hbk
    have HE:Hid ((wh,ec)=R):=Lib.hid HK2.out
    go_wp2_with fail
    go_quiet (fail)
    go_wp2_with fail
    go_ret2
    exact ⟨by rw [←HE.out];rfl,below_drewN HB2.out nq⟩
  ·have hst:Chk.first ((Chk.flts x).drop 6)=Chk.first (Chk.run 133 (Chk.undosT x) none::(Chk.flts x).drop (6+1)):=rfl
   have HK2:Hid (Chk.first (Chk.run 133 (Chk.undosT x) none::(Chk.flts x).drop (6+1))=R):=Lib.hid (by rw [←hst];exact HK.out)
   clear hst HK
   have hix:=chk_ix6
   simp only [Int.cast_ofNat_Int]
   go_upto_region 5 with (fail)
   refine wp_named (fun W1 hW1=>?_)
   obtain ⟨hb1,hq1,-⟩:=fresh_box hW1
   clear hW1
   have HB1:=Lib.hid (HB.out.trans (hb1.mono hbs))
   have HQ1:=Lib.hid (HQ.out.below hb1 HQ.out.lt)
   have HF1:Hid (Chk.Fb W1 Wk.heap.size none):=Lib.hid hq1
   clear hb1 hq1 hix
   obtain ⟨⟨q0,q1,q2,q3⟩,-⟩:=HQ1.out.k4
   go_wp2_with fail
   refine (cundos_any _ x (HFine.out.mid (HP.out (by decide))) Wk.heap.size none w W1 HKW.out HV.out HB1.out hbs HF1.out).mono ?_
   rintro e W2 ⟨rfl,hg2,hf2⟩
   have HB2:=Lib.hid (below_gb HB1.out hg2 hbs HB1.out.size)
   have HQ2:=Lib.hid (Bk.grown HQ1.out hg2 (by have:=HQ.out.lt;intro e;injection e with e;omega))
   obtain ⟨F,HF⟩:∃ F,Hid (Chk.run 133 (Chk.undosT x) none=F):=⟨_,Lib.hid rfl⟩
   rw [HF.out] at hf2 HK2
   clear hg2 q0 q1 q2 q3
   cases F with
   | none =>
    have hbk:Bk W2 Wk.heap.size 88 #[.bool false,.string ⟨#[]⟩,.int .i64 0]:=hf2
    obtain ⟨⟨y0,y1,y2⟩,-⟩:=hbk.k3
    clear hf2 hbk
    have HK3:Hid (Chk.first ((Chk.flts x).drop (6+1))=R):=Lib.hid HK2.out
    go_wp2_with fail
    go_roundw
    case rel=>exact ⟨6+1,by omega,by go_num,HK3,Lib.hid (fun _=>HP.out (by decide)),HB2,HQ2⟩
    case measure=>simp [intOf]
   | some p =>
    obtain ⟨wh,ec⟩:=p
    have hbk:Bk W2 Wk.heap.size 88 #[.bool true,.string wh,.int .i64 ec]:=hf2
    obtain ⟨⟨y0,y1,y2⟩,-⟩:=hbk.k3
    clear hf2 hbk
    have HE:Hid ((wh,ec)=R):=Lib.hid HK2.out
    go_wp2_with fail
    go_quiet (fail)
    go_wp2_with fail
    go_ret2
    exact ⟨by rw [←HE.out];rfl,below_drewN HB2.out nq⟩
  ·have hst:Chk.first ((Chk.flts x).drop 7)=Chk.first (Chk.run 240 (Chk.sagasT x) none::(Chk.flts x).drop (7+1)):=rfl
   have HK2:Hid (Chk.first (Chk.run 240 (Chk.sagasT x) none::(Chk.flts x).drop (7+1))=R):=Lib.hid (by rw [←hst];exact HK.out)
   clear hst HK
   have hix:=chk_ix7
   simp only [Int.cast_ofNat_Int]
   go_upto_region 5 with (fail)
   refine wp_named (fun W1 hW1=>?_)
   obtain ⟨hb1,hq1,-⟩:=fresh_box hW1
   clear hW1
   have HB1:=Lib.hid (HB.out.trans (hb1.mono hbs))
   have HQ1:=Lib.hid (HQ.out.below hb1 HQ.out.lt)
   have HF1:Hid (Chk.Fb W1 Wk.heap.size none):=Lib.hid hq1
   clear hb1 hq1 hix
   obtain ⟨⟨q0,q1,q2,q3⟩,-⟩:=HQ1.out.k4
   go_wp2_with fail
   refine (csagas_any _ x (HFine.out.mid (HP.out (by decide))).small Wk.heap.size none w W1 HV.out HB1.out hbs HF1.out).mono ?_
   rintro e W2 ⟨rfl,hg2,hf2⟩
   have HB2:=Lib.hid (below_gb HB1.out hg2 hbs HB1.out.size)
   have HQ2:=Lib.hid (Bk.grown HQ1.out hg2 (by have:=HQ.out.lt;intro e;injection e with e;omega))
   obtain ⟨F,HF⟩:∃ F,Hid (Chk.run 240 (Chk.sagasT x) none=F):=⟨_,Lib.hid rfl⟩
   rw [HF.out] at hf2 HK2
   clear hg2 q0 q1 q2 q3
   cases F with
   | none =>
    have hbk:Bk W2 Wk.heap.size 88 #[.bool false,.string ⟨#[]⟩,.int .i64 0]:=hf2
    obtain ⟨⟨y0,y1,y2⟩,-⟩:=hbk.k3
    clear hf2 hbk
    have HK3:Hid (Chk.first ((Chk.flts x).drop (7+1))=R):=Lib.hid HK2.out
    go_wp2_with fail
    go_roundw
    case rel=>exact ⟨7+1,by omega,by go_num,HK3,Lib.hid (fun _=>HP.out (by decide)),HB2,HQ2⟩
    case measure=>simp [intOf]
   | some p =>
    obtain ⟨wh,ec⟩:=p
    have hbk:Bk W2 Wk.heap.size 88 #[.bool true,.string wh,.int .i64 ec]:=hf2
    obtain ⟨⟨y0,y1,y2⟩,-⟩:=hbk.k3
    clear hf2 hbk
    have HE:Hid ((wh,ec)=R):=Lib.hid HK2.out
    go_wp2_with fail
    go_quiet (fail)
    go_wp2_with fail
    go_ret2
    exact ⟨by rw [←HE.out];rfl,below_drewN HB2.out nq⟩
  ·have hst:Chk.first ((Chk.flts x).drop 8)=Chk.first (Chk.run 241 (Chk.stepsT x) none::(Chk.flts x).drop (8+1)):=rfl
   have HK2:Hid (Chk.first (Chk.run 241 (Chk.stepsT x) none::(Chk.flts x).drop (8+1))=R):=Lib.hid (by rw [←hst];exact HK.out)
   clear hst HK
   have hix:=chk_ix8
   simp only [Int.cast_ofNat_Int]
   go_upto_region 5 with (fail)
   refine wp_named (fun W1 hW1=>?_)
   obtain ⟨hb1,hq1,-⟩:=fresh_box hW1
   clear hW1
   have HB1:=Lib.hid (HB.out.trans (hb1.mono hbs))
   have HQ1:=Lib.hid (HQ.out.below hb1 HQ.out.lt)
   have HF1:Hid (Chk.Fb W1 Wk.heap.size none):=Lib.hid hq1
   clear hb1 hq1 hix
   obtain ⟨⟨q0,q1,q2,q3⟩,-⟩:=HQ1.out.k4
   go_wp2_with fail
   refine (csteps_any _ x (HFine.out.mid (HP.out (by decide))) Wk.heap.size none w W1 HKW.out HV.out HB1.out hbs HF1.out).mono ?_
   rintro e W2 ⟨rfl,hg2,hf2⟩
   have HB2:=Lib.hid (below_gb HB1.out hg2 hbs HB1.out.size)
   have HQ2:=Lib.hid (Bk.grown HQ1.out hg2 (by have:=HQ.out.lt;intro e;injection e with e;omega))
   obtain ⟨F,HF⟩:∃ F,Hid (Chk.run 241 (Chk.stepsT x) none=F):=⟨_,Lib.hid rfl⟩
   rw [HF.out] at hf2 HK2
   clear hg2 q0 q1 q2 q3
   cases F with
   | none =>
    have hbk:Bk W2 Wk.heap.size 88 #[.bool false,.string ⟨#[]⟩,.int .i64 0]:=hf2
    obtain ⟨⟨y0,y1,y2⟩,-⟩:=hbk.k3
    clear hf2 hbk
    have HK3:Hid (Chk.first ((Chk.flts x).drop (8+1))=R):=Lib.hid HK2.out
    go_wp2_with fail
    go_roundw
    case rel=>exact ⟨8+1,by omega,by go_num,HK3,Lib.hid (fun _=>HP.out (by decide)),HB2,HQ2⟩
    case measure=>simp [intOf]
   | some p =>
    obtain ⟨wh,ec⟩:=p
    have hbk:Bk W2 Wk.heap.size 88 #[.bool true,.string wh,.int .i64 ec]:=hf2
    obtain ⟨⟨y0,y1,y2⟩,-⟩:=hbk.k3
    clear hf2 hbk
    have HE:Hid ((wh,ec)=R):=Lib.hid HK2.out
    go_wp2_with fail
    go_quiet (fail)
    go_wp2_with fail
    go_ret2
    exact ⟨by rw [←HE.out];rfl,below_drewN HB2.out nq⟩
  ·have hst:Chk.first ((Chk.flts x).drop 9)=Chk.first (Chk.run 133 (Chk.waysT x) none::(Chk.flts x).drop (9+1)):=rfl
   have HK2:Hid (Chk.first (Chk.run 133 (Chk.waysT x) none::(Chk.flts x).drop (9+1))=R):=Lib.hid (by rw [←hst];exact HK.out)
   clear hst HK
   have hix:=chk_ix9
   simp only [Int.cast_ofNat_Int]
   go_upto_region 5 with (fail)
   refine wp_named (fun W1 hW1=>?_)
   obtain ⟨hb1,hq1,-⟩:=fresh_box hW1
   clear hW1
   have HB1:=Lib.hid (HB.out.trans (hb1.mono hbs))
   have HQ1:=Lib.hid (HQ.out.below hb1 HQ.out.lt)
   have HF1:Hid (Chk.Fb W1 Wk.heap.size none):=Lib.hid hq1
   clear hb1 hq1 hix
   obtain ⟨⟨q0,q1,q2,q3⟩,-⟩:=HQ1.out.k4
   go_wp2_with fail
   refine (cways_any _ x (HFine.out.mid (HP.out (by decide))) Wk.heap.size none w W1 HKW.out HV.out HB1.out hbs HF1.out).mono ?_
   rintro e W2 ⟨rfl,hg2,hf2⟩
   have HB2:=Lib.hid (below_gb HB1.out hg2 hbs HB1.out.size)
   have HQ2:=Lib.hid (Bk.grown HQ1.out hg2 (by have:=HQ.out.lt;intro e;injection e with e;omega))
   obtain ⟨F,HF⟩:∃ F,Hid (Chk.run 133 (Chk.waysT x) none=F):=⟨_,Lib.hid rfl⟩
   rw [HF.out] at hf2 HK2
   clear hg2 q0 q1 q2 q3
   cases F with
   | none =>
    have hbk:Bk W2 Wk.heap.size 88 #[.bool false,.string ⟨#[]⟩,.int .i64 0]:=hf2
    obtain ⟨⟨y0,y1,y2⟩,-⟩:=hbk.k3
    clear hf2 hbk
    have HK3:Hid (Chk.first ((Chk.flts x).drop (9+1))=R):=Lib.hid HK2.out
    go_wp2_with fail
    go_roundw
    case rel=>exact ⟨9+1,by omega,by go_num,HK3,Lib.hid (fun _=>HP.out (by decide)),HB2,HQ2⟩
    case measure=>simp [intOf]
   | some p =>
    obtain ⟨wh,ec⟩:=p
    have hbk:Bk W2 Wk.heap.size 88 #[.bool true,.string wh,.int .i64 ec]:=hf2
    obtain ⟨⟨y0,y1,y2⟩,-⟩:=hbk.k3
    clear hf2 hbk
    have HE:Hid ((wh,ec)=R):=Lib.hid HK2.out
    go_wp2_with fail
    go_quiet (fail)
    go_wp2_with fail
    go_ret2
    exact ⟨by rw [←HE.out];rfl,below_drewN HB2.out nq⟩
  ·have HE:Hid ((⟨#[]⟩,0)=R):=Lib.hid (by rw [←HK.out];rfl)
   go_wp2_with fail
   go_ret2
   exact ⟨by rw [←HE.out];rfl,HB.out⟩
theorem ccheck_any (v:Value) (x:Id.Sch) (hF:Chk.Fine x) (w:World) (hkw:Tk.KW w) (hv:Id.SchV w none v x) :
  Calls Tryz.prog 10 #[v] w fun e w'=>e=.returned (.tuple #[.string (Chk.check x).1,.int .i64 (Chk.check x).2])∧Below w.heap.size w w':=ccheckW_any v x hF.mid.wide w hkw hv
end Go.Proofs.YtogijkhenihaaaaGreatDoor
